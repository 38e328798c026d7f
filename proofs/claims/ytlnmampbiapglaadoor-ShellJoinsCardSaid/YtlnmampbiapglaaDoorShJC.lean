/- ShellJoins: the law cairnlaw20.ShellJoins returns true for every list of words and every comment, and its input reads as it did; the package variables start as the program's text lays them; no other condition. -/
import Derived.Test.YtlnmampbiapglaaDoorShJ5
import Derived.Test.YtlnmampbiapglaaDoorShQC
import Derived.Test.YtlnmampbiapglaaDoorXOpen2
set_option linter.unusedSimpArgs false
set_option linter.unusedVariables false
set_option maxRecDepth 100000
namespace Go.Sh
open Go Go.X Go.Proofs
open Go.ChangeShapes Go.WideShapes Go.ChangeAt Go.RowKit
open Go.ChangeMaps (open_string shut_string)

instance : Inhabited Wd := ⟨⟨0, fun _ => 0⟩⟩

theorem errOld {W : World} (hE : ErrIn W) (hn : 1 ≤ W.heap.size) : @ErrVar (oldWI W) := fun w hw => by
  obtain ⟨ev, h1, h2⟩ := hE
  exact ⟨ev, by rw [World.cell?_of_block (hw 0 (by omega))]; exact h1, h2⟩

theorem wd_of_trod {H : Type} {enc : TypeId × Value → H} {W : World} {held : Bool} (fuel : Nat) (us : List Value) (x : DataW H × List MemPlace) (h : DataW.trod enc Tryd.prog W 0 (fun _ => true) held fuel 33 us = some x) :
    ∃ s : Wd, @AReads (oldWI W) s.c us := by
  letI := oldWI W
  obtain ⟨n, st, _, hr⟩ := sl_of_trod (α := UInt8) (W := W) (fun b => [.int .u8 (b.toNat : Int)]) (fun _ => rfl) (fun w' hw => hw) (m := 1) (by decide) (fun _ _ _ h => byte_of_trod (show Tryd.prog.underlying 5 = some (.int .u8) from Tryd.underlying5) h) Tryd.underlying33 (by kernel_rfl) h
  exact ⟨⟨n, st⟩, hr⟩

theorem law_joins {H : Type} {enc : TypeId × Value → H} {W : World} {b0 : Nat} {held : Bool} {v0 : Value} {d0 : DataW H} {p0 : List MemPlace} (cm : ByteArray) (hE : ErrIn W) (hn : 1 ≤ W.heap.size)
    (hv0 : Value.okWide Tryd.prog W .any b0 36 v0) (h0 : DataW.Trod enc Tryd.prog W 0 (fun _ => true) held 36 v0 d0 p0) :
    Calls Tryd.prog 6 #[v0, .string cm] W fun e W' => e = .returned (.bool true) ∧ Below W.heap.size W W' := by
  letI := oldWI W
  obtain ⟨ao, len, cap, rfl⟩ := okWide_slice Tryd.underlying36 hv0
  obtain ⟨fuel, hf⟩ := h0
  obtain ⟨l, n, st, u, hu, hle, hren, g0, g1, g2⟩ := tab_of_trod (α := Wd) (W := W) Wd.c (fun w' hw => hw) (m := 1) (by decide) wd_of_trod Tryd.underlying36 (by kernel_rfl) hf
  have hu : u = .slice ao len cap := by
    have : [Value.slice ao len cap] = [u] := by simpa [Value.cells] using hu
    exact (List.cons.inj this).1.symm
  subst hu
  have hrep : RepW (fun _ => l) [.tab 33 1 n fun i => (st i).c] W := by
    refine ⟨fun i o hi => ?_, fun i o hi => ?_, fun i o hi hB => ?_, fun i j oi oj hi hj hij => ?_, fun b hb => rfl, fun i o hi ho => ?_, Nat.le_refl _⟩
    · match i, hi with
      | 0, hi => cases hi; exact ⟨g0, g1, g2⟩
    · match i, hi with
      | 0, hi => cases hi; trivial
    · match i, hi with
      | 0, hi => cases hi; exact hB.elim
    · match i, j, hi, hj with
      | 0, 0, _, _ => exact absurd rfl hij
    · match i, hi with
      | 0, hi => cases hi; exact ho.2.elim
  have hmx : maxLen ≤ 9223372036854775807 := by decide
  have hc := lj_run (esc_ok (errOld hE hn)) n 0 (by omega) cm st (fun _ => l) W hrep (fun y hy => by
    simp only [List.mem_cons, List.not_mem_nil, or_false] at hy
    rcases hy with rfl | rfl
    · exact .slice (by simp [jV])
    · exact .plain rfl)
  have e1 : ([Value.slice (some ⟨0, 3, some 0⟩) n 0, .string cm].map (ren fun _ => l)).toArray = #[.slice ao len cap, .string cm] := by simp [hren]
  rw [e1] at hc
  refine hc.mono ?_
  rintro e w' ⟨u, env', V', v', rfl, hrv, hW', hF, rfl⟩
  refine ⟨?_, Fr.below hF fun i o h => ?_⟩
  · rcases hrv with h | h
    · cases h
    · rw [h]; simp
  · match i, h with
    | 0, h => cases h; rfl

abbrev JR := Go.Proofs.YtlnmampbiapglaaDoor.Rows.shellJoinsRow
abbrev JS := Go.Proofs.YtlnmampbiapglaaDoor.Rows.shellJoinsSpec

theorem j_contract (H : Type) (enc : TypeId × Value → H) (W : World) (base : Nat) (args : Array Value) (ds gs : List (DataW H)) (before : List MemPlace)
    (hval : ∀ (j : Nat) t v, Tryd.f6.params[j]? = some t → args[j]? = some v → Value.okWide Tryd.prog W .any base t v)
    (hW : DataW.Whole enc Tryd.prog Tryd.f6.params.toList JS.vars false W args.toList ds gs before) (hL : laidMetH Tryd.prog JR.laid W) :
    Calls Tryd.prog 6 args W fun e W' => ∃ v, e = .returned v ∧ JS.post enc Tryd.prog Tryd.f6 false true false false W args v W' := by
  have hW' := hW
  obtain ⟨p, q, hA0, hV, rfl, hfz, hnd⟩ := hW
  have hA : DataW.TrodAll enc Tryd.prog W 0 (fun _ => true) true Tryd.f6.params.toList args.toList ds p := hA0
  rw [Tryd.params6] at hA hval
  obtain ⟨v0, v1, d0, d1, p0, p1, ha, rfl, rfl, h0, h1⟩ := trodAll_two hA
  obtain ⟨rfl, rfl⟩ := trodVars_none hV
  subst ha
  have hlt : ∀ x ∈ p0 ++ p1, x.block < W.heap.size := fun x hx => hW'.lt x (by simpa using hx)
  obtain ⟨s, rfl, rfl, rfl, ws⟩ := open_string Tryd.underlying9 (hval 1 9 v1 rfl rfl) h1
  have hL1 : laidMet Tryd.prog JR.laid W := by
    have h := hL
    unfold laidMetH at h
    rw [show (JR.laid.filter fun x => x.2.handleName?.isSome) = [] from by kernel_rfl] at h
    exact h
  obtain ⟨hE, hn⟩ := errIn_of (Lib.laidMet.reads hL1 (n := "strconv.ErrSyntax") (d := Go.Proofs.YtlnmampbiapglaaDoor.Rows.laid_strconv_ErrSyntax) (.tail _ (.tail _ (.tail _ (.tail _ (.tail _ (.head _)))))))
  refine (law_joins s hE hn (hval 0 36 v0 rfl rfl) h0).mono fun e W' ⟨he, hb⟩ => ?_
  subst he
  exact ⟨_, rfl, _, _, _, [], _, [], hW', trodAll_mk1 (shut_bool Tryd.underlying4 _), trodAll_mk2 (Below.trod laidB (by kernel_rfl) (of_decide_eq_true (by kernel_rfl)) h0 hb fun x hx => hlt x (List.mem_append_left _ hx)) (shut_string Tryd.underlying9 ws), rfl, hb.frame _, fun h => by cases h⟩

/-! The witness: a world that lays the variables, no words, the empty comment. -/
theorem j_laid_met (os : Os) : laidMet Tryd.prog JR.laid ((World.laidAll Tryd.prog os JR.laid).forCall (fun _ _ => 0) ⟨#[], #[.slice none 0 0, .string ⟨#[]⟩], []⟩).memory := laidMet_laidAll _ (by kernel_rfl) (by kernel_rfl)
theorem j_shaped (os : Os) : ((World.laidAll Tryd.prog os JR.laid).forCall (fun _ _ => 0) ⟨#[], #[.slice none 0 0, .string ⟨#[]⟩], []⟩).Shaped Tryd.prog := World.shaped_of_ZipB (by kernel_rfl) (by kernel_rfl)
theorem j_reads (os : Os) {H : Type} (enc : TypeId × Value → H) : ∃ places, DataW.whole enc Tryd.prog ((World.laidAll Tryd.prog os JR.laid).forCall (fun _ _ => 0) ⟨#[], #[.slice none 0 0, .string ⟨#[]⟩], []⟩).memory Tryd.f6.params.toList JS.vars false #[Value.slice none 0 0, .string ⟨#[]⟩].toList 8 = some ([.nil, .lit (.string [])], [], places) :=
  ⟨[], by kernel_rfl⟩

abbrev JU := OpenSpec.ofChange JS

theorem j_lifted (os : Os) (started : os.Started) (H : Type) (enc : TypeId × Value → H) (F : Stop.Interp) :
    ReturnsInHanded {} Tryd.checked os 6 .any (JU.preRow enc Tryd.prog Tryd.f6 JR.domain false JR.laid) ((JU.at F).post enc Tryd.prog Tryd.f6 false true false false) := by
  obtain ⟨places, hx⟩ := j_reads os enc
  refine returnsInHanded_of_row (C := Tryd.checked) (s := JU) ownKnobs started (by kernel_rfl) Tryd.func6
    ⟨World.laidAll Tryd.prog os JR.laid, fun _ _ => 0, ⟨#[], #[.slice none 0 0, .string ⟨#[]⟩], []⟩, World.laidAll_os _ _ _, j_shaped os, rfl, (Input.okWide_of_okWideB (by kernel_rfl)).2,
      OpenSpec.preRow_of_cond 8 hx (by kernel_rfl) (fun k hk => by cases hk) (by kernel_rfl) (by rw [MakeChecks.laidMetH_plain _ _ _ (by kernel_rfl)]; exact j_laid_met os),
      by simp only [Assume.holds]; exact ⟨by simp, by simp, fun _ => Modest.zero, by simp, by simp⟩⟩ ?_
  intro W base args ds gs before hval hW _ hcond _ hL _ _
  exact j_contract H enc W base args ds gs before hval hW hL
end Go.Sh

namespace Go.Proofs.YtlnmampbiapglaaDoor
open Go.ChangeShapes Go.WideShapes Go.ChangeAt Go.RowKit
theorem shellJoins_said : Rows.ShellJoinsSaid :=
  OpenClaim.holds_of_cond 6 Tryd.f6 rfl rfl rfl rfl rfl rfl rfl ⟨rfl, rfl, rfl, rfl, rfl⟩ rfl rfl rfl rfl rfl (by kernel_rfl) Tryd.func6 (by kernel_rfl)
    (of_decide_eq_true (by kernel_rfl)) (by unfold Func.isWrapper; first | (rw [if_pos (by decide +kernel)]; kernel_rfl) | (rw [if_neg (by decide +kernel)]; exact ⟨rfl, rfl⟩))
    (fun os started H enc _ F => by rw [OpenClaim.pre_eq_preRow]; exact Go.Sh.j_lifted os started H enc F)

theorem shellJoins_plain (f : FuncId) (fn : Func) (hf : Tryd.pinned.checked.prog.funcNamed "cairn/cairnlaw20.ShellJoins" = some f) (hfn : Tryd.pinned.checked.prog.funcs[f]? = some fn) :
    true = Tryd.pinned.checked.prog.looks [] ∧ ∀ (j : Nat) t, fn.params[j]? = some t → Tryd.pinned.checked.prog.wantsStandIn t = false := by
  obtain rfl : f = 6 := Option.some.inj ((show Tryd.prog.funcNamed "cairn/cairnlaw20.ShellJoins" = some 6 by kernel_rfl).symm.trans hf) |>.symm
  obtain rfl : fn = Tryd.f6 := (Option.some.inj (Tryd.func6.symm.trans hfn)).symm
  refine ⟨by kernel_rfl, fun j t ht => ?_⟩
  rw [Tryd.params6] at ht
  have hm : t ∈ [36, 9] := by simpa using Array.mem_of_getElem? ht
  have hall : ([36, 9].all fun u => !Tryd.prog.wantsStandIn u) = true := by kernel_rfl
  exact (show Tryd.prog.wantsStandIn t = false by simpa using List.all_eq_true.1 hall t hm)

/-- The card: the law returns true for every list of words and every comment, the package variables as the program's text lays them. -/
theorem shellJoins_card : Rows.ShellJoinsCardSaid :=
  Claim7.holds_tied_plain_at .later [] _ _ _ _ shellJoins_said (fun _ h => by cases h) (by kernel_rfl) (fun _ h => by cases h) shellJoins_row_tie rfl ⟨rfl, rfl⟩ (by kernel_rfl) rfl shellJoins_plain (by kernel_rfl)
#print axioms shellJoins_card
end Go.Proofs.YtlnmampbiapglaaDoor
