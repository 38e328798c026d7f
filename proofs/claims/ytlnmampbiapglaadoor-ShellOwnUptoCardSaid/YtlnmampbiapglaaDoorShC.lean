/- ShellWords: the law cairnlaw20.ShellWords returns true for every line of at most 2^20 letters, and its input reads as it did; the package variables start as the program's text lays them; no other condition. -/
import Derived.Test.YtlnmampbiapglaaDoorShG
import Derived.Test.YtlnmampbiapglaaDoorCards
import Derived.Test.YtlnmampbiapglaaDoorTie
import Derived.WalkKit
import Derived.ProofKit
import Derived.OpenShut
import Derived.Deep.DeepHandedRow
import Derived.Lib.LaidU8
import Derived.Lay
set_option linter.unusedSimpArgs false
set_option linter.unusedVariables false
namespace Go.Sh
open Go Go.X Go.Proofs
open Go.ChangeShapes Go.WideShapes Go.ChangeAt Go.RowKit
open Go.ChangeMaps (open_string shut_string)

theorem ownKnobs : ownKnob Tryd.prog.godebug = none := by kernel_rfl

/-- what is known of the first block: the variable of the library's error holds an error, or nil -/
def ErrIn (w : World) : Prop := ∃ ev, w.cell? ⟨0, 0, none⟩ = some ev ∧ (ev = .nilIface ∨ ∃ te pe, ev = .iface te pe)

instance errWI : WI where
  I := ErrIn
  n := 1
  keep := fun w w' h hI => by
    obtain ⟨ev, h1, h2⟩ := hI
    exact ⟨ev, by rw [World.cell?_of_block (h 0 (by decide))]; exact h1, h2⟩

theorem errVar : ErrVar := fun w h => h

theorem trod_iface {H : Type} {enc : TypeId × Value → H} {P : Program} {w : World} {base fuel : Nat} {spare : Nat → Bool} {held : Bool} {t : TypeId} {cs : List Value} {x : DataW H × List MemPlace} {m : Array (String × TypeId)} (ht : P.underlying t = some (.interface m)) (h : DataW.trod enc P w base spare held fuel t cs = some x) :
    ∃ ev, cs = [ev] ∧ (ev = .nilIface ∨ ∃ te pe, ev = .iface te pe) := by
  cases fuel with
  | zero => simp [DataW.trod] at h
  | succ n =>
    unfold DataW.trod at h
    rw [ht] at h
    split at h
    all_goals first
      | exact ⟨_, rfl, .inl rfl⟩
      | exact ⟨_, rfl, .inr ⟨_, _, rfl⟩⟩
      | (exfalso; simp_all; done)

theorem errIn_of {W : World} {d : DataW Unit} (h : Lib.VarReads Tryd.prog W "strconv.ErrSyntax" d) : ErrIn W ∧ 1 ≤ W.heap.size := by
  obtain ⟨g, t, cs, fuel, p, h1, h2, h3, h4⟩ := h
  obtain rfl : g = 0 := (Option.some.inj ((show Tryd.prog.globalNamed "strconv.ErrSyntax" = some 0 by kernel_rfl).symm.trans h1)).symm
  obtain rfl : t = 50 := (Option.some.inj ((show (Tryd.prog.globals[0]?).map (·.type) = some 50 by kernel_rfl).symm.trans h2)).symm
  unfold World.var? at h3
  rw [h1] at h3
  simp only [Option.bind_some] at h3
  split at h3
  · rename_i cs' t' fr hh
    cases h3
    have hc := trod_iface Tryd.underlying50 h4
    obtain ⟨ev, he, hev⟩ := hc
    refine ⟨⟨ev, ?_, hev⟩, ?_⟩
    · have : cs = #[ev] := by apply Array.ext'; simpa using he
      subst this
      simp [World.cell?, hh]
    · have := (Array.getElem?_eq_some_iff.1 hh).1
      omega
  · cases h3

theorem law_world (s : ByteArray) (hs : s.size ≤ 2147483648) (W : World) (hE : ErrIn W) (hn : 1 ≤ W.heap.size) :
    Calls Tryd.prog 3 #[.string s] W fun e W' => e = .returned (.bool true) ∧ Below W.heap.size W W' := by
  have hrep : RepW (fun _ => ⟨0, 0, 0, 0⟩) [] W := ⟨fun i o h => by simp at h, fun i o h => by simp at h, fun i o h => by simp at h, fun i j oi oj h => by simp at h, hE, fun i o h => by simp at h, hn⟩
  have h := law_ok errVar s hs (fun _ => ⟨0, 0, 0, 0⟩) W hrep (fun x hx => by simp at hx; subst hx; exact .plain rfl)
  have e1 : ([Value.string s].map (ren fun _ => ⟨0, 0, 0, 0⟩)).toArray = #[.string s] := by simp
  rw [e1] at h
  refine h.mono ?_
  rintro e w' ⟨u, env', V', v', rfl, hrv, hW', hF, rfl⟩
  refine ⟨?_, hF.os, hF.tape, hF.output, hF.size, fun k hk => hF.keep k hk fun i o hi => by simp at hi⟩
  rcases hrv with h | h
  · cases h
  · rw [h]; simp

abbrev SR := Go.Proofs.YtlnmampbiapglaaDoor.Rows.shellWordsUptoRow
abbrev SS := Go.Proofs.YtlnmampbiapglaaDoor.Rows.shellWordsSpec

set_option maxRecDepth 100000 in
theorem contract (H : Type) (enc : TypeId × Value → H) (W : World) (base : Nat) (args : Array Value) (ds gs : List (DataW H)) (before : List MemPlace)
    (hval : ∀ (j : Nat) t v, Tryd.f3.params[j]? = some t → args[j]? = some v → Value.okWide Tryd.prog W .any base t v)
    (hW : DataW.Whole enc Tryd.prog Tryd.f3.params.toList SS.vars false W args.toList ds gs before) (hL : laidMetH Tryd.prog SR.laid W)
    (hk : Go.Proofs.YtlnmampbiapglaaDoor.Rows.uptoSmall H (ds ++ gs) = true) :
    Calls Tryd.prog 3 args W fun e W' => ∃ v, e = .returned v ∧ SS.post enc Tryd.prog Tryd.f3 false true false false W args v W' := by
  have hW' := hW
  obtain ⟨p, q, hA0, hV, rfl, hfz, hnd⟩ := hW
  have hA : DataW.TrodAll enc Tryd.prog W 0 (fun _ => true) true Tryd.f3.params.toList args.toList ds p := hA0
  rw [Tryd.params3] at hA hval
  obtain ⟨v0, d0, rfl, rfl, h0⟩ := trodAll_one hA
  obtain ⟨rfl, rfl⟩ := trodVars_none hV
  obtain ⟨s, rfl, rfl, rfl, ws⟩ := open_string Tryd.underlying9 (hval 0 9 v0 rfl rfl) h0
  simp only [List.append_nil] at hW'
  have hs : s.size ≤ 2147483648 := by
    have h : Go.Proofs.YtlnmampbiapglaaDoor.Rows.uptoBulkAll ([.lit (.string s.data.toList)] ++ [] : List (DataW H)) ≤ 1048576 := of_decide_eq_true hk
    simp only [List.append_nil, Go.Proofs.YtlnmampbiapglaaDoor.Rows.uptoBulkAll, Go.Proofs.YtlnmampbiapglaaDoor.Rows.uptoBulk] at h
    have h2 : s.data.toList.length = s.size := rfl
    omega
  have hL1 : laidMet Tryd.prog SR.laid W := by
    have h := hL
    unfold laidMetH at h
    rw [show (SR.laid.filter fun x => x.2.handleName?.isSome) = [] from by kernel_rfl] at h
    exact h
  obtain ⟨hE, hn⟩ := errIn_of (Lib.laidMet.reads hL1 (n := "strconv.ErrSyntax") (d := Go.Proofs.YtlnmampbiapglaaDoor.Rows.laid_strconv_ErrSyntax) (.tail _ (.tail _ (.tail _ (.tail _ (.tail _ (.head _)))))))
  refine (law_world s hs W hE hn).mono fun e W' ⟨he, hb⟩ => ?_
  subst he
  exact ⟨_, rfl, _, _, _, [], [], [], hW', trodAll_mk1 (shut_bool Tryd.underlying4 _), trodAll_mk1 (shut_string Tryd.underlying9 ws), rfl, hb.frame _, fun h => by cases h⟩

/-! The witness: a world that lays the eight variables, and the empty line. -/
theorem laid_met (os : Os) : laidMet Tryd.prog SR.laid ((World.laidAll Tryd.prog os SR.laid).forCall (fun _ _ => 0) ⟨#[], #[.string ⟨#[]⟩], []⟩).memory := laidMet_laidAll _ (by kernel_rfl) (by kernel_rfl)
theorem shaped (os : Os) : ((World.laidAll Tryd.prog os SR.laid).forCall (fun _ _ => 0) ⟨#[], #[.string ⟨#[]⟩], []⟩).Shaped Tryd.prog := World.shaped_of_ZipB (by kernel_rfl) (by kernel_rfl)
theorem reads (os : Os) {H : Type} (enc : TypeId × Value → H) : ∃ places, DataW.whole enc Tryd.prog ((World.laidAll Tryd.prog os SR.laid).forCall (fun _ _ => 0) ⟨#[], #[.string ⟨#[]⟩], []⟩).memory Tryd.f3.params.toList SS.vars false #[Value.string ⟨#[]⟩].toList 8 = some ([.lit (.string [])], [], places) :=
  ⟨[], by kernel_rfl⟩

abbrev SU := Go.Proofs.YtlnmampbiapglaaDoor.Rows.OpenSpec.upto SS

set_option maxRecDepth 100000 in
theorem lifted (os : Os) (started : os.Started) (H : Type) (enc : TypeId × Value → H) (F : Stop.Interp) :
    ReturnsInHanded {} Tryd.checked os 3 .any (SU.preRow enc Tryd.prog Tryd.f3 SR.domain false SR.laid) ((SU.at F).post enc Tryd.prog Tryd.f3 false true false false) := by
  obtain ⟨places, hx⟩ := reads os enc
  refine returnsInHanded_of_row (C := Tryd.checked) (s := SU) ownKnobs started (by kernel_rfl) Tryd.func3
    ⟨World.laidAll Tryd.prog os SR.laid, fun _ _ => 0, ⟨#[], #[.string ⟨#[]⟩], []⟩, World.laidAll_os _ _ _, shaped os, rfl, (Input.okWide_of_okWideB (by kernel_rfl)).2,
      OpenSpec.preRow_of_cond 8 hx (by kernel_rfl) (fun k hk => by cases hk; kernel_rfl) (by kernel_rfl) (by rw [MakeChecks.laidMetH_plain _ _ _ (by kernel_rfl)]; exact laid_met os),
      by simp only [Assume.holds]; exact ⟨by simp, by simp, fun _ => Modest.zero, by simp, by simp⟩⟩ ?_
  intro W base args ds gs before hval hW _ hcond _ hL _ _
  exact contract H enc W base args ds gs before hval hW hL (hcond _ rfl)
end Go.Sh

namespace Go.Proofs.YtlnmampbiapglaaDoor
open Go.ChangeShapes Go.WideShapes Go.ChangeAt Go.RowKit
theorem shellWordsUpto_said : Rows.ShellWordsUptoSaid :=
  OpenClaim.holds_of_cond 3 Tryd.f3 rfl rfl rfl rfl rfl rfl rfl ⟨rfl, rfl, rfl, rfl, rfl⟩ rfl rfl rfl rfl rfl (by kernel_rfl) Tryd.func3 (by kernel_rfl)
    (of_decide_eq_true (by kernel_rfl)) (by unfold Func.isWrapper; first | (rw [if_pos (by decide +kernel)]; kernel_rfl) | (rw [if_neg (by decide +kernel)]; exact ⟨rfl, rfl⟩))
    (fun os started H enc _ F => by rw [OpenClaim.pre_eq_preRow]; exact Go.Sh.lifted os started H enc F)

theorem shellWords_plain (f : FuncId) (fn : Func) (hf : Tryd.pinned.checked.prog.funcNamed "cairn/cairnlaw20.ShellWords" = some f) (hfn : Tryd.pinned.checked.prog.funcs[f]? = some fn) :
    true = Tryd.pinned.checked.prog.looks [] ∧ ∀ (j : Nat) t, fn.params[j]? = some t → Tryd.pinned.checked.prog.wantsStandIn t = false := by
  obtain rfl : f = 3 := Option.some.inj ((show Tryd.prog.funcNamed "cairn/cairnlaw20.ShellWords" = some 3 by kernel_rfl).symm.trans hf) |>.symm
  obtain rfl : fn = Tryd.f3 := (Option.some.inj (Tryd.func3.symm.trans hfn)).symm
  refine ⟨by kernel_rfl, fun j t ht => ?_⟩
  rw [Tryd.params3] at ht
  have hm : t ∈ [9] := by simpa using Array.mem_of_getElem? ht
  have hall : ([9].all fun u => !Tryd.prog.wantsStandIn u) = true := by kernel_rfl
  exact (show Tryd.prog.wantsStandIn t = false by simpa using List.all_eq_true.1 hall t hm)

/-- The second form's card: the law returns true for every line of bulk at most 2^20, the package variables as the program's text lays them. -/
theorem shellWordsUpto_card : Rows.ShellWordsUptoCardSaid :=
  Claim7.holds_tied_plain_at .later [] _ _ _ _ shellWordsUpto_said (fun _ h => by cases h) (by kernel_rfl) (fun _ h => by cases h) shellWordsUpto_row_tie rfl ⟨rfl, rfl⟩ (by kernel_rfl) rfl shellWords_plain (by kernel_rfl)
#print axioms shellWordsUpto_card
end Go.Proofs.YtlnmampbiapglaaDoor
