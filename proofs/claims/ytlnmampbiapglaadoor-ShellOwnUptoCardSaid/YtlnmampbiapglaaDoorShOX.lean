/- ShellOwn: the law cairnlaw20.ShellOwn returns true for every list of lines of bulk at most 2^20, and its input reads as it did; the package variables start as the program's text lays them; no other condition. -/
import Derived.Test.YtlnmampbiapglaaDoorShOE
import Derived.Test.YtlnmampbiapglaaDoorShC
import Derived.Test.YtlnmampbiapglaaDoorXOpen2
set_option linter.unusedSimpArgs false
set_option linter.unusedVariables false
set_option maxRecDepth 100000
namespace Go.Sh
open Go Go.X Go.Proofs
open Go.ChangeShapes Go.WideShapes Go.ChangeAt Go.RowKit
open Go.Proofs.YtlnmampbiapglaaDoor.Rows (uptoBulk uptoBulkAll uptoSmall)

theorem errOld {W : World} (hE : ErrIn W) (hn : 1 ≤ W.heap.size) : @ErrVar (oldWI W) := fun w hw => by
  obtain ⟨ev, h1, h2⟩ := hE
  exact ⟨ev, by rw [World.cell?_of_block (hw 0 (by omega))]; exact h1, h2⟩

theorem laidB : laidOutB Tryd.prog = true := by kernel_rfl

theorem bulk_le {H : Type} : ∀ (l : List (DataW H)) (d : DataW H), d ∈ l → uptoBulk d ≤ uptoBulkAll l
  | x :: r, d, h => by
    rw [uptoBulkAll]
    rcases List.mem_cons.1 h with rfl | h
    · omega
    · have := bulk_le r d h; omega

theorem str_of_trod {H : Type} {enc : TypeId × Value → H} {W : World} {held : Bool} (fuel : Nat) (us : List Value) (x : DataW H × List MemPlace) (h : DataW.trod enc Tryd.prog W 0 (fun _ => true) held fuel 9 us = some x) :
    ∃ s : ByteArray, us = [.string s] ∧ s.size ≤ uptoBulk x.1 := by
  obtain ⟨s, rfl, rfl, _⟩ := DataW.trod_string Tryd.underlying9 h
  refine ⟨s, rfl, ?_⟩
  rw [uptoBulk]
  have h2 : s.data.toList.length = s.size := rfl
  omega

theorem strs_of_trod {H : Type} {enc : TypeId × Value → H} {W : World} {held : Bool} {fuel : Nat} {cs : List Value} {x : DataW H × List MemPlace} (h : DataW.trod enc Tryd.prog W 0 (fun _ => true) held fuel 22 cs = some x) :
    ∃ (l : X.Loc) (n : Nat) (ls : Nat → ByteArray) (u : Value), cs = [u] ∧ ren (fun _ => l) (.slice (some ⟨0, 3, some 0⟩) n 0) = u ∧ (l.cap < 2 → n = 0) ∧ (2 ≤ l.cap → l.m = 1 ∧ n + 1 ≤ l.cap ∧ l.blk < W.heap.size) ∧
      (∀ r, r < n → W.rangeAt l.blk (l.base + r * 1) [.string (ls r)]) ∧ ∀ i, i < n → (ls i).size ≤ uptoBulk x.1 := by
  have hc : Tryd.prog.cellsOf 9 = 1 := by kernel_rfl
  rcases DataW.trod_slice Tryd.underlying22 h with ⟨rfl, _⟩ | ⟨a, len, cap, elems, rest, k, rfl, rfl, rfl, _, hl, hmx, hlen, hel, hsp, _⟩
  · refine ⟨⟨0, 0, 0, 0⟩, 0, fun _ => default, _, rfl, ?_, fun _ => rfl, fun h => by simp at h, fun r hr => absurd hr (Nat.not_lt_zero r), fun r hr => absurd hr (Nat.not_lt_zero r)⟩
    rw [ren_slice3 _ (a := ⟨0, 3, some 0⟩) _ _ rfl]
  · by_cases hcap : cap = 0
    · have hlen0 : len = 0 := by omega
      subst hcap
      subst hlen0
      refine ⟨⟨a.block, a.off, match a.spot with | none => 0 | some r => r + 1, 1⟩, 0, fun _ => default, _, rfl, ?_, fun _ => rfl, fun h => by simp at h, fun r hr => absurd hr (Nat.not_lt_zero r), fun r hr => absurd hr (Nat.not_lt_zero r)⟩
      rw [ren_slice3 _ (a := ⟨0, 3, some 0⟩) _ _ rfl]
      obtain ⟨b, o, s⟩ := a
      cases s <;> rfl
    · obtain ⟨hrl, hrest⟩ := hsp rfl
      have first : ∃ cs0, W.cells? 0 a 1 = some cs0 := by
        by_cases hl0 : 0 < len
        · have := hel 0 hl0
          rw [List.getElem?_eq_getElem (by omega)] at this
          obtain ⟨cs0, h1, _⟩ := Option.bind_eq_some_iff.1 this
          rw [hc, Nat.zero_mul] at h1
          have ha : a.add 0 = a := by unfold Addr.add; simp
          rw [ha] at h1
          exact ⟨cs0, h1⟩
        · have := hrest 0 (by omega)
          rw [List.getElem?_eq_getElem (by omega)] at this
          obtain ⟨cs0, h1, _⟩ := Option.bind_eq_some_iff.1 this
          have hl00 : len = 0 := by omega
          rw [hc, hl00] at h1
          simp only [Nat.add_zero, Nat.zero_mul] at h1
          have ha : a.add 0 = a := by unfold Addr.add; simp
          rw [ha] at h1
          exact ⟨cs0, h1⟩
      obtain ⟨cs0, hcs0⟩ := first
      obtain ⟨hs, hb⟩ := cells_spot hcs0 (by decide)
      have key : ∀ i, ∃ s : ByteArray, i < len → W.rangeAt a.block (a.off + i * 1) [.string s] ∧ s.size ≤ uptoBulkAll (elems.map (·.1)) := fun i => by
        by_cases hi : i < len
        · have := hel i hi
          rw [List.getElem?_eq_getElem (by omega)] at this
          obtain ⟨us, h1, h2⟩ := Option.bind_eq_some_iff.1 this
          obtain ⟨s, rfl, hs'⟩ := str_of_trod _ _ _ h2
          rw [hc] at h1
          obtain ⟨e1, e2, e3⟩ := add_spot (i * 1) hs
          obtain ⟨h3, h4⟩ := cells_range e1 h1
          rw [e2, e3] at h4
          exact ⟨s, fun _ => ⟨h4, Nat.le_trans hs' (bulk_le _ _ (List.mem_map.2 ⟨_, List.getElem_mem (by omega), rfl⟩))⟩⟩
        · exact ⟨default, fun h => absurd h hi⟩
      obtain ⟨st, hst⟩ := Classical.axiomOfChoice key
      refine ⟨⟨a.block, a.off, 1, cap + 1⟩, len, st, _, rfl, ?_, fun h => by simp at h; omega, fun _ => ⟨rfl, by simp; omega, hb⟩, fun r hr => (hst r hr).1, fun r hr => ?_⟩
      · match cap, hcap with
        | k + 1, _ =>
          rw [ren_slice3 _ (a := ⟨0, 3, some 0⟩) _ _ rfl]
          obtain ⟨b, o, s⟩ := a
          simp only at hs
          subst hs
          simp [renA]
      · have := (hst r hr).2
        rw [uptoBulk]; omega

theorem law_own {H : Type} {enc : TypeId × Value → H} {W : World} {b0 : Nat} {held : Bool} {v0 : Value} {d0 : DataW H} {p0 : List MemPlace} (hE : ErrIn W) (hn : 1 ≤ W.heap.size)
    (hv0 : Value.okWide Tryd.prog W .any b0 22 v0) (h0 : DataW.Trod enc Tryd.prog W 0 (fun _ => true) held 22 v0 d0 p0) (hb : uptoBulk d0 ≤ 2147483648) :
    Calls Tryd.prog 4 #[v0] W fun e W' => e = .returned (.bool true) ∧ Below W.heap.size W W' := by
  letI := oldWI W
  obtain ⟨ao, len, cap, rfl⟩ := okWide_slice Tryd.underlying22 hv0
  obtain ⟨fuel, hf⟩ := h0
  obtain ⟨l, n, ls, u, hu, hren, g0, g1, g2, g3⟩ := strs_of_trod hf
  have hu : u = .slice ao len cap := by
    have : [Value.slice ao len cap] = [u] := by simpa [Value.cells] using hu
    exact (List.cons.inj this).1.symm
  subst hu
  have hrep : RepW (fun _ => l) [.arg 9 1 n fun i => [.string (ls i)]] W := by
    refine ⟨fun i o hi => ?_, fun i o hi => ?_, fun i o hi hB => ?_, fun i j oi oj hi hj hij => ?_, fun b hb => rfl, fun i o hi ho => ?_, Nat.le_refl _⟩
    · match i, hi with
      | 0, hi => cases hi; exact ⟨g0, fun h => ⟨(g1 h).1, (g1 h).2.1⟩, fun r hr => ⟨rfl, rfl, g2 r hr⟩⟩
    · match i, hi with
      | 0, hi => cases hi; trivial
    · match i, hi with
      | 0, hi => cases hi; exact (g1 hB).2.2
    · match i, j, hi, hj with
      | 0, 0, _, _ => exact absurd rfl hij
    · match i, hi with
      | 0, hi => cases hi; cases ho.1
  have hc := own_calls (esc_ok (errOld hE hn)) n ls (fun i hi => Nat.le_trans (g3 i hi) hb) (fun _ => l) W hrep
  rw [hren] at hc
  exact hc

abbrev OR := Go.Proofs.YtlnmampbiapglaaDoor.Rows.shellOwnUptoRow
abbrev OS := Go.Proofs.YtlnmampbiapglaaDoor.Rows.shellOwnSpec

theorem o_contract (H : Type) (enc : TypeId × Value → H) (W : World) (base : Nat) (args : Array Value) (ds gs : List (DataW H)) (before : List MemPlace)
    (hval : ∀ (j : Nat) t v, Tryd.f4.params[j]? = some t → args[j]? = some v → Value.okWide Tryd.prog W .any base t v)
    (hW : DataW.Whole enc Tryd.prog Tryd.f4.params.toList OS.vars false W args.toList ds gs before) (hL : laidMetH Tryd.prog OR.laid W)
    (hk : uptoSmall H (ds ++ gs) = true) :
    Calls Tryd.prog 4 args W fun e W' => ∃ v, e = .returned v ∧ OS.post enc Tryd.prog Tryd.f4 false true false false W args v W' := by
  have hW' := hW
  obtain ⟨p, q, hA0, hV, rfl, hfz, hnd⟩ := hW
  have hA : DataW.TrodAll enc Tryd.prog W 0 (fun _ => true) true Tryd.f4.params.toList args.toList ds p := hA0
  rw [Tryd.params4] at hA hval
  obtain ⟨v0, d0, ha, rfl, h0⟩ := trodAll_one hA
  obtain ⟨rfl, rfl⟩ := trodVars_none hV
  subst ha
  have hk : uptoSmall H [d0] = true := by simpa using hk
  have hlt : ∀ x ∈ p, x.block < W.heap.size := fun x hx => hW'.lt x (by simpa using hx)
  have hs : uptoBulk d0 ≤ 2147483648 := by
    have h : uptoBulkAll [d0] ≤ 1048576 := of_decide_eq_true hk
    have := bulk_le [d0] d0 (List.mem_singleton.2 rfl)
    omega
  have hL1 : laidMet Tryd.prog OR.laid W := by
    have h := hL
    unfold laidMetH at h
    rw [show (OR.laid.filter fun x => x.2.handleName?.isSome) = [] from by kernel_rfl] at h
    exact h
  obtain ⟨hE, hn⟩ := errIn_of (Lib.laidMet.reads hL1 (n := "strconv.ErrSyntax") (d := Go.Proofs.YtlnmampbiapglaaDoor.Rows.laid_strconv_ErrSyntax) (.tail _ (.tail _ (.tail _ (.tail _ (.tail _ (.head _)))))))
  refine (law_own hE hn (hval 0 22 v0 rfl rfl) h0 hs).mono fun e W' ⟨he, hb⟩ => ?_
  subst he
  exact ⟨_, rfl, _, _, _, [], _, [], hW', trodAll_mk1 (shut_bool Tryd.underlying4 _), trodAll_mk1 (Below.trod laidB (by kernel_rfl) (of_decide_eq_true (by kernel_rfl)) h0 hb fun x hx => hlt x hx), rfl, hb.frame _, fun h => by cases h⟩

/-! The witness: a world that lays the variables, no lines. -/
theorem o_laid_met (os : Os) : laidMet Tryd.prog OR.laid ((World.laidAll Tryd.prog os OR.laid).forCall (fun _ _ => 0) ⟨#[], #[.slice none 0 0], []⟩).memory := laidMet_laidAll _ (by kernel_rfl) (by kernel_rfl)
theorem o_shaped (os : Os) : ((World.laidAll Tryd.prog os OR.laid).forCall (fun _ _ => 0) ⟨#[], #[.slice none 0 0], []⟩).Shaped Tryd.prog := World.shaped_of_ZipB (by kernel_rfl) (by kernel_rfl)
theorem o_reads (os : Os) {H : Type} (enc : TypeId × Value → H) : ∃ places, DataW.whole enc Tryd.prog ((World.laidAll Tryd.prog os OR.laid).forCall (fun _ _ => 0) ⟨#[], #[.slice none 0 0], []⟩).memory Tryd.f4.params.toList OS.vars false #[Value.slice none 0 0].toList 8 = some ([.nil], [], places) :=
  ⟨[], by kernel_rfl⟩

abbrev OU := Go.Proofs.YtlnmampbiapglaaDoor.Rows.OpenSpec.upto OS

theorem o_lifted (os : Os) (started : os.Started) (H : Type) (enc : TypeId × Value → H) (F : Stop.Interp) :
    ReturnsInHanded {} Tryd.checked os 4 .any (OU.preRow enc Tryd.prog Tryd.f4 OR.domain false OR.laid) ((OU.at F).post enc Tryd.prog Tryd.f4 false true false false) := by
  obtain ⟨places, hx⟩ := o_reads os enc
  refine returnsInHanded_of_row (C := Tryd.checked) (s := OU) ownKnobs started (by kernel_rfl) Tryd.func4
    ⟨World.laidAll Tryd.prog os OR.laid, fun _ _ => 0, ⟨#[], #[.slice none 0 0], []⟩, World.laidAll_os _ _ _, o_shaped os, rfl, (Input.okWide_of_okWideB (by kernel_rfl)).2,
      OpenSpec.preRow_of_cond 8 hx (by kernel_rfl) (fun k hk => by cases hk; kernel_rfl) (by kernel_rfl) (by rw [MakeChecks.laidMetH_plain _ _ _ (by kernel_rfl)]; exact o_laid_met os),
      by simp only [Assume.holds]; exact ⟨by simp, by simp, fun _ => Modest.zero, by simp, by simp⟩⟩ ?_
  intro W base args ds gs before hval hW _ hcond _ hL _ _
  exact o_contract H enc W base args ds gs before hval hW hL (hcond _ rfl)
end Go.Sh

namespace Go.Proofs.YtlnmampbiapglaaDoor
open Go.ChangeShapes Go.WideShapes Go.ChangeAt Go.RowKit
theorem shellOwnUpto_said : Rows.ShellOwnUptoSaid :=
  OpenClaim.holds_of_cond 4 Tryd.f4 rfl rfl rfl rfl rfl rfl rfl ⟨rfl, rfl, rfl, rfl, rfl⟩ rfl rfl rfl rfl rfl (by kernel_rfl) Tryd.func4 (by kernel_rfl)
    (of_decide_eq_true (by kernel_rfl)) (by unfold Func.isWrapper; first | (rw [if_pos (by decide +kernel)]; kernel_rfl) | (rw [if_neg (by decide +kernel)]; exact ⟨rfl, rfl⟩))
    (fun os started H enc _ F => by rw [OpenClaim.pre_eq_preRow]; exact Go.Sh.o_lifted os started H enc F)

theorem shellOwn_plain (f : FuncId) (fn : Func) (hf : Tryd.pinned.checked.prog.funcNamed "cairn/cairnlaw20.ShellOwn" = some f) (hfn : Tryd.pinned.checked.prog.funcs[f]? = some fn) :
    true = Tryd.pinned.checked.prog.looks [] ∧ ∀ (j : Nat) t, fn.params[j]? = some t → Tryd.pinned.checked.prog.wantsStandIn t = false := by
  obtain rfl : f = 4 := Option.some.inj ((show Tryd.prog.funcNamed "cairn/cairnlaw20.ShellOwn" = some 4 by kernel_rfl).symm.trans hf) |>.symm
  obtain rfl : fn = Tryd.f4 := (Option.some.inj (Tryd.func4.symm.trans hfn)).symm
  refine ⟨by kernel_rfl, fun j t ht => ?_⟩
  rw [Tryd.params4] at ht
  have hm : t ∈ [22] := by simpa using Array.mem_of_getElem? ht
  have hall : ([22].all fun u => !Tryd.prog.wantsStandIn u) = true := by kernel_rfl
  exact (show Tryd.prog.wantsStandIn t = false by simpa using List.all_eq_true.1 hall t hm)

/-- The second form's card: the law returns true for every list of lines of bulk at most 2^20, the package variables as the program's text lays them. -/
theorem shellOwnUpto_card : Rows.ShellOwnUptoCardSaid :=
  Claim7.holds_tied_plain_at .later [] _ _ _ _ shellOwnUpto_said (fun _ h => by cases h) (by kernel_rfl) (fun _ h => by cases h) shellOwnUpto_row_tie rfl ⟨rfl, rfl⟩ (by kernel_rfl) rfl shellOwn_plain (by kernel_rfl)
#print axioms shellOwnUpto_card
end Go.Proofs.YtlnmampbiapglaaDoor
