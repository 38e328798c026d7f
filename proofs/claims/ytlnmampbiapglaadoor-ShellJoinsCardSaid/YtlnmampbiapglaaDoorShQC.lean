/- ShellQuotes: the law cairnlaw20.ShellQuotes returns true for every list of bytes, and its input reads as it did; the package variables start as the program's text lays them; no other condition. -/
import Derived.Test.YtlnmampbiapglaaDoorShQ7
import Derived.Test.YtlnmampbiapglaaDoorShC
import Derived.Test.YtlnmampbiapglaaDoorXOpen
set_option linter.unusedSimpArgs false
set_option linter.unusedVariables false
set_option maxRecDepth 100000
namespace Go.Sh
open Go Go.X Go.Proofs
open Go.ChangeShapes Go.WideShapes Go.ChangeAt Go.RowKit

theorem laidB : laidOutB Tryd.prog = true := by kernel_rfl

theorem law_quotes {H : Type} {enc : TypeId × Value → H} {W : World} {b0 : Nat} {sp : Nat → Bool} {held : Bool} {v0 : Value} {d0 : DataW H} {p0 : List MemPlace} (hE : ErrIn W) (hn : 1 ≤ W.heap.size)
    (hv0 : Value.okWide Tryd.prog W .any b0 33 v0) (h0 : DataW.Trod enc Tryd.prog W 0 sp held 33 v0 d0 p0) :
    Calls Tryd.prog 5 #[v0] W fun e W' => e = .returned (.bool true) ∧ Below W.heap.size W W' := by
  have close : ∀ (x : Value) (env : Nat → X.Loc) (V : VW), RepW env V W → (∀ (i : Nat) (o : VObj), V[i]? = some o → o.owned = false) → ren env x = v0 → Sc V.length x →
      CallDoes Tryd.prog 5 [x] V (fun v _ => v = .bool true) → Calls Tryd.prog 5 #[v0] W fun e W' => e = .returned (.bool true) ∧ Below W.heap.size W W' := by
    intro x env V hrep hown hx hsx hc
    have := hc env W hrep (fun y hy => by simp at hy; subst hy; exact hsx)
    have e1 : ([x].map (ren env)).toArray = #[v0] := by simp [hx]
    rw [e1] at this
    refine this.mono ?_
    rintro e w' ⟨u, env', V', v', rfl, hrv, hW', hF, rfl⟩
    refine ⟨?_, Fr.below hF hown⟩
    rcases hrv with h | h
    · cases h
    · rw [h]; simp
  rcases open_rows (α := UInt8) (fun b => [.int .u8 (b.toNat : Int)]) (fun _ _ _ h => byte_of_trod (show Tryd.prog.underlying 5 = some (.int .u8) from Tryd.underlying5) h) Tryd.underlying33 (m := 1) (by kernel_rfl) hv0 h0 with rfl | ⟨a, n, cap, st, rfl, hs, hb, hl, hm, hr⟩
  · have hrep : RepW (fun _ => ⟨0, 0, 1, 0⟩) [.rows false 5 1 0 0 fun _ => []] W := RepW.ofRows hn (fun r => rfl) (fun r => rfl) (fun r h => absurd h (Nat.not_lt_zero _)) (fun r h => absurd h (Nat.not_lt_zero _)) hE hn
    refine close (.slice none 0 0) _ _ hrep (fun i o h => ?_) (by simp) (.plain rfl) (lq_runN (esc_ok errVar) 0 0 _ fun r h => absurd h (Nat.not_lt_zero _))
    match i, h with
    | 0, h => cases h; rfl
  · have hrep : RepW (fun _ => ⟨a.block, a.off, 1, 0⟩) [.rows false 5 1 n 0 fun j => [.int .u8 ((fun j => ((st j).toNat : Int)) j)]] W := RepW.ofRows hb (fun r => rfl) (fun r => rfl) (fun r _ => rfl) hr hE hn
    refine close (.slice (some ⟨0, 0, some 0⟩) n cap) _ _ hrep (fun i o h => ?_) ?_ (.slice (by simp)) (lq_runS (esc_ok errVar) n cap n 0 hl (fun j => ((st j).toNat : Int)) ((List.range (min n 16000)).map st) (by simp) ⟨fun j b hj => ?_⟩ (Nat.le_refl _))
    · match i, h with
      | 0, h => cases h; rfl
    · have : (⟨a.block, a.off, none⟩ : Addr) = a := by cases a; simp_all
      simp [ren_slice0, renA, this]
    · rw [List.getElem?_map] at hj
      obtain ⟨i, h1, h2⟩ := Option.map_eq_some_iff.1 hj
      obtain ⟨h3, h4⟩ := List.getElem?_eq_some_iff.1 h1
      simp at h4
      subst h4
      rw [← h2]

abbrev QR := Go.Proofs.YtlnmampbiapglaaDoor.Rows.shellQuotesRow
abbrev QS := Go.Proofs.YtlnmampbiapglaaDoor.Rows.shellQuotesSpec

set_option maxRecDepth 100000 in
theorem q_contract (H : Type) (enc : TypeId × Value → H) (W : World) (base : Nat) (args : Array Value) (ds gs : List (DataW H)) (before : List MemPlace)
    (hval : ∀ (j : Nat) t v, Tryd.f5.params[j]? = some t → args[j]? = some v → Value.okWide Tryd.prog W .any base t v)
    (hW : DataW.Whole enc Tryd.prog Tryd.f5.params.toList QS.vars false W args.toList ds gs before) (hL : laidMetH Tryd.prog QR.laid W) :
    Calls Tryd.prog 5 args W fun e W' => ∃ v, e = .returned v ∧ QS.post enc Tryd.prog Tryd.f5 false true false false W args v W' := by
  have hW' := hW
  obtain ⟨p, q, hA0, hV, rfl, hfz, hnd⟩ := hW
  have hA : DataW.TrodAll enc Tryd.prog W 0 (fun _ => true) true Tryd.f5.params.toList args.toList ds p := hA0
  rw [Tryd.params5] at hA hval
  obtain ⟨v0, d0, rfl, rfl, h0⟩ := trodAll_one hA
  obtain ⟨rfl, rfl⟩ := trodVars_none hV
  have hlt : ∀ x ∈ p, x.block < W.heap.size := fun x hx => hW'.lt x (by simpa using hx)
  have hL1 : laidMet Tryd.prog QR.laid W := by
    have h := hL
    unfold laidMetH at h
    rw [show (QR.laid.filter fun x => x.2.handleName?.isSome) = [] from by kernel_rfl] at h
    exact h
  obtain ⟨hE, hn⟩ := errIn_of (Lib.laidMet.reads hL1 (n := "strconv.ErrSyntax") (d := Go.Proofs.YtlnmampbiapglaaDoor.Rows.laid_strconv_ErrSyntax) (.tail _ (.tail _ (.tail _ (.tail _ (.tail _ (.head _)))))))
  refine (law_quotes hE hn (hval 0 33 v0 rfl rfl) h0).mono fun e W' ⟨he, hb⟩ => ?_
  subst he
  exact ⟨_, rfl, _, _, _, [], _, [], hW', trodAll_mk1 (shut_bool Tryd.underlying4 _), trodAll_mk1 (Below.trod laidB (by kernel_rfl) (of_decide_eq_true (by kernel_rfl)) h0 hb hlt), rfl, hb.frame _, fun h => by cases h⟩

/-! The witness: a world that lays the eight variables, and nil. -/
theorem q_laid_met (os : Os) : laidMet Tryd.prog QR.laid ((World.laidAll Tryd.prog os QR.laid).forCall (fun _ _ => 0) ⟨#[], #[.slice none 0 0], []⟩).memory := laidMet_laidAll _ (by kernel_rfl) (by kernel_rfl)
theorem q_shaped (os : Os) : ((World.laidAll Tryd.prog os QR.laid).forCall (fun _ _ => 0) ⟨#[], #[.slice none 0 0], []⟩).Shaped Tryd.prog := World.shaped_of_ZipB (by kernel_rfl) (by kernel_rfl)
theorem q_reads (os : Os) {H : Type} (enc : TypeId × Value → H) : ∃ places, DataW.whole enc Tryd.prog ((World.laidAll Tryd.prog os QR.laid).forCall (fun _ _ => 0) ⟨#[], #[.slice none 0 0], []⟩).memory Tryd.f5.params.toList QS.vars false #[Value.slice none 0 0].toList 8 = some ([.nil], [], places) :=
  ⟨[], by kernel_rfl⟩

abbrev QU := OpenSpec.ofChange QS

set_option maxRecDepth 100000 in
theorem q_lifted (os : Os) (started : os.Started) (H : Type) (enc : TypeId × Value → H) (F : Stop.Interp) :
    ReturnsInHanded {} Tryd.checked os 5 .any (QU.preRow enc Tryd.prog Tryd.f5 QR.domain false QR.laid) ((QU.at F).post enc Tryd.prog Tryd.f5 false true false false) := by
  obtain ⟨places, hx⟩ := q_reads os enc
  refine returnsInHanded_of_row (C := Tryd.checked) (s := QU) ownKnobs started (by kernel_rfl) Tryd.func5
    ⟨World.laidAll Tryd.prog os QR.laid, fun _ _ => 0, ⟨#[], #[.slice none 0 0], []⟩, World.laidAll_os _ _ _, q_shaped os, rfl, (Input.okWide_of_okWideB (by kernel_rfl)).2,
      OpenSpec.preRow_of_cond 8 hx (by kernel_rfl) (fun k hk => by cases hk) (by kernel_rfl) (by rw [MakeChecks.laidMetH_plain _ _ _ (by kernel_rfl)]; exact q_laid_met os),
      by simp only [Assume.holds]; exact ⟨by simp, by simp, fun _ => Modest.zero, by simp, by simp⟩⟩ ?_
  intro W base args ds gs before hval hW _ hcond _ hL _ _
  exact q_contract H enc W base args ds gs before hval hW hL
end Go.Sh

namespace Go.Proofs.YtlnmampbiapglaaDoor
open Go.ChangeShapes Go.WideShapes Go.ChangeAt Go.RowKit
theorem shellQuotes_said : Rows.ShellQuotesSaid :=
  OpenClaim.holds_of_cond 5 Tryd.f5 rfl rfl rfl rfl rfl rfl rfl ⟨rfl, rfl, rfl, rfl, rfl⟩ rfl rfl rfl rfl rfl (by kernel_rfl) Tryd.func5 (by kernel_rfl)
    (of_decide_eq_true (by kernel_rfl)) (by unfold Func.isWrapper; first | (rw [if_pos (by decide +kernel)]; kernel_rfl) | (rw [if_neg (by decide +kernel)]; exact ⟨rfl, rfl⟩))
    (fun os started H enc _ F => by rw [OpenClaim.pre_eq_preRow]; exact Go.Sh.q_lifted os started H enc F)

theorem shellQuotes_plain (f : FuncId) (fn : Func) (hf : Tryd.pinned.checked.prog.funcNamed "cairn/cairnlaw20.ShellQuotes" = some f) (hfn : Tryd.pinned.checked.prog.funcs[f]? = some fn) :
    true = Tryd.pinned.checked.prog.looks [] ∧ ∀ (j : Nat) t, fn.params[j]? = some t → Tryd.pinned.checked.prog.wantsStandIn t = false := by
  obtain rfl : f = 5 := Option.some.inj ((show Tryd.prog.funcNamed "cairn/cairnlaw20.ShellQuotes" = some 5 by kernel_rfl).symm.trans hf) |>.symm
  obtain rfl : fn = Tryd.f5 := (Option.some.inj (Tryd.func5.symm.trans hfn)).symm
  refine ⟨by kernel_rfl, fun j t ht => ?_⟩
  rw [Tryd.params5] at ht
  have hm : t ∈ [33] := by simpa using Array.mem_of_getElem? ht
  have hall : ([33].all fun u => !Tryd.prog.wantsStandIn u) = true := by kernel_rfl
  exact (show Tryd.prog.wantsStandIn t = false by simpa using List.all_eq_true.1 hall t hm)

/-- The card: the law returns true for every list of bytes, the package variables as the program's text lays them. -/
theorem shellQuotes_card : Rows.ShellQuotesCardSaid :=
  Claim7.holds_tied_plain_at .later [] _ _ _ _ shellQuotes_said (fun _ h => by cases h) (by kernel_rfl) (fun _ h => by cases h) shellQuotes_row_tie rfl ⟨rfl, rfl⟩ (by kernel_rfl) rfl shellQuotes_plain (by kernel_rfl)
#print axioms shellQuotes_card
end Go.Proofs.YtlnmampbiapglaaDoor
