/- AcceptorSteps: the law cairnlaw8.AcceptorSteps returns true for every instance and every list of steps, and its input reads as it did; without any condition. -/
import Derived.Test.YtkjncodnmceilaaAcc8
import Derived.Test.YtkjncodnmceilaaRows
set_option linter.unusedSimpArgs false
set_option linter.unusedVariables false
namespace Go.Acc
open Go Go.X Go.Proofs
open Go.ChangeShapes Go.WideShapes Go.ChangeAt Go.RowKit

theorem ownKnobs : ownKnob Try.prog.godebug = none := by kernel_rfl
theorem laid : laidOutB Try.prog = true := by kernel_rfl

section
variable {H : Type} {enc : TypeId × Value → H}
theorem open_inst {W : World} {b0 : Nat} {sp : Nat → Bool} {held : Bool} {v : Value} {d : DataW H} {p : List MemPlace} (hval : Value.okWide Try.prog W .any b0 32 v) (hd : DataW.Trod enc Try.prog W 0 sp held 32 v d p) :
    ∃ x : GInst, v = dGInst.enc x := by
  simp only [Value.okWide, Try.underlying32] at hval
  obtain ⟨cs, rfl, _⟩ := hval
  obtain ⟨fuel, hf⟩ := hd
  obtain ⟨x, hx⟩ := GInst.of_trod hf
  refine ⟨x, ?_⟩
  show Value.agg cs = Value.agg ⟨x.c⟩
  rw [← hx]
  rfl

/-- a law over an instance and steps: true, and nothing of what was there is turned -/
theorem law_steps {f : FuncId} (hsome : ∀ (n cap : Nat) (st : Nat → GStep) (i0 : GInst), n ≤ 9223372036854775807 → CallDoes Try.prog f [dGInst.enc i0, .slice (some ⟨0, 0, some 0⟩) n cap] [stepsRows n cap st] fun v _ => v = .bool true)
    (hnone : ∀ i0 : GInst, CallDoes Try.prog f [dGInst.enc i0, .slice none 0 0] [] fun v _ => v = .bool true)
    {W : World} {b0 b1 : Nat} {sp sp' : Nat → Bool} {held held' : Bool} {v0 v1 : Value} {d0 d1 : DataW H} {p0 p1 : List MemPlace} (hv0 : Value.okWide Try.prog W .any b0 32 v0) (h0 : DataW.Trod enc Try.prog W 0 sp held 32 v0 d0 p0)
    (hv1 : Value.okWide Try.prog W .any b1 33 v1) (h1 : DataW.Trod enc Try.prog W 0 sp' held' 33 v1 d1 p1) :
    Calls Try.prog f #[v0, v1] W fun e W' => e = .returned (.bool true) ∧ Below W.heap.size W W' := by
  obtain ⟨x, rfl⟩ := open_inst hv0 h0
  rcases open_rows GStep.c (fun _ _ _ h => GStep.of_trod h) Try.underlying33 (m := 12) (by kernel_rfl) hv1 h1 with rfl | ⟨a, n, cap, st, rfl, hs, hb, hl, hm, hr⟩
  · have := hnone x (fun _ => ⟨0, 0, 0⟩) W ⟨fun i o h => by simp at h, fun i o h => by simp at h, fun i hi => by simp at hi, fun i j oi oj h => by simp at h⟩
      (fun y hy => by
        simp only [List.mem_cons, List.not_mem_nil, or_false] at hy
        rcases hy with rfl | rfl
        · exact Sc.plainV (dGInst.plain x)
        · exact Sc.plainV rfl)
    have e1 : ([dGInst.enc x, Value.slice none 0 0].map (ren fun _ => ⟨0, 0, 0⟩)).toArray = #[dGInst.enc x, .slice none 0 0] := by
      simp [ren_plainV _ (dGInst.plain x), ren_plainV (v := Value.slice none 0 0) _ rfl]
    rw [e1] at this
    refine this.mono ?_
    rintro e w' ⟨u, env', V', v', rfl, hrv, hW', hF, rfl⟩
    refine ⟨?_, Fr.below hF fun i o h => by simp at h⟩
    rcases hrv with h | h
    · cases h
    · rw [h]; simp
  · have hle : n ≤ 9223372036854775807 := by
      have : maxLen ≤ 9223372036854775807 := by decide
      omega
    have hrep : RepW (fun _ => ⟨a.block, a.off, 12⟩) [stepsRows n cap st] W := RepW.ofRows hb (fun r => rfl) (fun r => rfl) hr
    have := hsome n cap st x hle (fun _ => ⟨a.block, a.off, 12⟩) W hrep
      (fun y hy => by
        simp only [List.mem_cons, List.not_mem_nil, or_false] at hy
        rcases hy with rfl | rfl
        · exact (Sc.plainV (dGInst.plain x)).mono (Nat.zero_le _)
        · exact scB_ok 6 _ rfl)
    have e1 : ([dGInst.enc x, Value.slice (some ⟨0, 0, some 0⟩) n cap].map (ren fun _ => ⟨a.block, a.off, 12⟩)).toArray = #[dGInst.enc x, .slice (some a) n cap] := by
      have : (⟨a.block, a.off, none⟩ : Addr) = a := by cases a; simp_all
      simp [ren_plainV _ (dGInst.plain x), ren_slice, renA, this]
    rw [e1] at this
    refine this.mono ?_
    rintro e w' ⟨u, env', V', v', rfl, hrv, hW', hF, rfl⟩
    refine ⟨?_, Fr.below hF fun i o h => ?_⟩
    · rcases hrv with h | h
      · cases h
      · rw [h]; simp
    · match i, h with
      | 0, h => cases h; rfl
end

set_option maxRecDepth 100000 in
theorem acceptorSteps_lifted (os : Os) (started : os.Started) (H : Type) (enc : TypeId × Value → H) :
    ReturnsInHanded {} Try.checked os 7 .any (Go.Proofs.Ytkjncodnmceilaa.Rows.acceptorStepsSpec.pre6 enc Try.prog Try.f7 Go.Proofs.Ytkjncodnmceilaa.Rows.acceptorStepsRow.domain false) (Go.Proofs.Ytkjncodnmceilaa.Rows.acceptorStepsSpec.post enc Try.prog Try.f7 false true false false) := by
  refine returnsInHanded_of_change_sized (C := Try.checked) ownKnobs started (by kernel_rfl) Try.func7
    (ChangeSpec.witness6 (enc := enc) (C := Try.checked) false ⟨#[], #[.agg #[.int .i64 0, .int .i64 0, .int .i64 0, .int .i64 0, .int .i64 0, .int .i64 0, .int .i64 0, .string ⟨#[]⟩, .int .i64 0, .int .i64 0, .int .i64 0, .int .i64 0, .int .i64 0, .bool false], .slice none 0 0], []⟩ 8 (by kernel_rfl) (by kernel_rfl) (by kernel_rfl) (by kernel_rfl)) ?_
  intro W base args ds gs before hval0 hW hcnd hsz0 _
  have hW' := hW
  obtain ⟨p, q, hA0, hV, rfl, hfz, hnd⟩ := hW
  have hA : DataW.TrodAll enc Try.prog W 0 (fun _ => true) true Try.f7.params.toList args.toList ds p := hA0
  rw [Try.params7] at hA
  obtain ⟨v0, v1, d0, d1, p0, p1, rfl, rfl, rfl, h0, h1⟩ := trodAll_two hA
  obtain ⟨rfl, rfl⟩ := trodVars_none hV
  have hlt : ∀ x ∈ p0 ++ p1, x.block < W.heap.size := fun x hx => hW'.lt x (by simpa using hx)
  refine (law_steps steps_some steps_none (hval0 0 32 v0 rfl rfl) h0 (hval0 1 33 v1 rfl rfl) h1).mono fun e W' ⟨he, hb⟩ => ?_
  subst he
  exact ⟨_, rfl, _, _, _, [], _, [], hW', trodAll_mk1 (shut_bool Try.underlying4 _),
    trodAll_mk2 (Below.trod laid (by kernel_rfl) (of_decide_eq_true (by kernel_rfl)) h0 hb fun x hx => hlt x (List.mem_append_left _ hx)) (Below.trod laid (by kernel_rfl) (of_decide_eq_true (by kernel_rfl)) h1 hb fun x hx => hlt x (List.mem_append_right _ hx)),
    rfl, hb.frame _, fun h => by cases h⟩
end Go.Acc
namespace Go.Proofs.Ytkjncodnmceilaa
open Go.ChangeShapes Go.WideShapes Go.ChangeAt Go.RowKit
theorem acceptorSteps_holds : Rows.AcceptorStepsSaid :=
  OpenClaim.holds_of_wide 7 Try.f7 rfl rfl rfl rfl rfl rfl rfl ⟨rfl, rfl, rfl, rfl, rfl⟩ rfl rfl rfl rfl rfl (by kernel_rfl) Try.func7 (by kernel_rfl)
    (of_decide_eq_true (by kernel_rfl)) (by unfold Func.isWrapper; first | (rw [if_pos (by decide +kernel)]; kernel_rfl) | (rw [if_neg (by decide +kernel)]; exact ⟨rfl, rfl⟩))
    (fun os started H enc _ => Go.Acc.acceptorSteps_lifted os started H enc)
end Go.Proofs.Ytkjncodnmceilaa
