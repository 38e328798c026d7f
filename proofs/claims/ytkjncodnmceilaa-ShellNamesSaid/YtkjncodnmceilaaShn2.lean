/- ShellNames: the law cairnlaw20.ShellNames returns true; without any condition. -/
import Derived.Test.YtkjncodnmceilaaShn
import Derived.Test.YtkjncodnmceilaaRows
import Derived.WalkKit
import Derived.ProofKit
import Derived.OpenShut
import Derived.ShutString
import Derived.ChangeOld
import Derived.Below
import Derived.SizedLaws
namespace Go.Shn
open Go Go.X Go.Proofs
open Go.ChangeShapes Go.WideShapes Go.ChangeAt Go.RowKit
theorem ownKnobs : ownKnob Try.prog.godebug = none := by kernel_rfl
theorem names_calls (W : World) : Calls Try.prog 6 #[] W fun e W' => e = .returned (.bool true) ∧ Below W.heap.size W W' := by
  have := names_does (fun _ => ⟨0, 0, 0⟩) W ⟨fun i o h => by simp at h, fun i o h => by simp at h, fun i hi => by simp at hi, fun i j oi oj h => by simp at h⟩ (fun y hy => by cases hy)
  refine this.mono ?_
  rintro e w' ⟨u, env', V', v', rfl, hrv, hW', hF, rfl⟩
  refine ⟨?_, ⟨hF.os, hF.tape, hF.output, hF.size, fun k hk => hF.keep k hk fun i o h => by simp at h⟩⟩
  rcases hrv with h | h
  · cases h
  · rw [h]; simp
set_option maxRecDepth 100000 in
theorem shellNames_lifted (os : Os) (started : os.Started) (H : Type) (enc : TypeId × Value → H) :
    ReturnsInHanded {} Try.checked os 6 .any (Go.Proofs.Ytkjncodnmceilaa.Rows.shellNamesSpec.pre6 enc Try.prog Try.f6 Go.Proofs.Ytkjncodnmceilaa.Rows.shellNamesRow.domain false) (Go.Proofs.Ytkjncodnmceilaa.Rows.shellNamesSpec.post enc Try.prog Try.f6 false true false false) := by
  refine returnsInHanded_of_change_sized (C := Try.checked) ownKnobs started (by kernel_rfl) Try.func6
    (ChangeSpec.witness6 (enc := enc) (C := Try.checked) false ⟨#[], #[], []⟩ 8 (by kernel_rfl) (by kernel_rfl) (by kernel_rfl) (by kernel_rfl)) ?_
  intro W base args ds gs before hval0 hW hcnd hsz0 _
  have hW' := hW
  obtain ⟨p, q, hA0, hV, rfl, hfz, hnd⟩ := hW
  have hA : DataW.TrodAll enc Try.prog W 0 (fun _ => true) true Try.f6.params.toList args.toList ds p := hA0
  rw [Try.params6] at hA
  obtain ⟨rfl, rfl, rfl⟩ := trodAll_none hA
  obtain ⟨rfl, rfl⟩ := trodVars_none hV
  clear hA0 hval0 hsz0
  refine (names_calls W).mono fun e W' ⟨he, hw⟩ => ?_
  subst he
  exact ⟨_, rfl, _, _, _, [], _, [], hW', trodAll_mk1 (shut_bool Try.underlying4 _), trodAll_mk0, rfl, hw.frame _, fun h => by cases h⟩
end Go.Shn
namespace Go.Proofs.Ytkjncodnmceilaa
open Go.ChangeShapes Go.WideShapes Go.ChangeAt Go.RowKit
theorem shellNames_holds : Rows.ShellNamesSaid :=
  OpenClaim.holds_of_wide 6 Try.f6 rfl rfl rfl rfl rfl rfl rfl ⟨rfl, rfl, rfl, rfl, rfl⟩ rfl rfl rfl rfl rfl (by kernel_rfl) Try.func6 (by kernel_rfl)
    (of_decide_eq_true (by kernel_rfl)) (by unfold Func.isWrapper; first | (rw [if_pos (by decide +kernel)]; kernel_rfl) | (rw [if_neg (by decide +kernel)]; exact ⟨rfl, rfl⟩))
    (fun os started H enc _ => Go.Shn.shellNames_lifted os started H enc)
end Go.Proofs.Ytkjncodnmceilaa
