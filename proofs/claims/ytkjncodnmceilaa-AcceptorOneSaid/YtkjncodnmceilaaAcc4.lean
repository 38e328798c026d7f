/- A part of a proof: what is proved here is said at each theorem; it holds without any condition but those that the theorem names. -/
import Derived.Test.YtkjncodnmceilaaAcc3
set_option linter.unusedSimpArgs false
set_option linter.unusedVariables false
set_option linter.unusedSectionVars false
namespace Go.Acc
open Go Go.X Go.Proofs
variable [WI]

def dNil : Dec Unit where
  dec := fun v => match v with | .slice none 0 0 => some () | _ => none
  enc := fun _ => .slice none 0 0
  ok := fun v x h => by split at h <;> first | rfl | cases h
  plain := fun _ => rfl
def dBucket0 : Dec Int where
  dec := fun v => match v with | .agg ⟨[.int .i64 n, .slice none 0 0, .slice none 0 0]⟩ => some n | _ => none
  enc := fun n => .agg ⟨[.int .i64 n, .slice none 0 0, .slice none 0 0]⟩
  ok := fun v x h => by split at h <;> first | (cases h; rfl) | cases h
  plain := fun _ => rfl

abbrev sameNilG := g2 dNil dNil fun _ _ => .bool true
theorem same38_ok : FnOK Try.prog 38 sameNilG := by
  refine FnOK.g2 (callable Try.func38 rfl (by decide +kernel)) _ _ _ (fun _ _ => rfl) fun x b => ?_
  refine of_run (ctxL_ok .nil) (n := 200) Try.func38 rfl .l ?_
  refine by_nf (B := Value.bool true = Value.bool true) (by kernel_rfl) ?_
  rfl
theorem same40_ok : FnOK Try.prog 40 sameNilG := by
  refine FnOK.g2 (callable Try.func40 rfl (by decide +kernel)) _ _ _ (fun _ _ => rfl) fun x b => ?_
  refine of_run (ctxL_ok .nil) (n := 200) Try.func40 rfl .l ?_
  refine by_nf (B := Value.bool true = Value.bool true) (by kernel_rfl) ?_
  rfl
abbrev sameBucket0G := g2 dBucket0 dBucket0 fun a b => .bool (a == b)
theorem same39_ok : FnOK Try.prog 39 sameBucket0G := by
  refine FnOK.g2 (callable Try.func39 rfl (by decide +kernel)) _ _ _ (fun _ _ => rfl) fun a b => ?_
  refine of_run (ctxL_ok .nil) (n := 200) Try.func39 rfl .l ?_
  refine by_nf (B := bsplit (a != b) (Value.bool false = Value.bool (a == b)) (Value.bool true = Value.bool (a == b))) (by kernel_rfl) ?_
  rw [bsplit_iff]
  simp only [bne]
  cases (a == b) <;> simp

def addrEq (a b : GAddr) : Bool := a.Client == b.Client && a.Id == b.Id
def keyEq (a b : GKey) : Bool := a.Kind == b.Kind && a.A == b.A && a.B == b.B && a.C == b.C
def msgEq (a b : GMsg0) : Bool :=
  a.Kind == b.Kind && addrEq a.From b.From && addrEq a.To b.To && a.Op == b.Op && a.Round == b.Round && keyEq a.Key b.Key && stampEq a.Stamp b.Stamp && stampEq a.Held b.Held &&
  cmdEq a.Command b.Command && a.More == b.More && a.Upto == b.Upto
abbrev sameMsgG := g2 dGMsg0 dGMsg0 fun a b => .bool (msgEq a b)
theorem sameMsg_ok : FnOK Try.prog 22 sameMsgG := by
  refine FnOK.g2 (callable Try.func22 rfl (by decide +kernel)) _ _ _ (fun _ _ => rfl) fun a b => ?_
  refine of_run (ctxL_ok (.cons same38_ok (.cons same39_ok (.cons same40_ok .nil)))) (n := 200) Try.func22 rfl .l ?_
  refine by_nf (B := bsplit (a.Kind != b.Kind) (Value.bool false = Value.bool (msgEq a b))
    (bsplit (!(a.From.Client == b.From.Client && (a.From.Id == b.From.Id && true))) (Value.bool false = Value.bool (msgEq a b))
    (bsplit (!(a.To.Client == b.To.Client && (a.To.Id == b.To.Id && true))) (Value.bool false = Value.bool (msgEq a b))
    (bsplit (a.Op != b.Op) (Value.bool false = Value.bool (msgEq a b))
    (bsplit (a.Round != b.Round) (Value.bool false = Value.bool (msgEq a b))
    (bsplit (!(a.Key.Kind == b.Key.Kind && (a.Key.A == b.Key.A && (a.Key.B == b.Key.B && (a.Key.C == b.Key.C && true))))) (Value.bool false = Value.bool (msgEq a b))
    (bsplit (!(a.Stamp.N == b.Stamp.N && (a.Stamp.Client == b.Stamp.Client && true))) (Value.bool false = Value.bool (msgEq a b))
    (bsplit (!(a.Held.N == b.Held.N && (a.Held.Client == b.Held.Client && true))) (Value.bool false = Value.bool (msgEq a b))
    (bsplit (a.Command.Kind == b.Command.Kind && (a.Command.Client == b.Command.Client && (a.Command.Op == b.Command.Op && (a.Command.Name.data.toList == b.Command.Name.data.toList && (a.Command.File.Client == b.Command.File.Client && (a.Command.File.Op == b.Command.File.Op && true) && (a.Command.New.Client == b.Command.New.Client && (a.Command.New.Op == b.Command.New.Op && true) && (a.Command.Size == b.Command.Size && true)))))))
    (bsplit (a.More == b.More)
    (bsplit (a.Upto == b.Upto) (Value.bool true = Value.bool (msgEq a b)) (Value.bool false = Value.bool (msgEq a b))) (Value.bool false = Value.bool (msgEq a b))) (Value.bool false = Value.bool (msgEq a b))))))))))) (by kernel_rfl) ?_
  have e1 : (a.From.Client == b.From.Client && (a.From.Id == b.From.Id && true)) = addrEq a.From b.From := by simp [addrEq]
  have e2 : (a.To.Client == b.To.Client && (a.To.Id == b.To.Id && true)) = addrEq a.To b.To := by simp [addrEq]
  have e3 : (a.Key.Kind == b.Key.Kind && (a.Key.A == b.Key.A && (a.Key.B == b.Key.B && (a.Key.C == b.Key.C && true)))) = keyEq a.Key b.Key := by simp [keyEq, Bool.and_assoc]
  have e4 : (a.Stamp.N == b.Stamp.N && (a.Stamp.Client == b.Stamp.Client && true)) = stampEq a.Stamp b.Stamp := by simp [stampEq]
  have e5 : (a.Held.N == b.Held.N && (a.Held.Client == b.Held.Client && true)) = stampEq a.Held b.Held := by simp [stampEq]
  have e6 : (a.Command.Kind == b.Command.Kind && (a.Command.Client == b.Command.Client && (a.Command.Op == b.Command.Op && (a.Command.Name.data.toList == b.Command.Name.data.toList &&
      (a.Command.File.Client == b.Command.File.Client && (a.Command.File.Op == b.Command.File.Op && true) &&
      (a.Command.New.Client == b.Command.New.Client && (a.Command.New.Op == b.Command.New.Op && true) && (a.Command.Size == b.Command.Size && true))))))) = cmdEq a.Command b.Command := by
    simp [cmdEq, fileEq, Bool.and_assoc]
  rw [e1, e2, e3, e4, e5, e6]
  simp only [msgEq, bne]
  generalize (a.Kind == b.Kind) = c0
  generalize (a.Op == b.Op) = c1
  generalize (a.Round == b.Round) = c2
  generalize (a.More == b.More) = c3
  generalize (a.Upto == b.Upto) = c4
  generalize addrEq a.From b.From = c5
  generalize addrEq a.To b.To = c6
  generalize keyEq a.Key b.Key = c7
  generalize stampEq a.Stamp b.Stamp = c8
  generalize stampEq a.Held b.Held = c9
  generalize cmdEq a.Command b.Command = c10
  revert c0 c1 c2 c3 c4 c5 c6 c7 c8 c9 c10
  simp [bsplit_iff, Bool.forall_bool]
end Go.Acc
