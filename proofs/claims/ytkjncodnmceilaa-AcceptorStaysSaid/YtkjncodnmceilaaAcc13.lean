/- A part of a proof: what is proved here is said at each theorem; it holds without any condition but those that the theorem names. -/
import Derived.Test.YtkjncodnmceilaaAcc11
set_option linter.unusedSimpArgs false
set_option linter.unusedVariables false
namespace Go.Acc
open Go Go.X Go.Proofs

def staysT (n cap : Nat) (st : Nat → GStep) (S : VSt) (K : Exit → VSt → Prop) : Prop :=
  staysJ n cap st n S ∧ ∀ i x, K .normal (staysS n cap st i x)

theorem stays_ctx2 : AllOK Try.prog [(11, knownG), (13, wideG), (12, isInstanceG)] := .cons known_ok (.cons wide_ok (.cons isInstance_ok .nil))

theorem stays_some (n cap : Nat) (st : Nat → GStep) (i0 : GInst) (hn : n ≤ 9223372036854775807) :
    CallDoes Try.prog 8 [dGInst.enc i0, .slice (some ⟨0, 0, some 0⟩) n cap] [stepsRows n cap st] fun v _ => v = .bool true := by
  refine of_run (ctxB_ok (id := 0) (T := staysT n cap st) stays_ctx2) (n := 200) Try.func8 rfl (.one rfl rfl fun S K h => ?_) ?_
  · refine (stays_loop n cap st hn n S h.1).mono fun e S' hK => ?_
    cases e with
    | normal => obtain ⟨i, x, rfl⟩ := hK; exact h.2 i x
    | _ => exact hK.elim
  refine by_nf (B := True ∧
    bsplit (!isInstance i0 { h := { len := wideCfg.h.len, cap := wideCfg.h.cap, t := (3 : TypeId), m := (1 : Nat) : Hd }, F := wideCfg.F, Points := wideCfg.Points, Buckets := wideCfg.Buckets, Block := wideCfg.Block, Room := wideCfg.Room : GCfg }) (Value.bool true = Value.bool true) (((Value.slice (some { block := (0 : Nat), off := (0 : Nat), spot := some (0 : Nat) : Addr }) n cap = Value.slice (some { block := (0 : Nat), off := (0 : Nat), spot := some (0 : Nat) : Addr }) n cap ∧
    Value.pointer (some { block := (1 : Nat), off := (0 : Nat) : Addr }) = Value.pointer (some { block := (1 : Nat), off := (0 : Nat) : Addr }) ∧
    Value.int IntKind.i64 (0 : Int) = Value.int IntKind.i64 (0 : Int) ∧
    True) ∧
    (stepsRows n cap st = stepsRows n cap st ∧
    wideO = wideO ∧
    (32 : Nat) = (32 : TypeId)) ∧
    StaysInv n n (0 : Int) [Value.int IntKind.i64 i0.Promised.N, Value.int IntKind.i64 i0.Promised.Client, Value.int IntKind.i64 i0.Accepted.N, Value.int IntKind.i64 i0.Accepted.Client, Value.int IntKind.i64 i0.Command.Kind, Value.int IntKind.i64 i0.Command.Client, Value.int IntKind.i64 i0.Command.Op, Value.string i0.Command.Name, Value.int IntKind.i64 i0.Command.File.Client, Value.int IntKind.i64 i0.Command.File.Op, Value.int IntKind.i64 i0.Command.New.Client, Value.int IntKind.i64 i0.Command.New.Op, Value.int IntKind.i64 i0.Command.Size, Value.bool i0.Decided]) ∧
    ∀ (i : Int) (x : GInst), Value.bool true = Value.bool true)) (by kernel_rfl) ?_
  have eC : ({ h := { len := wideCfg.h.len, cap := wideCfg.h.cap, t := 3, m := 1 }, F := wideCfg.F, Points := wideCfg.Points, Buckets := wideCfg.Buckets, Block := wideCfg.Block, Room := wideCfg.Room } : GCfg) = wideCfg := rfl
  rw [eC]
  exact ⟨trivial, bsplit_iff.2 ⟨fun _ => rfl, fun h => ⟨⟨⟨rfl, rfl, rfl, trivial⟩, ⟨rfl, rfl, rfl⟩, ⟨⟨0, rfl, by omega⟩, i0, rfl, by simpa using h⟩⟩, fun _ _ => rfl⟩⟩⟩

theorem stays_none (i0 : GInst) :
    CallDoes Try.prog 8 [dGInst.enc i0, .slice none 0 0] [] fun v _ => v = .bool true := by
  refine of_run (ctxL_ok stays_ctx2) (n := 200) Try.func8 rfl .l ?_
  refine by_nf (B := True ∧
    bsplit (!isInstance i0 { h := { len := wideCfg.h.len, cap := wideCfg.h.cap, t := (3 : TypeId), m := (1 : Nat) : Hd }, F := wideCfg.F, Points := wideCfg.Points, Buckets := wideCfg.Buckets, Block := wideCfg.Block, Room := wideCfg.Room : GCfg }) (Value.bool true = Value.bool true) (Value.bool true = Value.bool true)) (by kernel_rfl) ?_
  exact ⟨trivial, bsplit_iff.2 ⟨fun _ => rfl, fun _ => rfl⟩⟩
end Go.Acc
