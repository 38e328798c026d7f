/- The known run of messages in pieces: the bytes are decoded. -/
import Derived.Test.YtgnhcoefocbmpaaGreatNN2
set_option linter.unusedVariables false
set_option linter.unusedSimpArgs false
set_option linter.unusedSectionVars false
set_option maxRecDepth 100000
namespace Go.Msg
open Go Go.X Go.Proofs
variable [WI]
def cfgM1 : Value := .agg ⟨[.slice (some ⟨1, 0, some 0⟩) 3 3, .int .i64 1, .int .i64 1, .int .i64 2, .int .i64 3, .int .i64 2]⟩
def decArgs : List Value := [.slice (some ⟨0, 1, some 0⟩) 23 0, cfgM1]
noncomputable def mE : Ctx := mC [(68, frameT T68), (15, frameT T15)] 30
theorem mE_ok : CtxOK Tryz.prog mE := mC_ok (.cons T68_ok.framed (.cons T15_ok.framed .nil)) 30
theorem dec_does : CallDoes Tryz.prog 24 decArgs [rowsB, rowsM] fun v V => EqC (.tuple ⟨[msgM, zI]⟩) v [rowsB, rowsM] V := by
  refine CallDoes.reshape (fun _ _ => [.keep 0, .keep 1]) [] [] ?_
  refine of_run mE_ok (n := 1000000) Tryz.func24 rfl (mB _ _ _) ?_
  refine by_nf (B := [Value.agg { toList := [Value.slice (some ⟨0, 0, some 0⟩) (3 : Nat) (3 : Nat), Value.int IntKind.i64 (Int.ofNat (1 : Nat)), Value.int IntKind.i64 (Int.ofNat (1 : Nat)), Value.int IntKind.i64 (Int.ofNat (2 : Nat)), Value.int IntKind.i64 (Int.ofNat (3 : Nat)), Value.int IntKind.i64 (Int.ofNat (2 : Nat))] : Array Value }] = [Value.agg { toList := [Value.slice (some ⟨0, 0, some 0⟩) (3 : Nat) (3 : Nat), Value.int IntKind.i64 (1 : Int), Value.int IntKind.i64 (1 : Int), Value.int IntKind.i64 (2 : Int), Value.int IntKind.i64 (3 : Int), Value.int IntKind.i64 (2 : Int)] : Array Value }] ∧
    [VObj.rows true (3 : TypeId) (1 : Nat) (3 : Nat) (3 : Nat) (nth [] [[Value.int IntKind.i64 (1 : Int)], [Value.int IntKind.i64 (2 : Int)], [Value.int IntKind.i64 (3 : Int)]])] = [VObj.rows true (3 : TypeId) (1 : Nat) (3 : Nat) (3 : Nat) (nth [] [[Value.int IntKind.i64 (1 : Int)], [Value.int IntKind.i64 (2 : Int)], [Value.int IntKind.i64 (3 : Int)]])] ∧
    ((0 : Int) ≤ (4 : Int) ∧
    (4 : Int) ≤ (↑(23 : Nat) : Int) ∧
    (↑(0 : Nat) : Int) + (↑(23 : Nat) : Int) ≤ (↑(23 : Nat) : Int) ∧
    ((4 : Int) = (0 : Int) ∨ (↑(0 : Nat) : Int) + (4 : Int) < (↑(23 : Nat) : Int))) ∧
    ((0 : Int) ≤ (4 : Int) ∧
    (4 : Int) ≤ (↑(23 : Nat) : Int) ∧
    (↑(0 : Nat) : Int) + (↑(23 : Nat) : Int) ≤ (↑(23 : Nat) : Int) ∧
    ((4 : Int) = (0 : Int) ∨ (↑(0 : Nat) : Int) + (4 : Int) < (↑(23 : Nat) : Int))) ∧
    ((0 : Int) ≤ (0 : Int) ∧
    (0 : Int) ≤ (4 : Int) ∧
    (↑(0 : Nat) : Int) + (4 : Int) ≤ (↑(23 : Nat) : Int) ∧
    ((0 : Int) = (0 : Int) ∨ (↑(0 : Nat) : Int) + (0 : Int) < (↑(23 : Nat) : Int))) ∧
    ((0 : Int) ≤ (0 : Int) ∧
    (0 : Int) ≤ (4 : Int) ∧
    (↑(0 : Nat) : Int) + (4 : Int) ≤ (↑(23 : Nat) : Int) ∧
    ((0 : Int) = (0 : Int) ∨ (↑(0 : Nat) : Int) + (0 : Int) < (↑(23 : Nat) : Int))) ∧
    ((0 : Int) ≤ Int.ofNat (19 : Nat) ∧
    Int.ofNat (19 : Nat) ≤ (↑(23 : Nat) : Int) ∧
    (↑(0 : Nat) : Int) + (↑(23 : Nat) : Int) ≤ (↑(23 : Nat) : Int) ∧
    (Int.ofNat (19 : Nat) = (0 : Int) ∨ (↑(0 : Nat) : Int) + Int.ofNat (19 : Nat) < (↑(23 : Nat) : Int))) ∧
    ((0 : Int) ≤ Int.ofNat (19 : Nat) ∧
    Int.ofNat (19 : Nat) ≤ (↑(23 : Nat) : Int) ∧
    (↑(0 : Nat) : Int) + (↑(23 : Nat) : Int) ≤ (↑(23 : Nat) : Int) ∧
    (Int.ofNat (19 : Nat) = (0 : Int) ∨ (↑(0 : Nat) : Int) + Int.ofNat (19 : Nat) < (↑(23 : Nat) : Int))) ∧
    ((0 : Int) ≤ (0 : Int) ∧
    (0 : Int) ≤ Int.ofNat (19 : Nat) ∧
    (↑(0 : Nat) : Int) + Int.ofNat (19 : Nat) ≤ (↑(23 : Nat) : Int) ∧
    ((0 : Int) = (0 : Int) ∨ (↑(0 : Nat) : Int) + (0 : Int) < (↑(23 : Nat) : Int))) ∧
    ((0 : Int) ≤ (0 : Int) ∧
    (0 : Int) ≤ Int.ofNat (19 : Nat) ∧
    (↑(0 : Nat) : Int) + Int.ofNat (19 : Nat) ≤ (↑(23 : Nat) : Int) ∧
    ((0 : Int) = (0 : Int) ∨ (↑(0 : Nat) : Int) + (0 : Int) < (↑(23 : Nat) : Int))) ∧
    ((0 : Int) ≤ (8 : Int) ∧
    (8 : Int) ≤ Int.ofNat (19 : Nat) ∧
    (↑(0 : Nat) : Int) + Int.ofNat (19 : Nat) ≤ (↑(23 : Nat) : Int) ∧
    ((8 : Int) = (0 : Int) ∨ (↑(0 : Nat) : Int) + (8 : Int) < (↑(23 : Nat) : Int))) ∧
    True ∧
    True ∧
    [Value.agg { toList := [Value.int IntKind.i64 (Int.ofNat (1 : Nat)), Value.bool true, Value.int IntKind.i64 (Int.ofNat (4 : Nat)), Value.bool false, Value.int IntKind.i64 (Int.ofNat (2 : Nat)), Value.int IntKind.i64 (Int.ofNat (9 : Nat)), Value.int IntKind.i64 (Int.ofNat (1 : Nat)), Value.int IntKind.i64 (Int.ofNat (1 : Nat)), Value.int IntKind.i64 (Int.ofNat (4 : Nat)), Value.int IntKind.i64 (Int.ofNat (2 : Nat)), Value.int IntKind.i64 (Int.ofNat (0 : Nat)), Value.int IntKind.i64 (Int.ofNat (0 : Nat)), Value.int IntKind.i64 (Int.ofNat (0 : Nat)), Value.int IntKind.i64 (Int.ofNat (0 : Nat)), Value.int IntKind.i64 (Int.ofNat (0 : Nat)), Value.slice none (0 : Nat) (0 : Nat), Value.int IntKind.i64 (Int.ofNat (0 : Nat)), Value.int IntKind.i64 (Int.ofNat (0 : Nat)), Value.int IntKind.i64 (Int.ofNat (0 : Nat)), Value.string { data := #[] : ByteArray }, Value.int IntKind.i64 (Int.ofNat (0 : Nat)), Value.int IntKind.i64 (Int.ofNat (0 : Nat)), Value.int IntKind.i64 (Int.ofNat (0 : Nat)), Value.int IntKind.i64 (Int.ofNat (0 : Nat)), Value.int IntKind.i64 (Int.ofNat (0 : Nat)), Value.int IntKind.i64 (Int.ofNat (0 : Nat)), Value.slice none (0 : Nat) (0 : Nat), Value.slice none (0 : Nat) (0 : Nat), Value.slice none (0 : Nat) (0 : Nat), Value.bool false] : Array Value }, Value.agg { toList := [Value.slice (some ⟨0, 0, some 0⟩) (3 : Nat) (3 : Nat), Value.int IntKind.i64 (Int.ofNat (1 : Nat)), Value.int IntKind.i64 (Int.ofNat (1 : Nat)), Value.int IntKind.i64 (Int.ofNat (2 : Nat)), Value.int IntKind.i64 (Int.ofNat (3 : Nat)), Value.int IntKind.i64 (Int.ofNat (2 : Nat))] : Array Value }] = [Value.agg { toList := [Value.int IntKind.i64 (1 : Int), Value.bool true, Value.int IntKind.i64 (4 : Int), Value.bool false, Value.int IntKind.i64 (2 : Int), Value.int IntKind.i64 (9 : Int), Value.int IntKind.i64 (1 : Int), Value.int IntKind.i64 (1 : Int), Value.int IntKind.i64 (4 : Int), Value.int IntKind.i64 (2 : Int), Value.int IntKind.i64 (0 : Int), Value.int IntKind.i64 (0 : Int), Value.int IntKind.i64 (0 : Int), Value.int IntKind.i64 (0 : Int), Value.int IntKind.i64 (0 : Int), Value.slice none (0 : Nat) (0 : Nat), Value.int IntKind.i64 (0 : Int), Value.int IntKind.i64 (0 : Int), Value.int IntKind.i64 (0 : Int), Value.string { data := #[] : ByteArray }, Value.int IntKind.i64 (0 : Int), Value.int IntKind.i64 (0 : Int), Value.int IntKind.i64 (0 : Int), Value.int IntKind.i64 (0 : Int), Value.int IntKind.i64 (0 : Int), Value.int IntKind.i64 (0 : Int), Value.slice none (0 : Nat) (0 : Nat), Value.slice none (0 : Nat) (0 : Nat), Value.slice none (0 : Nat) (0 : Nat), Value.bool false] : Array Value }, Value.agg { toList := [Value.slice (some ⟨0, 0, some 0⟩) (3 : Nat) (3 : Nat), Value.int IntKind.i64 (1 : Int), Value.int IntKind.i64 (1 : Int), Value.int IntKind.i64 (2 : Int), Value.int IntKind.i64 (3 : Int), Value.int IntKind.i64 (2 : Int)] : Array Value }] ∧
    [VObj.rows true (3 : TypeId) (1 : Nat) (3 : Nat) (3 : Nat) (nth [] [[Value.int IntKind.i64 (1 : Int)], [Value.int IntKind.i64 (2 : Int)], [Value.int IntKind.i64 (3 : Int)]])] = [VObj.rows true (3 : TypeId) (1 : Nat) (3 : Nat) (3 : Nat) (nth [] [[Value.int IntKind.i64 (1 : Int)], [Value.int IntKind.i64 (2 : Int)], [Value.int IntKind.i64 (3 : Int)]])] ∧
    EqC (Value.tuple { toList := [Value.agg { toList := [Value.int IntKind.i64 (1 : Int), Value.bool true, Value.int IntKind.i64 (4 : Int), Value.bool false, Value.int IntKind.i64 (2 : Int), Value.int IntKind.i64 (9 : Int), Value.int IntKind.i64 (1 : Int), Value.int IntKind.i64 (1 : Int), Value.int IntKind.i64 (4 : Int), Value.int IntKind.i64 (2 : Int), Value.int IntKind.i64 (0 : Int), Value.int IntKind.i64 (0 : Int), Value.int IntKind.i64 (0 : Int), Value.int IntKind.i64 (0 : Int), Value.int IntKind.i64 (0 : Int), Value.slice none (0 : Nat) (0 : Nat), Value.int IntKind.i64 (0 : Int), Value.int IntKind.i64 (0 : Int), Value.int IntKind.i64 (0 : Int), Value.string { data := #[] : ByteArray }, Value.int IntKind.i64 (0 : Int), Value.int IntKind.i64 (0 : Int), Value.int IntKind.i64 (0 : Int), Value.int IntKind.i64 (0 : Int), Value.int IntKind.i64 (0 : Int), Value.int IntKind.i64 (0 : Int), Value.slice none (0 : Nat) (0 : Nat), Value.slice none (0 : Nat) (0 : Nat), Value.slice none (0 : Nat) (0 : Nat), Value.bool false] : Array Value }, Value.int IntKind.i64 (0 : Int)] : Array Value }) (Value.tuple { toList := [Value.agg { toList := [Value.int IntKind.i64 (Int.ofNat (1 : Nat)), Value.bool true, Value.int IntKind.i64 (Int.ofNat (4 : Nat)), Value.bool false, Value.int IntKind.i64 (Int.ofNat (2 : Nat)), Value.int IntKind.i64 (Int.ofNat (9 : Nat)), Value.int IntKind.i64 (Int.ofNat (1 : Nat)), Value.int IntKind.i64 (Int.ofNat (1 : Nat)), Value.int IntKind.i64 (Int.ofNat (4 : Nat)), Value.int IntKind.i64 (Int.ofNat (2 : Nat)), Value.int IntKind.i64 (Int.ofNat (0 : Nat)), Value.int IntKind.i64 (Int.ofNat (0 : Nat)), Value.int IntKind.i64 (Int.ofNat (0 : Nat)), Value.int IntKind.i64 (Int.ofNat (0 : Nat)), Value.int IntKind.i64 (Int.ofNat (0 : Nat)), Value.slice none (0 : Nat) (0 : Nat), Value.int IntKind.i64 (Int.ofNat (0 : Nat)), Value.int IntKind.i64 (Int.ofNat (0 : Nat)), Value.int IntKind.i64 (Int.ofNat (0 : Nat)), Value.string { data := #[] : ByteArray }, Value.int IntKind.i64 (Int.ofNat (0 : Nat)), Value.int IntKind.i64 (Int.ofNat (0 : Nat)), Value.int IntKind.i64 (Int.ofNat (0 : Nat)), Value.int IntKind.i64 (Int.ofNat (0 : Nat)), Value.int IntKind.i64 (Int.ofNat (0 : Nat)), Value.int IntKind.i64 (Int.ofNat (0 : Nat)), Value.slice none (0 : Nat) (0 : Nat), Value.slice none (0 : Nat) (0 : Nat), Value.slice none (0 : Nat) (0 : Nat), Value.bool false] : Array Value }, Value.int IntKind.i64 (Int.ofNat (0 : Nat))] : Array Value }) [VObj.rows true (5 : TypeId) (1 : Nat) (23 : Nat) (0 : Nat) (nth [] bsM), VObj.rows true (3 : TypeId) (1 : Nat) (3 : Nat) (3 : Nat) (nth [] [[Value.int IntKind.i64 (1 : Int)], [Value.int IntKind.i64 (2 : Int)], [Value.int IntKind.i64 (3 : Int)]])] [VObj.rows true (5 : TypeId) (1 : Nat) (23 : Nat) (0 : Nat) (nth [] bsM), VObj.rows true (3 : TypeId) (1 : Nat) (3 : Nat) (3 : Nat) (nth [] [[Value.int IntKind.i64 (1 : Int)], [Value.int IntKind.i64 (2 : Int)], [Value.int IntKind.i64 (3 : Int)]])]) (by kernel_rfl) ?_
  repeat' apply And.intro
  all_goals first | trivial | rfl | decide | exact ⟨by decide, by decide⟩ | exact ⟨rfl, rfl⟩
def T24 : CallS := fun args V K => args = decArgs ∧ V = [rowsB, rowsM] ∧ K (.tuple ⟨[msgM, zI]⟩) [rowsB, rowsM]
theorem T24_ok : CallOK Tryz.prog 24 T24 := by
  refine ⟨⟨Tryz.f24, Tryz.func24, by kernel_rfl, by kernel_rfl⟩, fun args V K h => ?_⟩
  obtain ⟨rfl, rfl, hK⟩ := h
  exact CallDoes.mono1 (fun v V hv => by obtain ⟨rfl, rfl⟩ := hv; exact hK) dec_does
end Go.Msg
