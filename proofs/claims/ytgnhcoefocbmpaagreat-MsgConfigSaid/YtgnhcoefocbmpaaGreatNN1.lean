/- The known run of messages in pieces: the configuration is right. -/
import Derived.Test.YtgnhcoefocbmpaaGreatNK0
set_option linter.unusedVariables false
set_option linter.unusedSimpArgs false
set_option linter.unusedSectionVars false
set_option maxRecDepth 100000
namespace Go.Msg
open Go Go.X Go.Proofs
variable [WI]
def cfgM : Value := .agg ⟨[.slice (some ⟨0, 0, some 0⟩) 3 3, .int .i64 1, .int .i64 1, .int .i64 2, .int .i64 3, .int .i64 2]⟩
def rowsM : VObj := .rows true 3 1 3 3 (nth [] [[.int .i64 1], [.int .i64 2], [.int .i64 3]])
structure EqC (r v : Value) (W V : VW) : Prop where
  val : v = r
  mem : V = W
theorem CallDoes.mono1 {P : Program} {f : FuncId} {args : List Value} {V : VW} {K K' : Value → VW → Prop} (hk : ∀ v V, K v V → K' v V) (h : CallDoes P f args V K) : CallDoes P f args V K' := by
  intro env w hW hsc
  refine (h env w hW hsc).mono ?_
  rintro e w' ⟨u, env', V', v, g1, g2, g3, g4, g5⟩
  exact ⟨u, env', V', v, g1, g2, g3, g4, hk _ _ g5⟩
theorem conf_does : CallDoes Tryz.prog 68 [cfgM] [rowsM] fun v V => EqC (.bool true) v [rowsM] V := by
  refine CallDoes.reshape (fun _ _ => [.keep 0]) [] [] ?_
  refine of_run (mC_ok .nil 30) (n := 1000000) Tryz.func68 rfl (mB _ _ _) ?_
  refine by_nf (B := True ∧
    True ∧
    True ∧
    True ∧
    True ∧
    True ∧
    True ∧
    ((1 : Nat) ≤ (1 : Nat) ∧
    Nat.succ (0 : Nat) ≤ (1 : Nat) ∧
    fitsN (1 : Nat) (24 : Nat)) ∧
    Value.slice none (0 : Nat) (0 : Nat) = Value.slice none (0 : Nat) (0 : Nat) ∧
    ((1 : Nat) ≤ (1 : Nat) ∧
    (1 : Nat) ≤ (1 : Nat) ∧
    True ∧
    fitsN (2 : Nat) (24 : Nat)) ∧
    ((1 : Nat) ≤ (1 : Nat) ∧
    (2 : Nat) ≤ (2 : Nat) ∧
    True ∧
    fitsN (3 : Nat) (24 : Nat)) ∧
    True ∧
    Nat.succ (2 : Nat) ≤ (3 : Nat) ∧
    Nat.succ (2 : Nat) ≤ (3 : Nat) ∧
    Nat.succ (1 : Nat) ≤ (3 : Nat) ∧
    EqC (Value.bool true) (Value.bool true) [VObj.rows true (3 : TypeId) (1 : Nat) (3 : Nat) (3 : Nat) (nth [] [[Value.int IntKind.i64 (1 : Int)], [Value.int IntKind.i64 (2 : Int)], [Value.int IntKind.i64 (3 : Int)]])] [VObj.rows true (3 : TypeId) (1 : Nat) (3 : Nat) (3 : Nat) (nth [] [[Value.int IntKind.i64 (1 : Int)], [Value.int IntKind.i64 (2 : Int)], [Value.int IntKind.i64 (3 : Int)]])]) (by kernel_rfl) ?_
  repeat' apply And.intro
  all_goals first | trivial | rfl | decide | exact ⟨by decide, by decide⟩ | exact ⟨rfl, rfl⟩
def T68 : CallS := fun args V K => args = [cfgM] ∧ V = [rowsM] ∧ K (.bool true) [rowsM]
theorem T68_ok : CallOK Tryz.prog 68 T68 := by
  refine ⟨⟨Tryz.f68, Tryz.func68, by kernel_rfl, by kernel_rfl⟩, fun args V K h => ?_⟩
  obtain ⟨rfl, rfl, hK⟩ := h
  exact CallDoes.mono1 (fun v V hv => by obtain ⟨rfl, rfl⟩ := hv; exact hK) conf_does
end Go.Msg
