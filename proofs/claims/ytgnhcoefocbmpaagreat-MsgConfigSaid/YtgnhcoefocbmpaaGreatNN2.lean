/- The known run of messages in pieces: the message is encoded. -/
import Derived.Test.YtgnhcoefocbmpaaGreatNN1
set_option linter.unusedVariables false
set_option linter.unusedSimpArgs false
set_option linter.unusedSectionVars false
set_option maxRecDepth 100000
namespace Go.Msg
open Go Go.X Go.Proofs
variable [WI]
def zI : Value := .int .i64 0
def msgM : Value := .agg ⟨[.int .i64 1, .bool true, .int .i64 4, .bool false, .int .i64 2, .int .i64 9, .int .i64 1, .int .i64 1, .int .i64 4, .int .i64 2, zI, zI, zI, zI, zI, .slice none 0 0, zI, zI, zI, .string ⟨#[]⟩, zI, zI, zI, zI, zI, zI, .slice none 0 0, .slice none 0 0, .slice none 0 0, .bool false]⟩
theorem agree_rows {own : Bool} {t m n cap : Nat} {f : Nat → List Value} : AgreeO (.rows own t m n cap f) (.rows own t m n cap (nth [] ((List.range n).map f))) :=
  .rows _ _ _ _ _ _ _ fun r hr => by simp [nth_eq, hr]
def bsM : List (List Value) := [[.int .u8 11], [.int .u8 0], [.int .u8 0], [.int .u8 0], [.int .u8 24], [.int .u8 161], [.int .u8 1], [.int .u8 220], [.int .u8 1], [.int .u8 1], [.int .u8 4], [.int .u8 0], [.int .u8 2], [.int .u8 9], [.int .u8 1], [.int .u8 1], [.int .u8 4], [.int .u8 2], [.int .u8 0], [.int .u8 49], [.int .u8 225], [.int .u8 25], [.int .u8 210]]
def rowsB : VObj := .rows true 5 1 23 0 (nth [] bsM)
structure Eq2 (v : Value) (V : VW) : Prop where
  val : v = .tuple ⟨[.slice (some ⟨1, 1, some 0⟩) 23 0, zI]⟩
  mem : V = [rowsM, rowsB]
def K2 (v : Value) (V : VW) : Prop :=
  match V with
  | [o0, .rows w t m n c f] => normRows (normV true 2 6) ((List.range n).map f) fun r => Eq2 v [o0, .rows w t m n c (nth [] r)]
  | _ => False
def selB (v : Value) (_ : VW) : List Sel := match v with | .tuple ⟨[.slice (some e) _ _, _]⟩ => [.keep 0, .keep e.block] | _ => []
noncomputable def mD : Ctx := mC [(68, frameT T68)] 30
theorem mD_ok : CtxOK Tryz.prog mD := mC_ok (.cons T68_ok.framed .nil) 30
theorem K2_ok {v : Value} {V : VW} (h : K2 v V) : ∃ V'', AgreeV V V'' ∧ Eq2 v V'' := by
  unfold K2 at h
  split at h
  · obtain ⟨_, h⟩ := normRows_spec (normV_spec true 2 6) _ _ h
    exact ⟨_, .cons (.same _) (.cons agree_rows .nil), h⟩
  · exact h.elim
theorem enc_does : CallDoes Tryz.prog 15 [msgM, cfgM] [rowsM] Eq2 := by
  refine CallDoes.agree ?_
  refine CallDoes.mono1 (K := K2) (fun v V h => K2_ok h) ?_
  refine CallDoes.reshape selB [] [] ?_
  refine of_run mD_ok (n := 1000000) Tryz.func15 rfl (mB _ _ _) ?_
  refine by_nf (B := [Value.agg { toList := [Value.slice (some ⟨0, 0, some 0⟩) (3 : Nat) (3 : Nat), Value.int IntKind.i64 (Int.ofNat (1 : Nat)), Value.int IntKind.i64 (Int.ofNat (1 : Nat)), Value.int IntKind.i64 (Int.ofNat (2 : Nat)), Value.int IntKind.i64 (Int.ofNat (3 : Nat)), Value.int IntKind.i64 (Int.ofNat (2 : Nat))] : Array Value }] = [Value.agg { toList := [Value.slice (some ⟨0, 0, some 0⟩) (3 : Nat) (3 : Nat), Value.int IntKind.i64 (1 : Int), Value.int IntKind.i64 (1 : Int), Value.int IntKind.i64 (2 : Int), Value.int IntKind.i64 (3 : Int), Value.int IntKind.i64 (2 : Int)] : Array Value }] ∧
    [VObj.rows true (3 : TypeId) (1 : Nat) (3 : Nat) (3 : Nat) (nth [] [[Value.int IntKind.i64 (1 : Int)], [Value.int IntKind.i64 (2 : Int)], [Value.int IntKind.i64 (3 : Int)]])] = [VObj.rows true (3 : TypeId) (1 : Nat) (3 : Nat) (3 : Nat) (nth [] [[Value.int IntKind.i64 (1 : Int)], [Value.int IntKind.i64 (2 : Int)], [Value.int IntKind.i64 (3 : Int)]])] ∧
    True ∧
    ((0 : Int) ≤ (0 : Int) ∧
    (0 : Int) ≤ Int.ofNat (23 : Nat) ∧
    fitsN (Int.ofNat (23 : Nat)).toNat (1 : Nat)) ∧
    Eq2 (Value.tuple { toList := [Value.slice (some ⟨1, 1, some 0⟩) (23 : Nat) (0 : Nat), Value.int IntKind.i64 (Int.ofNat (0 : Nat))] : Array Value }) [VObj.rows true (3 : TypeId) (1 : Nat) (3 : Nat) (3 : Nat) (nth [] [[Value.int IntKind.i64 (1 : Int)], [Value.int IntKind.i64 (2 : Int)], [Value.int IntKind.i64 (3 : Int)]]), VObj.rows true (5 : Nat) (1 : Nat) (23 : Nat) (0 : Nat) (nth [] [[Value.int IntKind.u8 (Int.ofNat (11 : Nat))], [Value.int IntKind.u8 (Int.ofNat (0 : Nat))], [Value.int IntKind.u8 (Int.ofNat (0 : Nat))], [Value.int IntKind.u8 (Int.ofNat (0 : Nat))], [Value.int IntKind.u8 (Int.ofNat (24 : Nat))], [Value.int IntKind.u8 (Int.ofNat (161 : Nat))], [Value.int IntKind.u8 (Int.ofNat (1 : Nat))], [Value.int IntKind.u8 (Int.ofNat (220 : Nat))], [Value.int IntKind.u8 (Int.ofNat (1 : Nat))], [Value.int IntKind.u8 (Int.ofNat (1 : Nat))], [Value.int IntKind.u8 (Int.ofNat (4 : Nat))], [Value.int IntKind.u8 (Int.ofNat (0 : Nat))], [Value.int IntKind.u8 (Int.ofNat (2 : Nat))], [Value.int IntKind.u8 (Int.ofNat (9 : Nat))], [Value.int IntKind.u8 (Int.ofNat (1 : Nat))], [Value.int IntKind.u8 (Int.ofNat (1 : Nat))], [Value.int IntKind.u8 (Int.ofNat (4 : Nat))], [Value.int IntKind.u8 (Int.ofNat (2 : Nat))], [Value.int IntKind.u8 (Int.ofNat (0 : Nat))], [Value.int IntKind.u8 (Int.ofNat (49 : Nat))], [Value.int IntKind.u8 (Int.ofNat (225 : Nat))], [Value.int IntKind.u8 (Int.ofNat (25 : Nat))], [Value.int IntKind.u8 (Int.ofNat (210 : Nat))]])]) (by kernel_rfl) ?_
  repeat' apply And.intro
  all_goals first | trivial | rfl | decide | exact ⟨by decide, by decide⟩ | exact ⟨rfl, rfl⟩
def T15 : CallS := fun args V K => args = [msgM, cfgM] ∧ V = [rowsM] ∧ K (.tuple ⟨[.slice (some ⟨1, 1, some 0⟩) 23 0, zI]⟩) [rowsM, rowsB]
theorem T15_ok : CallOK Tryz.prog 15 T15 := by
  refine ⟨⟨Tryz.f15, Tryz.func15, by kernel_rfl, by kernel_rfl⟩, fun args V K h => ?_⟩
  obtain ⟨rfl, rfl, hK⟩ := h
  exact CallDoes.mono1 (fun v V hv => by obtain ⟨rfl, rfl⟩ := hv; exact hK) enc_does
end Go.Msg
