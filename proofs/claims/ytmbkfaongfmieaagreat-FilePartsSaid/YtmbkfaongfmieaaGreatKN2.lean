/- The known run in pieces: the first operation. -/
import Derived.Test.YtmbkfaongfmieaaGreatKN1
set_option linter.unusedVariables false
set_option linter.unusedSimpArgs false
set_option linter.unusedSectionVars false
set_option maxRecDepth 100000
namespace Go.Fil
open Go Go.X Go.Proofs
variable [WI]
def oar : Value := .string ⟨#[111, 97, 114]⟩
def zI : Value := .int .i64 0
def op1 : Value := .agg ⟨[.int .i64 1, oar, .string ⟨#[]⟩, zI, zI, zI, zI, zI, zI, .slice none 0 0]⟩
/-- the places that live on: those there were, and the rows that the map of the entries names -/
def selE (n : Nat) (_ : Value) (V : VW) : List Sel :=
  let o : Option VObj := V[5]?
  (List.range n).map Sel.keep ++ (match o with | some (VObj.mp [(_, Value.slice (some e) _ _, _)] _) => [Sel.keep e.block] | _ => [])
def V2 : VW := (V1.set 5 (.mp [(.int .i64 1, .slice (some ⟨9, 1, some 0⟩) 1 0, 0)] 1)) ++ [.rows true 40 4 1 0 (nth [] [[oar, .int .i64 1, .int .i64 1, zI]])]
structure Eq2 (v : Value) (V : VW) : Prop where
  val : v = .agg ⟨[zI, oar, .int .i64 1, .int .i64 1, zI, .slice none 0 0, .slice none 0 0, zI, zI, zI, zI]⟩
  mem : V = V2
def K2 (v : Value) (V : VW) : Prop :=
  match V with
  | [o0, o1, o2, o3, o4, o5, o6, o7, o8, .rows w9 t9 m9 n9 c9 f9] => normRows (normV true 10 6) ((List.range n9).map f9) fun r9 => Eq2 v [o0, o1, o2, o3, o4, o5, o6, o7, o8, .rows w9 t9 m9 n9 c9 (nth [] r9)]
  | _ => False
theorem K2_ok {v : Value} {V : VW} (h : K2 v V) : ∃ V'', AgreeV V V'' ∧ Eq2 v V'' := by
  unfold K2 at h
  split at h
  · obtain ⟨_, h⟩ := normRows_spec (normV_spec true 10 6) _ _ h
    exact ⟨_, .cons (.same _) (.cons (.same _) (.cons (.same _) (.cons (.same _) (.cons (.same _) (.cons (.same _) (.cons (.same _) (.cons (.same _) (.cons (.same _) (.cons agree_rows .nil))))))))), h⟩
  · exact h.elim
theorem create_does : CallDoes Tryz.prog 14 [.pointer (some ⟨2, 0, none⟩), .int .i64 1, .int .i64 1, op1] V1 Eq2 := by
  refine CallDoes.agree ?_
  refine CallDoes.mono1 (K := K2) (fun v V h => K2_ok h) ?_
  refine CallDoes.reshape (selE 9) [] [] ?_
  refine of_run (kC_ok 30) (n := 1000000) Tryz.func14 rfl (BlksOK.none fun _ => by rfl) ?_
  refine by_nf (B := True ∧
    True ∧
    True ∧
    Value.agg { toList := [Value.int IntKind.i64 (Int.ofNat (1 : Nat)), Value.int IntKind.i64 (Int.ofNat (1 : Nat)), Value.int IntKind.i64 (Int.ofNat (1 : Nat)), Value.string { data := #[(111 : UInt8), (97 : UInt8), (114 : UInt8)] : ByteArray }, Value.int IntKind.i64 (Int.ofNat (0 : Nat)), Value.int IntKind.i64 (Int.ofNat (0 : Nat)), Value.int IntKind.i64 (Int.ofNat (0 : Nat)), Value.int IntKind.i64 (Int.ofNat (0 : Nat)), Value.int IntKind.i64 (Int.ofNat (0 : Nat))] : Array Value } = Value.agg { toList := [Value.int IntKind.i64 (Int.ofNat (1 : Nat)), Value.int IntKind.i64 (Int.ofNat (1 : Nat)), Value.int IntKind.i64 (Int.ofNat (1 : Nat)), Value.string { data := #[(111 : UInt8), (97 : UInt8), (114 : UInt8)] : ByteArray }, Value.int IntKind.i64 (Int.ofNat (0 : Nat)), Value.int IntKind.i64 (Int.ofNat (0 : Nat)), Value.int IntKind.i64 (Int.ofNat (0 : Nat)), Value.int IntKind.i64 (Int.ofNat (0 : Nat)), Value.int IntKind.i64 (Int.ofNat (0 : Nat))] : Array Value } ∧
    True ∧
    True ∧
    Value.slice none (0 : Nat) (0 : Nat) = Value.slice none (0 : Nat) (0 : Nat) ∧
    ((0 : Int) ≤ Int.ofNat (0 : Nat) ∧
    Int.ofNat (0 : Nat) ≤ (↑(0 : Nat) : Int) ∧
    (↑(0 : Nat) : Int) ≤ (↑(0 : Nat) : Int)) ∧
    ((0 : Int) ≤ Int.ofNat (0 : Nat) ∧
    Int.ofNat (0 : Nat) ≤ (↑(0 : Nat) : Int) ∧
    (↑(0 : Nat) : Int) ≤ (↑(0 : Nat) : Int)) ∧
    Eq2 (Value.agg { toList := [Value.int IntKind.i64 (Int.ofNat (0 : Nat)), Value.string { data := #[(111 : UInt8), (97 : UInt8), (114 : UInt8)] : ByteArray }, Value.int IntKind.i64 (Int.ofNat (1 : Nat)), Value.int IntKind.i64 (Int.ofNat (1 : Nat)), Value.int IntKind.i64 (Int.ofNat (0 : Nat)), Value.slice none (0 : Nat) (0 : Nat), Value.slice none (0 : Nat) (0 : Nat), Value.int IntKind.i64 (Int.ofNat (0 : Nat)), Value.int IntKind.i64 (Int.ofNat (0 : Nat)), Value.int IntKind.i64 (Int.ofNat (0 : Nat)), Value.int IntKind.i64 (Int.ofNat (0 : Nat))] : Array Value }) [VObj.cells (26 : TypeId) [Value.slice (some { block := (1 : Nat), off := { block := (1 : Nat), off := (0 : Nat), spot := some (0 : Nat) : Addr }.off, spot := some (0 : Nat) : Addr }) (3 : Nat) (3 : Nat), Value.int IntKind.i64 (1 : Int), Value.int IntKind.i64 (2 : Int), Value.int IntKind.i64 (2 : Int), Value.int IntKind.i64 (4 : Int), Value.int IntKind.i64 (3 : Int)], VObj.rows true (3 : TypeId) (1 : Nat) (3 : Nat) (3 : Nat) (nth [] [[Value.int IntKind.i64 (3 : Int)], [Value.int IntKind.i64 (9 : Int)], [Value.int IntKind.i64 (5 : Int)]]), VObj.cells (107 : TypeId) [Value.slice (some { block := (3 : Nat), off := { block := (3 : Nat), off := (1 : Nat), spot := some (0 : Nat) : Addr }.off, spot := some (0 : Nat) : Addr }) (3 : Nat) (0 : Nat), Value.int IntKind.i64 (1 : Int), Value.int IntKind.i64 (2 : Int), Value.int IntKind.i64 (2 : Int), Value.int IntKind.i64 (4 : Int), Value.int IntKind.i64 (3 : Int), Value.pointer (some { block := (4 : Nat), off := { block := (4 : Nat), off := (0 : Nat) : Addr }.off : Addr }), Value.map (some (5 : Nat)), Value.map (some (6 : Nat))], VObj.rows true (3 : TypeId) (1 : Nat) (3 : Nat) (0 : Nat) (nth [] R3), VObj.cells (152 : TypeId) [Value.slice (some { block := (8 : Nat), off := { block := (8 : Nat), off := (1 : Nat), spot := some (0 : Nat) : Addr }.off, spot := some (0 : Nat) : Addr }) (3 : Nat) (0 : Nat), Value.int IntKind.i64 (1 : Int), Value.int IntKind.i64 (2 : Int), Value.int IntKind.i64 (2 : Int), Value.int IntKind.i64 (4 : Int), Value.int IntKind.i64 (3 : Int), Value.slice (some { block := (7 : Nat), off := { block := (7 : Nat), off := (1 : Nat), spot := some (0 : Nat) : Addr }.off, spot := some (0 : Nat) : Addr }) (6 : Nat) (0 : Nat)], VObj.mp [(Value.int IntKind.i64 (Int.ofNat (1 : Nat)), Value.slice (some { block := (9 : Nat), off := { block := (42 : Nat), off := (1 : Nat), spot := some (0 : Nat) : Addr }.off, spot := some (0 : Nat) : Addr }) (1 : Nat) (0 : Nat), (0 : Nat))] (1 : Nat), VObj.mp [] (0 : Nat), VObj.rows true (155 : TypeId) (3 : Nat) (6 : Nat) (0 : Nat) (nth [] R6), VObj.rows true (3 : TypeId) (1 : Nat) (3 : Nat) (0 : Nat) (nth [] R3), VObj.rows true (40 : Nat) (4 : Nat) (1 : Nat) (0 : Nat) (nth [] [[Value.string { data := #[(111 : UInt8), (97 : UInt8), (114 : UInt8)] : ByteArray }, Value.int IntKind.i64 (Int.ofNat (1 : Nat)), Value.int IntKind.i64 (Int.ofNat (1 : Nat)), Value.int IntKind.i64 (Int.ofNat (0 : Nat))]])]) (by kernel_rfl) ?_
  repeat' apply And.intro
  all_goals first | trivial | rfl | decide | exact ⟨by decide, by decide⟩ | exact ⟨rfl, rfl⟩
end Go.Fil
