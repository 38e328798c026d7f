/- The known run in pieces: the second operation. -/
import Derived.Test.YtmbkfaongfmieaaGreatKN2
set_option linter.unusedVariables false
set_option linter.unusedSimpArgs false
set_option linter.unusedSectionVars false
set_option maxRecDepth 100000
namespace Go.Fil
open Go Go.X Go.Proofs
variable [WI]
def op2 : Value := .agg ⟨[.int .i64 11, oar, .string ⟨#[]⟩, zI, zI, zI, zI, .int .i64 3, zI, .slice (some ⟨11, 0, some 0⟩) 2 2]⟩
def r2 : List Value := [zI, oar, .int .i64 1, .int .i64 1, zI, .slice none 0 0, .slice none 0 0, zI, zI, zI, zI]
def V2b : VW := V2 ++ [.cells 46 r2, .rows true 5 1 2 2 (nth [] [[.int .u8 7], [.int .u8 8]])]
def selW (n : Nat) (_ : Value) (V : VW) : List Sel :=
  let o : Option VObj := V[5]?
  let p : Option VObj := V[6]?
  (List.range n).map Sel.keep ++ (match o with | some (VObj.mp [(_, Value.slice (some e) _ _, _)] _) => [Sel.keep e.block] | _ => []) ++ (match p with | some (VObj.mp [(_, Value.slice (some e) _ _, _), (_, Value.slice (some g) _ _, _)] _) => [Sel.keep e.block, Sel.keep g.block] | _ => [])
def V3 : VW := ((V2b.set 5 (.mp [(.int .i64 1, .slice (some ⟨12, 1, some 0⟩) 1 0, 0)] 1)).set 6 (.mp [(.agg ⟨[.int .i64 1, .int .i64 1, zI]⟩, .slice (some ⟨13, 1, some 0⟩) 4 0, 0), (.agg ⟨[.int .i64 1, .int .i64 1, .int .i64 1]⟩, .slice (some ⟨14, 1, some 0⟩) 4 0, 1)] 2)) ++
  [.rows true 40 4 1 0 (nth [] [[oar, .int .i64 1, .int .i64 1, .int .i64 5]]), .rows true 5 1 4 0 (nth [] [[.int .u8 0], [.int .u8 0], [.int .u8 0], [.int .u8 7]]), .rows true 5 1 4 0 (nth [] [[.int .u8 8], [.int .u8 0], [.int .u8 0], [.int .u8 0]])]
structure Eq3 (v : Value) (V : VW) : Prop where
  val : v = .agg ⟨[zI, oar, .int .i64 1, .int .i64 1, .int .i64 5, .slice none 0 0, .slice none 0 0, .int .i64 2, zI, zI, zI]⟩
  mem : V = V3
def K3 (v : Value) (V : VW) : Prop :=
  match V with
  | [o0, o1, o2, o3, o4, o5, o6, o7, o8, o9, oa, ob, .rows wc tc mc nc cc fc, .rows wd td md nd cd fd, .rows we te me ne ce fe] =>
    normRows (normV true 15 6) ((List.range nc).map fc) fun rc => normRows (normV true 15 6) ((List.range nd).map fd) fun rd => normRows (normV true 15 6) ((List.range ne).map fe) fun re =>
      Eq3 v [o0, o1, o2, o3, o4, o5, o6, o7, o8, o9, oa, ob, .rows wc tc mc nc cc (nth [] rc), .rows wd td md nd cd (nth [] rd), .rows we te me ne ce (nth [] re)]
  | _ => False
theorem K3_ok {v : Value} {V : VW} (h : K3 v V) : ∃ V'', AgreeV V V'' ∧ Eq3 v V'' := by
  unfold K3 at h
  split at h
  · obtain ⟨_, h⟩ := normRows_spec (normV_spec true 15 6) _ _ h
    obtain ⟨_, h⟩ := normRows_spec (normV_spec true 15 6) _ _ h
    obtain ⟨_, h⟩ := normRows_spec (normV_spec true 15 6) _ _ h
    exact ⟨_, .cons (.same _) (.cons (.same _) (.cons (.same _) (.cons (.same _) (.cons (.same _) (.cons (.same _) (.cons (.same _) (.cons (.same _) (.cons (.same _) (.cons (.same _) (.cons (.same _) (.cons (.same _) (.cons agree_rows (.cons agree_rows (.cons agree_rows .nil)))))))))))))), h⟩
  · exact h.elim
theorem write_does : CallDoes Tryz.prog 14 [.pointer (some ⟨2, 0, none⟩), .int .i64 1, .int .i64 2, op2] V2b Eq3 := by
  refine CallDoes.agree ?_
  refine CallDoes.mono1 (K := K3) (fun v V h => K3_ok h) ?_
  refine CallDoes.reshape (selW 12) [] [] ?_
  refine of_run (kC_ok 30) (n := 1000000) Tryz.func14 rfl (BlksOK.none fun _ => by rfl) ?_
  refine by_nf (B := True ∧
    True ∧
    True ∧
    Value.agg { toList := [Value.int IntKind.i64 (Int.ofNat (3 : Nat)), Value.int IntKind.i64 (Int.ofNat (1 : Nat)), Value.int IntKind.i64 (Int.ofNat (2 : Nat)), Value.string { data := #[(111 : UInt8), (97 : UInt8), (114 : UInt8)] : ByteArray }, Value.int IntKind.i64 (Int.ofNat (0 : Nat)), Value.int IntKind.i64 (Int.ofNat (0 : Nat)), Value.int IntKind.i64 (Int.ofNat (0 : Nat)), Value.int IntKind.i64 (Int.ofNat (0 : Nat)), Value.int IntKind.i64 (Int.ofNat (0 : Nat))] : Array Value } = Value.agg { toList := [Value.int IntKind.i64 (Int.ofNat (3 : Nat)), Value.int IntKind.i64 (Int.ofNat (1 : Nat)), Value.int IntKind.i64 (Int.ofNat (2 : Nat)), Value.string { data := #[(111 : UInt8), (97 : UInt8), (114 : UInt8)] : ByteArray }, Value.int IntKind.i64 (Int.ofNat (0 : Nat)), Value.int IntKind.i64 (Int.ofNat (0 : Nat)), Value.int IntKind.i64 (Int.ofNat (0 : Nat)), Value.int IntKind.i64 (Int.ofNat (0 : Nat)), Value.int IntKind.i64 (Int.ofNat (0 : Nat))] : Array Value } ∧
    True ∧
    True ∧
    True ∧
    Value.slice none (0 : Nat) (0 : Nat) = Value.slice none (0 : Nat) (0 : Nat) ∧
    Value.func (Fn.func (92 : Nat)) { toList := [] : Array Value } { toList := [Value.pointer (some { block := (58 : Nat), off := (0 : Nat) : Addr }), Value.pointer (some { block := (57 : Nat), off := (0 : Nat) : Addr })] : Array Value } = Value.func (Fn.func (92 : Nat)) { toList := [] : Array Value } { toList := [Value.pointer (some { block := (58 : Nat), off := (0 : Nat) : Addr }), Value.pointer (some { block := (57 : Nat), off := (0 : Nat) : Addr })] : Array Value } ∧
    Value.func (Fn.func (223 : Nat)) { toList := [] : Array Value } { toList := [Value.pointer (some { block := (72 : Nat), off := (0 : Nat) : Addr })] : Array Value } = Value.func (Fn.func (223 : Nat)) { toList := [] : Array Value } { toList := [Value.pointer (some { block := (72 : Nat), off := (0 : Nat) : Addr })] : Array Value } ∧
    True ∧
    ((0 : Int) ≤ Int.ofNat (4 : Nat) ∧
    Int.ofNat (4 : Nat) ≤ Int.ofNat (4 : Nat) ∧
    fitsN (Int.ofNat (4 : Nat)).toNat (1 : Nat)) ∧
    ((0 : Int) ≤ Int.ofNat (4 : Nat) ∧
    Int.ofNat (4 : Nat) ≤ Int.ofNat (4 : Nat) ∧
    fitsN (Int.ofNat (4 : Nat)).toNat (1 : Nat)) ∧
    ((4 : Nat) ≤ (Int.ofNat (4 : Nat)).toNat ∧
    (4 : Nat) ≤ (Int.ofNat (4 : Nat)).toNat) ∧
    ((0 : Int) ≤ Int.ofNat (3 : Nat) ∧
    Int.ofNat (3 : Nat) ≤ (↑(Int.ofNat (4 : Nat)).toNat : Int) ∧
    (↑(Int.ofNat (4 : Nat)).toNat : Int) ≤ (↑(Int.ofNat (4 : Nat)).toNat : Int)) ∧
    ((0 : Int) ≤ Int.ofNat (0 : Nat) ∧
    Int.ofNat (0 : Nat) ≤ Int.ofNat (1 : Nat) ∧
    Int.ofNat (1 : Nat) ≤ (↑(2 : Nat) : Int)) ∧
    ((1 : Nat) ≤ (2 : Nat) ∧
    (4 : Nat) ≤ (Int.ofNat (4 : Nat)).toNat) ∧
    Value.func (Fn.func (92 : Nat)) { toList := [] : Array Value } { toList := [Value.pointer (some { block := (58 : Nat), off := (0 : Nat) : Addr }), Value.pointer (some { block := (57 : Nat), off := (0 : Nat) : Addr })] : Array Value } = Value.func (Fn.func (92 : Nat)) { toList := [] : Array Value } { toList := [Value.pointer (some { block := (58 : Nat), off := (0 : Nat) : Addr }), Value.pointer (some { block := (57 : Nat), off := (0 : Nat) : Addr })] : Array Value } ∧
    Value.func (Fn.func (221 : Nat)) { toList := [] : Array Value } { toList := [Value.pointer (some { block := (68 : Nat), off := (0 : Nat) : Addr }), Value.pointer (some { block := (69 : Nat), off := (0 : Nat) : Addr })] : Array Value } = Value.func (Fn.func (221 : Nat)) { toList := [] : Array Value } { toList := [Value.pointer (some { block := (68 : Nat), off := (0 : Nat) : Addr }), Value.pointer (some { block := (69 : Nat), off := (0 : Nat) : Addr })] : Array Value } ∧
    True ∧
    Value.agg { toList := [Value.int IntKind.i64 (Int.ofNat (1 : Nat)), Value.int IntKind.i64 (Int.ofNat (1 : Nat)), Value.int IntKind.i64 (Int.ofNat (0 : Nat))] : Array Value } = Value.agg { toList := [Value.int IntKind.i64 (Int.ofNat (1 : Nat)), Value.int IntKind.i64 (Int.ofNat (1 : Nat)), Value.int IntKind.i64 (Int.ofNat (0 : Nat))] : Array Value } ∧
    Value.func (Fn.func (92 : Nat)) { toList := [] : Array Value } { toList := [Value.pointer (some { block := (58 : Nat), off := (0 : Nat) : Addr }), Value.pointer (some { block := (57 : Nat), off := (0 : Nat) : Addr })] : Array Value } = Value.func (Fn.func (92 : Nat)) { toList := [] : Array Value } { toList := [Value.pointer (some { block := (58 : Nat), off := (0 : Nat) : Addr }), Value.pointer (some { block := (57 : Nat), off := (0 : Nat) : Addr })] : Array Value } ∧
    Value.func (Fn.func (223 : Nat)) { toList := [] : Array Value } { toList := [Value.pointer (some { block := (96 : Nat), off := (0 : Nat) : Addr })] : Array Value } = Value.func (Fn.func (223 : Nat)) { toList := [] : Array Value } { toList := [Value.pointer (some { block := (96 : Nat), off := (0 : Nat) : Addr })] : Array Value } ∧
    True ∧
    ((0 : Int) ≤ Int.ofNat (4 : Nat) ∧
    Int.ofNat (4 : Nat) ≤ Int.ofNat (4 : Nat) ∧
    fitsN (Int.ofNat (4 : Nat)).toNat (1 : Nat)) ∧
    ((0 : Int) ≤ Int.ofNat (4 : Nat) ∧
    Int.ofNat (4 : Nat) ≤ Int.ofNat (4 : Nat) ∧
    fitsN (Int.ofNat (4 : Nat)).toNat (1 : Nat)) ∧
    ((4 : Nat) ≤ (Int.ofNat (4 : Nat)).toNat ∧
    (4 : Nat) ≤ (Int.ofNat (4 : Nat)).toNat) ∧
    ((0 : Int) ≤ Int.ofNat (0 : Nat) ∧
    Int.ofNat (0 : Nat) ≤ (↑(Int.ofNat (4 : Nat)).toNat : Int) ∧
    (↑(Int.ofNat (4 : Nat)).toNat : Int) ≤ (↑(Int.ofNat (4 : Nat)).toNat : Int)) ∧
    ((0 : Int) ≤ Int.ofNat (1 : Nat) ∧
    Int.ofNat (1 : Nat) ≤ Int.ofNat (2 : Nat) ∧
    Int.ofNat (2 : Nat) ≤ (↑(2 : Nat) : Int)) ∧
    ((2 : Nat) ≤ (2 : Nat) ∧
    (4 : Nat) ≤ (Int.ofNat (4 : Nat)).toNat) ∧
    Value.func (Fn.func (92 : Nat)) { toList := [] : Array Value } { toList := [Value.pointer (some { block := (58 : Nat), off := (0 : Nat) : Addr }), Value.pointer (some { block := (57 : Nat), off := (0 : Nat) : Addr })] : Array Value } = Value.func (Fn.func (92 : Nat)) { toList := [] : Array Value } { toList := [Value.pointer (some { block := (58 : Nat), off := (0 : Nat) : Addr }), Value.pointer (some { block := (57 : Nat), off := (0 : Nat) : Addr })] : Array Value } ∧
    Value.func (Fn.func (221 : Nat)) { toList := [] : Array Value } { toList := [Value.pointer (some { block := (68 : Nat), off := (0 : Nat) : Addr }), Value.pointer (some { block := (93 : Nat), off := (0 : Nat) : Addr })] : Array Value } = Value.func (Fn.func (221 : Nat)) { toList := [] : Array Value } { toList := [Value.pointer (some { block := (68 : Nat), off := (0 : Nat) : Addr }), Value.pointer (some { block := (93 : Nat), off := (0 : Nat) : Addr })] : Array Value } ∧
    True ∧
    Value.agg { toList := [Value.int IntKind.i64 (Int.ofNat (1 : Nat)), Value.int IntKind.i64 (Int.ofNat (1 : Nat)), Value.int IntKind.i64 (Int.ofNat (1 : Nat))] : Array Value } = Value.agg { toList := [Value.int IntKind.i64 (Int.ofNat (1 : Nat)), Value.int IntKind.i64 (Int.ofNat (1 : Nat)), Value.int IntKind.i64 (Int.ofNat (1 : Nat))] : Array Value } ∧
    True ∧
    True ∧
    Value.agg { toList := [Value.int IntKind.i64 (Int.ofNat (6 : Nat)), Value.int IntKind.i64 (Int.ofNat (1 : Nat)), Value.int IntKind.i64 (Int.ofNat (7 : Nat)), Value.string { data := #[(111 : UInt8), (97 : UInt8), (114 : UInt8)] : ByteArray }, Value.int IntKind.i64 (Int.ofNat (1 : Nat)), Value.int IntKind.i64 (Int.ofNat (1 : Nat)), Value.int IntKind.i64 (Int.ofNat (0 : Nat)), Value.int IntKind.i64 (Int.ofNat (0 : Nat)), Value.int IntKind.i64 (Int.ofNat (5 : Nat))] : Array Value } = Value.agg { toList := [Value.int IntKind.i64 (Int.ofNat (6 : Nat)), Value.int IntKind.i64 (Int.ofNat (1 : Nat)), Value.int IntKind.i64 (Int.ofNat (7 : Nat)), Value.string { data := #[(111 : UInt8), (97 : UInt8), (114 : UInt8)] : ByteArray }, Value.int IntKind.i64 (Int.ofNat (1 : Nat)), Value.int IntKind.i64 (Int.ofNat (1 : Nat)), Value.int IntKind.i64 (Int.ofNat (0 : Nat)), Value.int IntKind.i64 (Int.ofNat (0 : Nat)), Value.int IntKind.i64 (Int.ofNat (5 : Nat))] : Array Value } ∧
    True ∧
    True ∧
    True ∧
    Value.slice none (0 : Nat) (0 : Nat) = Value.slice none (0 : Nat) (0 : Nat) ∧
    Nat.succ (0 : Nat) ≤ (1 : Nat) ∧
    ((0 : Int) ≤ Int.ofNat (0 : Nat) ∧
    Int.ofNat (0 : Nat) ≤ (↑(0 : Nat) : Int) ∧
    (↑(0 : Nat) : Int) ≤ (↑(0 : Nat) : Int)) ∧
    Eq3 (Value.agg { toList := [Value.int IntKind.i64 (Int.ofNat (0 : Nat)), Value.string { data := #[(111 : UInt8), (97 : UInt8), (114 : UInt8)] : ByteArray }, Value.int IntKind.i64 (Int.ofNat (1 : Nat)), Value.int IntKind.i64 (Int.ofNat (1 : Nat)), Value.int IntKind.i64 (Int.ofNat (5 : Nat)), Value.slice none (0 : Nat) (0 : Nat), Value.slice none (0 : Nat) (0 : Nat), Value.int IntKind.i64 (Int.ofNat (2 : Nat)), Value.int IntKind.i64 (Int.ofNat (0 : Nat)), Value.int IntKind.i64 (Int.ofNat (0 : Nat)), Value.int IntKind.i64 (Int.ofNat (0 : Nat))] : Array Value }) [VObj.cells (26 : TypeId) [Value.slice (some { block := (1 : Nat), off := { block := (1 : Nat), off := (0 : Nat), spot := some (0 : Nat) : Addr }.off, spot := some (0 : Nat) : Addr }) (3 : Nat) (3 : Nat), Value.int IntKind.i64 (1 : Int), Value.int IntKind.i64 (2 : Int), Value.int IntKind.i64 (2 : Int), Value.int IntKind.i64 (4 : Int), Value.int IntKind.i64 (3 : Int)], VObj.rows true (3 : TypeId) (1 : Nat) (3 : Nat) (3 : Nat) (nth [] [[Value.int IntKind.i64 (3 : Int)], [Value.int IntKind.i64 (9 : Int)], [Value.int IntKind.i64 (5 : Int)]]), VObj.cells (107 : TypeId) [Value.slice (some { block := (3 : Nat), off := { block := (3 : Nat), off := (1 : Nat), spot := some (0 : Nat) : Addr }.off, spot := some (0 : Nat) : Addr }) (3 : Nat) (0 : Nat), Value.int IntKind.i64 (1 : Int), Value.int IntKind.i64 (2 : Int), Value.int IntKind.i64 (2 : Int), Value.int IntKind.i64 (4 : Int), Value.int IntKind.i64 (3 : Int), Value.pointer (some { block := (4 : Nat), off := { block := (4 : Nat), off := (0 : Nat) : Addr }.off : Addr }), Value.map (some (5 : Nat)), Value.map (some (6 : Nat))], VObj.rows true (3 : TypeId) (1 : Nat) (3 : Nat) (0 : Nat) (nth [] R3), VObj.cells (152 : TypeId) [Value.slice (some { block := (8 : Nat), off := { block := (8 : Nat), off := (1 : Nat), spot := some (0 : Nat) : Addr }.off, spot := some (0 : Nat) : Addr }) (3 : Nat) (0 : Nat), Value.int IntKind.i64 (1 : Int), Value.int IntKind.i64 (2 : Int), Value.int IntKind.i64 (2 : Int), Value.int IntKind.i64 (4 : Int), Value.int IntKind.i64 (3 : Int), Value.slice (some { block := (7 : Nat), off := { block := (7 : Nat), off := (1 : Nat), spot := some (0 : Nat) : Addr }.off, spot := some (0 : Nat) : Addr }) (6 : Nat) (0 : Nat)], VObj.mp [(Value.int IntKind.i64 (Int.ofNat (1 : Nat)), Value.slice (some { block := (12 : Nat), off := { block := (139 : Nat), off := (1 : Nat), spot := some (0 : Nat) : Addr }.off, spot := some (0 : Nat) : Addr }) (1 : Nat) (0 : Nat), (0 : Nat))] (1 : Nat), VObj.mp [(Value.agg { toList := [Value.int IntKind.i64 (Int.ofNat (1 : Nat)), Value.int IntKind.i64 (Int.ofNat (1 : Nat)), Value.int IntKind.i64 (Int.ofNat (0 : Nat))] : Array Value }, Value.slice (some { block := (13 : Nat), off := { block := (90 : Nat), off := (1 : Nat), spot := some (0 : Nat) : Addr }.off, spot := some (0 : Nat) : Addr }) (Int.ofNat (4 : Nat)).toNat (0 : Nat), (0 : Nat)), (Value.agg { toList := [Value.int IntKind.i64 (Int.ofNat (1 : Nat)), Value.int IntKind.i64 (Int.ofNat (1 : Nat)), Value.int IntKind.i64 (Int.ofNat (1 : Nat))] : Array Value }, Value.slice (some { block := (14 : Nat), off := { block := (114 : Nat), off := (1 : Nat), spot := some (0 : Nat) : Addr }.off, spot := some (0 : Nat) : Addr }) (Int.ofNat (4 : Nat)).toNat (0 : Nat), (1 : Nat))] (2 : Nat), VObj.rows true (155 : TypeId) (3 : Nat) (6 : Nat) (0 : Nat) (nth [] R6), VObj.rows true (3 : TypeId) (1 : Nat) (3 : Nat) (0 : Nat) (nth [] R3), VObj.rows true (40 : TypeId) (4 : Nat) (1 : Nat) (0 : Nat) (nth [] [[Value.string { data := #[(111 : UInt8), (97 : UInt8), (114 : UInt8)] : ByteArray }, Value.int IntKind.i64 (1 : Int), Value.int IntKind.i64 (1 : Int), Value.int IntKind.i64 (0 : Int)]]), VObj.cells (46 : TypeId) [Value.int IntKind.i64 (0 : Int), Value.string { data := #[(111 : UInt8), (97 : UInt8), (114 : UInt8)] : ByteArray }, Value.int IntKind.i64 (1 : Int), Value.int IntKind.i64 (1 : Int), Value.int IntKind.i64 (0 : Int), Value.slice none (0 : Nat) (0 : Nat), Value.slice none (0 : Nat) (0 : Nat), Value.int IntKind.i64 (0 : Int), Value.int IntKind.i64 (0 : Int), Value.int IntKind.i64 (0 : Int), Value.int IntKind.i64 (0 : Int)], VObj.rows true (5 : TypeId) (1 : Nat) (2 : Nat) (2 : Nat) (nth [] [[Value.int IntKind.u8 (7 : Int)], [Value.int IntKind.u8 (8 : Int)]]), VObj.rows true (40 : Nat) (4 : Nat) (1 : Nat) (0 : Nat) (nth [] [[Value.string { data := #[(111 : UInt8), (97 : UInt8), (114 : UInt8)] : ByteArray }, Value.int IntKind.i64 (Int.ofNat (1 : Nat)), Value.int IntKind.i64 (Int.ofNat (1 : Nat)), Value.int IntKind.i64 (Int.ofNat (5 : Nat))]]), VObj.rows true (5 : Nat) (1 : Nat) (Int.ofNat (4 : Nat)).toNat (0 : Nat) (nth [] [[Value.int IntKind.u8 (Int.ofNat (0 : Nat))], [Value.int IntKind.u8 (Int.ofNat (0 : Nat))], [Value.int IntKind.u8 (Int.ofNat (0 : Nat))], [Value.int IntKind.u8 (Int.ofNat (7 : Nat))]]), VObj.rows true (5 : Nat) (1 : Nat) (Int.ofNat (4 : Nat)).toNat (0 : Nat) (nth [] [[Value.int IntKind.u8 (Int.ofNat (8 : Nat))], [Value.int IntKind.u8 (Int.ofNat (0 : Nat))], [Value.int IntKind.u8 (Int.ofNat (0 : Nat))], [Value.int IntKind.u8 (Int.ofNat (0 : Nat))]])]) (by kernel_rfl) ?_
  repeat' apply And.intro
  all_goals first | trivial | rfl | decide | exact ⟨by decide, by decide⟩ | exact ⟨rfl, rfl⟩
end Go.Fil
