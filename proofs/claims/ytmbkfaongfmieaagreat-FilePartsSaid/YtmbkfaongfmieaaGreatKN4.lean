/- The known run in pieces: the third operation. -/
import Derived.Test.YtmbkfaongfmieaaGreatKN3
set_option linter.unusedVariables false
set_option linter.unusedSimpArgs false
set_option linter.unusedSectionVars false
set_option maxRecDepth 100000
namespace Go.Fil
open Go Go.X Go.Proofs
variable [WI]
def op3 : Value := .agg ⟨[.int .i64 10, oar, .string ⟨#[]⟩, zI, zI, zI, zI, zI, .int .i64 99, .slice none 0 0]⟩
def r3 : List Value := [zI, oar, .int .i64 1, .int .i64 1, .int .i64 5, .slice none 0 0, .slice none 0 0, .int .i64 2, zI, zI, zI]
def V3b : VW := V3 ++ [.cells 46 r3]
/-- the places that live on: the entries; the bytes that are told -/
def selR (n : Nat) (v : Value) (V : VW) : List Sel :=
  let o : Option VObj := V[5]?
  (List.range n).map Sel.keep ++ (match o with | some (VObj.mp [(_, Value.slice (some e) _ _, _)] _) => [Sel.keep e.block] | _ => []) ++ (match v with | .agg ⟨[_, _, _, _, _, _, .slice (some e) _ _, _, _, _, _]⟩ => [Sel.keep e.block] | _ => [])
def V4 : VW := (V3b.set 5 (.mp [(.int .i64 1, .slice (some ⟨16, 1, some 0⟩) 1 0, 0)] 1)) ++
  [.rows true 40 4 1 0 (nth [] [[oar, .int .i64 1, .int .i64 1, .int .i64 5]]), .rows true 5 1 5 0 (nth [] [[.int .u8 0], [.int .u8 0], [.int .u8 0], [.int .u8 7], [.int .u8 8]])]
structure Eq4 (v : Value) (V : VW) : Prop where
  val : v = .agg ⟨[zI, oar, .int .i64 1, .int .i64 1, .int .i64 5, .slice none 0 0, .slice (some ⟨17, 1, some 0⟩) 5 0, zI, zI, zI, zI]⟩
  mem : V = V4
def K4 (v : Value) (V : VW) : Prop :=
  match V with
  | [o0, o1, o2, o3, o4, o5, o6, o7, o8, o9, oa, ob, oc, od, oe, of, .rows wc tc mc nc cc fc, .rows wd td md nd cd fd] =>
    normRows (normV true 18 6) ((List.range nc).map fc) fun rc => normRows (normV true 18 6) ((List.range nd).map fd) fun rd =>
      Eq4 v [o0, o1, o2, o3, o4, o5, o6, o7, o8, o9, oa, ob, oc, od, oe, of, .rows wc tc mc nc cc (nth [] rc), .rows wd td md nd cd (nth [] rd)]
  | _ => False
theorem K4_ok {v : Value} {V : VW} (h : K4 v V) : ∃ V'', AgreeV V V'' ∧ Eq4 v V'' := by
  unfold K4 at h
  split at h
  · obtain ⟨_, h⟩ := normRows_spec (normV_spec true 18 6) _ _ h
    obtain ⟨_, h⟩ := normRows_spec (normV_spec true 18 6) _ _ h
    exact ⟨_, .cons (.same _) (.cons (.same _) (.cons (.same _) (.cons (.same _) (.cons (.same _) (.cons (.same _) (.cons (.same _) (.cons (.same _) (.cons (.same _) (.cons (.same _) (.cons (.same _) (.cons (.same _) (.cons (.same _) (.cons (.same _) (.cons (.same _) (.cons (.same _) (.cons agree_rows (.cons agree_rows .nil))))))))))))))))), h⟩
  · exact h.elim
theorem read_does : CallDoes Tryz.prog 14 [.pointer (some ⟨2, 0, none⟩), .int .i64 2, .int .i64 1, op3] V3b Eq4 := by
  refine CallDoes.agree ?_
  refine CallDoes.mono1 (K := K4) (fun v V h => K4_ok h) ?_
  refine CallDoes.reshape (selR 16) [] [] ?_
  refine of_run (kC_ok 30) (n := 1000000) Tryz.func14 rfl (BlksOK.none fun _ => by rfl) ?_
  refine by_nf (B := True ∧
    Value.slice none (0 : Nat) (0 : Nat) = Value.slice none (0 : Nat) (0 : Nat) ∧
    True ∧
    True ∧
    Value.agg { toList := [Value.int IntKind.i64 (Int.ofNat (3 : Nat)), Value.int IntKind.i64 (Int.ofNat (2 : Nat)), Value.int IntKind.i64 (Int.ofNat (1 : Nat)), Value.string { data := #[(111 : UInt8), (97 : UInt8), (114 : UInt8)] : ByteArray }, Value.int IntKind.i64 (Int.ofNat (0 : Nat)), Value.int IntKind.i64 (Int.ofNat (0 : Nat)), Value.int IntKind.i64 (Int.ofNat (0 : Nat)), Value.int IntKind.i64 (Int.ofNat (0 : Nat)), Value.int IntKind.i64 (Int.ofNat (0 : Nat))] : Array Value } = Value.agg { toList := [Value.int IntKind.i64 (Int.ofNat (3 : Nat)), Value.int IntKind.i64 (Int.ofNat (2 : Nat)), Value.int IntKind.i64 (Int.ofNat (1 : Nat)), Value.string { data := #[(111 : UInt8), (97 : UInt8), (114 : UInt8)] : ByteArray }, Value.int IntKind.i64 (Int.ofNat (0 : Nat)), Value.int IntKind.i64 (Int.ofNat (0 : Nat)), Value.int IntKind.i64 (Int.ofNat (0 : Nat)), Value.int IntKind.i64 (Int.ofNat (0 : Nat)), Value.int IntKind.i64 (Int.ofNat (0 : Nat))] : Array Value } ∧
    True ∧
    True ∧
    True ∧
    Value.slice none (0 : Nat) (0 : Nat) = Value.slice none (0 : Nat) (0 : Nat) ∧
    Value.func (Fn.func (92 : Nat)) { toList := [] : Array Value } { toList := [Value.pointer (some { block := (62 : Nat), off := (0 : Nat) : Addr }), Value.pointer (some { block := (61 : Nat), off := (0 : Nat) : Addr })] : Array Value } = Value.func (Fn.func (92 : Nat)) { toList := [] : Array Value } { toList := [Value.pointer (some { block := (62 : Nat), off := (0 : Nat) : Addr }), Value.pointer (some { block := (61 : Nat), off := (0 : Nat) : Addr })] : Array Value } ∧
    Value.func (Fn.func (217 : Nat)) { toList := [] : Array Value } { toList := [Value.pointer (some { block := (71 : Nat), off := (0 : Nat) : Addr }), Value.pointer (some { block := (67 : Nat), off := (0 : Nat) : Addr }), Value.pointer (some { block := (73 : Nat), off := (0 : Nat) : Addr }), Value.pointer (some { block := (69 : Nat), off := (0 : Nat) : Addr }), Value.pointer (some { block := (70 : Nat), off := (0 : Nat) : Addr }), Value.pointer (some { block := (72 : Nat), off := (0 : Nat) : Addr })] : Array Value } = Value.func (Fn.func (217 : Nat)) { toList := [] : Array Value } { toList := [Value.pointer (some { block := (71 : Nat), off := (0 : Nat) : Addr }), Value.pointer (some { block := (67 : Nat), off := (0 : Nat) : Addr }), Value.pointer (some { block := (73 : Nat), off := (0 : Nat) : Addr }), Value.pointer (some { block := (69 : Nat), off := (0 : Nat) : Addr }), Value.pointer (some { block := (70 : Nat), off := (0 : Nat) : Addr }), Value.pointer (some { block := (72 : Nat), off := (0 : Nat) : Addr })] : Array Value } ∧
    True ∧
    True ∧
    ((0 : Int) ≤ Int.ofNat (0 : Nat) ∧
    Int.ofNat (0 : Nat) ≤ Int.ofNat (4 : Nat) ∧
    (↑(0 : Nat) : Int) + Int.ofNat (4 : Nat) ≤ (↑(4 : Nat) : Int) ∧
    (Int.ofNat (0 : Nat) = (0 : Int) ∨ (↑(0 : Nat) : Int) + Int.ofNat (0 : Nat) < (↑(4 : Nat) : Int))) ∧
    ((4 : Nat) ≤ (4 : Nat) ∧
    Nat.succ (0 : Nat) ≤ (Int.ofNat (4 : Nat)).toNat - (Int.ofNat (0 : Nat)).toNat ∧
    fitsN ((Int.ofNat (4 : Nat)).toNat - (Int.ofNat (0 : Nat)).toNat) (1 : Nat)) ∧
    Value.func (Fn.func (92 : Nat)) { toList := [] : Array Value } { toList := [Value.pointer (some { block := (62 : Nat), off := (0 : Nat) : Addr }), Value.pointer (some { block := (61 : Nat), off := (0 : Nat) : Addr })] : Array Value } = Value.func (Fn.func (92 : Nat)) { toList := [] : Array Value } { toList := [Value.pointer (some { block := (62 : Nat), off := (0 : Nat) : Addr }), Value.pointer (some { block := (61 : Nat), off := (0 : Nat) : Addr })] : Array Value } ∧
    Value.func (Fn.func (217 : Nat)) { toList := [] : Array Value } { toList := [Value.pointer (some { block := (71 : Nat), off := (0 : Nat) : Addr }), Value.pointer (some { block := (67 : Nat), off := (0 : Nat) : Addr }), Value.pointer (some { block := (85 : Nat), off := (0 : Nat) : Addr }), Value.pointer (some { block := (69 : Nat), off := (0 : Nat) : Addr }), Value.pointer (some { block := (70 : Nat), off := (0 : Nat) : Addr }), Value.pointer (some { block := (72 : Nat), off := (0 : Nat) : Addr })] : Array Value } = Value.func (Fn.func (217 : Nat)) { toList := [] : Array Value } { toList := [Value.pointer (some { block := (71 : Nat), off := (0 : Nat) : Addr }), Value.pointer (some { block := (67 : Nat), off := (0 : Nat) : Addr }), Value.pointer (some { block := (85 : Nat), off := (0 : Nat) : Addr }), Value.pointer (some { block := (69 : Nat), off := (0 : Nat) : Addr }), Value.pointer (some { block := (70 : Nat), off := (0 : Nat) : Addr }), Value.pointer (some { block := (72 : Nat), off := (0 : Nat) : Addr })] : Array Value } ∧
    True ∧
    True ∧
    ((0 : Int) ≤ Int.ofNat (0 : Nat) ∧
    Int.ofNat (0 : Nat) ≤ Int.ofNat (1 : Nat) ∧
    (↑(0 : Nat) : Int) + Int.ofNat (1 : Nat) ≤ (↑(4 : Nat) : Int) ∧
    (Int.ofNat (0 : Nat) = (0 : Int) ∨ (↑(0 : Nat) : Int) + Int.ofNat (0 : Nat) < (↑(4 : Nat) : Int))) ∧
    ((1 : Nat) ≤ (4 : Nat) ∧
    (Int.ofNat (4 : Nat)).toNat - (Int.ofNat (0 : Nat)).toNat ≤ (Int.ofNat (4 : Nat)).toNat - (Int.ofNat (0 : Nat)).toNat ∧
    True ∧
    fitsN (5 : Nat) (1 : Nat)) ∧
    Eq4 (Value.agg { toList := [Value.int IntKind.i64 (Int.ofNat (0 : Nat)), Value.string { data := #[(111 : UInt8), (97 : UInt8), (114 : UInt8)] : ByteArray }, Value.int IntKind.i64 (Int.ofNat (1 : Nat)), Value.int IntKind.i64 (Int.ofNat (1 : Nat)), Value.int IntKind.i64 (Int.ofNat (5 : Nat)), Value.slice none (0 : Nat) (0 : Nat), Value.slice (some { block := (17 : Nat), off := { block := (96 : Nat), off := (1 : Nat), spot := some (0 : Nat) : Addr }.off, spot := some (0 : Nat) : Addr }) (5 : Nat) (0 : Nat), Value.int IntKind.i64 (Int.ofNat (0 : Nat)), Value.int IntKind.i64 (Int.ofNat (0 : Nat)), Value.int IntKind.i64 (Int.ofNat (0 : Nat)), Value.int IntKind.i64 (Int.ofNat (0 : Nat))] : Array Value }) [VObj.cells (26 : TypeId) [Value.slice (some { block := (1 : Nat), off := { block := (1 : Nat), off := (0 : Nat), spot := some (0 : Nat) : Addr }.off, spot := some (0 : Nat) : Addr }) (3 : Nat) (3 : Nat), Value.int IntKind.i64 (1 : Int), Value.int IntKind.i64 (2 : Int), Value.int IntKind.i64 (2 : Int), Value.int IntKind.i64 (4 : Int), Value.int IntKind.i64 (3 : Int)], VObj.rows true (3 : TypeId) (1 : Nat) (3 : Nat) (3 : Nat) (nth [] [[Value.int IntKind.i64 (3 : Int)], [Value.int IntKind.i64 (9 : Int)], [Value.int IntKind.i64 (5 : Int)]]), VObj.cells (107 : TypeId) [Value.slice (some { block := (3 : Nat), off := { block := (3 : Nat), off := (1 : Nat), spot := some (0 : Nat) : Addr }.off, spot := some (0 : Nat) : Addr }) (3 : Nat) (0 : Nat), Value.int IntKind.i64 (1 : Int), Value.int IntKind.i64 (2 : Int), Value.int IntKind.i64 (2 : Int), Value.int IntKind.i64 (4 : Int), Value.int IntKind.i64 (3 : Int), Value.pointer (some { block := (4 : Nat), off := { block := (4 : Nat), off := (0 : Nat) : Addr }.off : Addr }), Value.map (some (5 : Nat)), Value.map (some (6 : Nat))], VObj.rows true (3 : TypeId) (1 : Nat) (3 : Nat) (0 : Nat) (nth [] R3), VObj.cells (152 : TypeId) [Value.slice (some { block := (8 : Nat), off := { block := (8 : Nat), off := (1 : Nat), spot := some (0 : Nat) : Addr }.off, spot := some (0 : Nat) : Addr }) (3 : Nat) (0 : Nat), Value.int IntKind.i64 (1 : Int), Value.int IntKind.i64 (2 : Int), Value.int IntKind.i64 (2 : Int), Value.int IntKind.i64 (4 : Int), Value.int IntKind.i64 (3 : Int), Value.slice (some { block := (7 : Nat), off := { block := (7 : Nat), off := (1 : Nat), spot := some (0 : Nat) : Addr }.off, spot := some (0 : Nat) : Addr }) (6 : Nat) (0 : Nat)], VObj.mp [(Value.int IntKind.i64 (Int.ofNat (1 : Nat)), Value.slice (some { block := (16 : Nat), off := { block := (44 : Nat), off := (1 : Nat), spot := some (0 : Nat) : Addr }.off, spot := some (0 : Nat) : Addr }) (1 : Nat) (0 : Nat), (0 : Nat))] (1 : Nat), VObj.mp [(Value.agg { toList := [Value.int IntKind.i64 (1 : Int), Value.int IntKind.i64 (1 : Int), Value.int IntKind.i64 (0 : Int)] : Array Value }, Value.slice (some { block := (13 : Nat), off := { block := (13 : Nat), off := (1 : Nat), spot := some (0 : Nat) : Addr }.off, spot := some (0 : Nat) : Addr }) (4 : Nat) (0 : Nat), (0 : Nat)), (Value.agg { toList := [Value.int IntKind.i64 (1 : Int), Value.int IntKind.i64 (1 : Int), Value.int IntKind.i64 (1 : Int)] : Array Value }, Value.slice (some { block := (14 : Nat), off := { block := (14 : Nat), off := (1 : Nat), spot := some (0 : Nat) : Addr }.off, spot := some (0 : Nat) : Addr }) (4 : Nat) (0 : Nat), (1 : Nat))] (2 : Nat), VObj.rows true (155 : TypeId) (3 : Nat) (6 : Nat) (0 : Nat) (nth [] R6), VObj.rows true (3 : TypeId) (1 : Nat) (3 : Nat) (0 : Nat) (nth [] R3), VObj.rows true (40 : TypeId) (4 : Nat) (1 : Nat) (0 : Nat) (nth [] [[Value.string { data := #[(111 : UInt8), (97 : UInt8), (114 : UInt8)] : ByteArray }, Value.int IntKind.i64 (1 : Int), Value.int IntKind.i64 (1 : Int), Value.int IntKind.i64 (0 : Int)]]), VObj.cells (46 : TypeId) [Value.int IntKind.i64 (0 : Int), Value.string { data := #[(111 : UInt8), (97 : UInt8), (114 : UInt8)] : ByteArray }, Value.int IntKind.i64 (1 : Int), Value.int IntKind.i64 (1 : Int), Value.int IntKind.i64 (0 : Int), Value.slice none (0 : Nat) (0 : Nat), Value.slice none (0 : Nat) (0 : Nat), Value.int IntKind.i64 (0 : Int), Value.int IntKind.i64 (0 : Int), Value.int IntKind.i64 (0 : Int), Value.int IntKind.i64 (0 : Int)], VObj.rows true (5 : TypeId) (1 : Nat) (2 : Nat) (2 : Nat) (nth [] [[Value.int IntKind.u8 (7 : Int)], [Value.int IntKind.u8 (8 : Int)]]), VObj.rows true (40 : TypeId) (4 : Nat) (1 : Nat) (0 : Nat) (nth [] [[Value.string { data := #[(111 : UInt8), (97 : UInt8), (114 : UInt8)] : ByteArray }, Value.int IntKind.i64 (1 : Int), Value.int IntKind.i64 (1 : Int), Value.int IntKind.i64 (5 : Int)]]), VObj.rows true (5 : TypeId) (1 : Nat) (4 : Nat) (0 : Nat) (nth [] [[Value.int IntKind.u8 (0 : Int)], [Value.int IntKind.u8 (0 : Int)], [Value.int IntKind.u8 (0 : Int)], [Value.int IntKind.u8 (7 : Int)]]), VObj.rows true (5 : TypeId) (1 : Nat) (4 : Nat) (0 : Nat) (nth [] [[Value.int IntKind.u8 (8 : Int)], [Value.int IntKind.u8 (0 : Int)], [Value.int IntKind.u8 (0 : Int)], [Value.int IntKind.u8 (0 : Int)]]), VObj.cells (46 : TypeId) [Value.int IntKind.i64 (0 : Int), Value.string { data := #[(111 : UInt8), (97 : UInt8), (114 : UInt8)] : ByteArray }, Value.int IntKind.i64 (1 : Int), Value.int IntKind.i64 (1 : Int), Value.int IntKind.i64 (5 : Int), Value.slice none (0 : Nat) (0 : Nat), Value.slice none (0 : Nat) (0 : Nat), Value.int IntKind.i64 (2 : Int), Value.int IntKind.i64 (0 : Int), Value.int IntKind.i64 (0 : Int), Value.int IntKind.i64 (0 : Int)], VObj.rows true (40 : Nat) (4 : Nat) (1 : Nat) (0 : Nat) (nth [] [[Value.string { data := #[(111 : UInt8), (97 : UInt8), (114 : UInt8)] : ByteArray }, Value.int IntKind.i64 (Int.ofNat (1 : Nat)), Value.int IntKind.i64 (Int.ofNat (1 : Nat)), Value.int IntKind.i64 (Int.ofNat (5 : Nat))]]), VObj.rows true (5 : Nat) (1 : Nat) (5 : Nat) (0 : Nat) (nth [] [[Value.int IntKind.u8 (Int.ofNat (0 : Nat))], [Value.int IntKind.u8 (Int.ofNat (0 : Nat))], [Value.int IntKind.u8 (Int.ofNat (0 : Nat))], [Value.int IntKind.u8 (Int.ofNat (7 : Nat))], [Value.int IntKind.u8 (Int.ofNat (8 : Nat))]])]) (by kernel_rfl) ?_
  repeat' apply And.intro
  all_goals first | trivial | rfl | decide | exact ⟨by decide, by decide⟩ | exact ⟨rfl, rfl⟩
end Go.Fil
