/- Quote over the place of its argument alone. -/
import Derived.Test.YtlnmampbiapglaaDoorShJ1
import Derived.Test.YtlnmampbiapglaaDoorShQ6
set_option linter.unusedSimpArgs false
set_option linter.unusedSectionVars false
set_option linter.unusedVariables false
set_option maxRecDepth 10000
namespace Go.Sh
open Go Go.X Go.Proofs
variable [WI]

theorem frWb : CallOK Tryd.prog 17 (frameT wbC) := wbC_ok.framed
theorem frWs : CallOK Tryd.prog 18 (frameT wsC) := wsC_ok.framed
theorem frStr : CallOK Tryd.prog 19 (frameT strC) := strC_ok.framed

def quVA (n1 : Nat) (f1 : Nat → List Value) (m : Nat) (g : Nat → List Value) : VW :=
  [.arg 5 1 n1 f1, .cells 48 [.pointer (some ⟨1, 0, none⟩), .slice (some ⟨3, 2, some 0⟩) m 0], .dead, .vec 5 1 m g]
def quTmA (n cap : Nat) (i : Int) : List Value := [unk, unk, unk, .pointer (some ⟨1, 0, none⟩), unk, unk, unk, .slice (some ⟨0, 3, some 0⟩) n cap, .int .i64 (n : Nat), .int .i64 i] ++ List.replicate 42 unk
def quJA (n1 : Nat) (f1 : Nat → List Value) (cap : Nat) (l : List UInt8) (k : Nat) (S : VSt) : Prop :=
  match nth undef S.tmps 9, (S.V[1]? : Option VObj), (S.V.getLast? : Option VObj) with
  | .int .i64 i, some (.cells 48 [_, .slice (some _) m 0]), some (.vec 5 1 m' g) => leT (quTmA l.length cap i) S.tmps ∧ QSt ⟨[], S.V⟩ ⟨[], quVA n1 f1 m' g⟩ ∧ QuAt l k i m m' g
  | _, _, _ => False
def quEA (n1 : Nat) (f1 : Nat → List Value) (m : Nat) (g : Nat → List Value) : VSt := ⟨[unk, unk, unk, .pointer (some ⟨1, 0, none⟩)] ++ List.replicate 48 unk, quVA n1 f1 m g⟩
def quKA (n1 : Nat) (f1 : Nat → List Value) (l : List UInt8) (e : Exit) (S : VSt) : Prop :=
  match e with
  | .normal =>
    match (S.V[1]? : Option VObj), (S.V.getLast? : Option VObj) with
    | some (.cells 48 [_, .slice (some _) m 0]), some (.vec 5 1 m' g) => QuEnd l m m' g ∧ QSt S (quEA n1 f1 m' g)
    | _, _ => False
  | _ => False
def quSelA (_ : Exit) (S : VSt) : List Sel :=
  match (S.V[1]? : Option VObj) with
  | some (.cells _ [_, .slice (some a) _ _]) => [.keep 0, .keep 1, .drop 2, selV S.V a.block]
  | _ => []
def quNcA : List (Nat × Nat × Nat) := [(1, 1, 3)]

theorem quJ_eqA {n1 : Nat} {f1 : Nat → List Value} {cap : Nat} {l : List UInt8} {k : Nat} {S : VSt} (hJ : quJA n1 f1 cap l k S) :
    ∃ (j : Nat) (g : Nat → List Value), leT (quTmA l.length cap j) S.tmps ∧ S.V = quVA n1 f1 (34 :: qbs (l.take j)).length g ∧ j + k = l.length ∧ RowB g (34 :: qbs (l.take j)) := by
  unfold quJA at hJ
  split at hJ
  · obtain ⟨h1, ⟨h2⟩, ⟨j, rfl, h3, rfl, rfl, h4⟩⟩ := hJ
    exact ⟨j, _, h1, (VSt.mk.inj h2).2, h3, h4⟩
  · exact hJ.elim

theorem qu_roundA (n1 : Nat) (h : Nat → Int) (cap : Nat) (l : List UInt8) (hl : l.length ≤ 16777216) (h1 : IntB h l) (hln : l.length ≤ n1) (k : Nat) (S : VSt) (hJ : quJA n1 (fun j => [.int .u8 (h j)]) cap l k S) :
    Does Tryd.prog (roundOf Tryd.f11 0) S fun e S' => reshape 3 (quSelA e S') (quKs e) [] quNcA S' (roundR 0 (quJA n1 (fun j => [.int .u8 (h j)]) cap l) k (quKA n1 (fun j => [.int .u8 (h j)]) l) e) := by
  obtain ⟨j, g, ht, hV, hj, hg⟩ := quJ_eqA hJ
  refine Does.weaken (S' := ⟨quTmA l.length cap j, quVA n1 (fun j => [.int .u8 (h j)]) (34 :: qbs (l.take j)).length g⟩) ?_ ht hV.symm (.of rfl fun k o hk => ?_)
  · refine of_code (ctxG_ok (l := []) (cs := [(17, frameT wbC), (18, frameT wsC)]) (bs := []) .nil (.cons frWb (.cons frWs .nil))) (n := 200) .g ?_
    refine by_nf (B := bsplit (decide ((↑j : Int) < (↑l.length : Int))) (((0 : Int) ≤ (↑j : Int) ∧
      (↑j : Int) + (1 : Int) ≤ (↑l.length : Int) ∧
      (0 : Nat) + l.length ≤ n1) ∧
      ((0 : Nat) + (↑j : Int).toNat).succ ≤ n1 ∧
      bsplit (h ((0 : Nat) + (↑j : Int).toNat) == (34 : Int)) (BPre ((34 : UInt8) :: qbs (List.take j l)).length ((34 : UInt8) :: qbs (List.take j l)).length g ∧
      IsByte (92 : Int) ∧
      ∀ (m : Nat) (g_1 : Nat → List Value), BByte ((34 : UInt8) :: qbs (List.take j l)).length g (92 : Int) m g_1 → BPre m m g_1 ∧
      IsByte (h ((0 : Nat) + (↑j : Int).toNat)) ∧
      ∀ (m_1 : Nat) (g : Nat → List Value), BByte m g_1 (h ((0 : Nat) + (↑j : Int).toNat)) m_1 g → (k = (0 : Nat) → False) ∧
      (Value.pointer (some { block := (1 : Nat), off := (0 : Nat) : Addr }) = Value.pointer (some { block := (1 : Nat), off := { block := (1 : Nat), off := (0 : Nat) : Addr }.off : Addr }) ∧
      Value.slice (some { block := (0 : Nat), off := (3 : Nat), spot := some (0 : Nat) : Addr }) l.length cap = Value.slice (some { block := (0 : Nat), off := { block := (0 : Nat), off := (3 : Nat), spot := some (0 : Nat) : Addr }.off, spot := some (0 : Nat) : Addr }) l.length cap ∧
      Value.int IntKind.i64 (↑l.length : Int) = Value.int IntKind.i64 (↑l.length : Int) ∧
      Value.int IntKind.i64 (IntKind.i64.wrap ((↑j : Int) + (1 : Int))) = Value.int IntKind.i64 (IntKind.i64.wrap ((↑j : Int) + (1 : Int))) ∧
      True) ∧
      QSt { tmps := [], V := [VObj.arg (5 : TypeId) (1 : Nat) n1 fun j => [Value.int IntKind.u8 (h j)], VObj.cells (48 : TypeId) [Value.pointer (some { block := (1 : Nat), off := { block := { block := (1 : Nat), off := (0 : Nat) : Addr }.block, off := { block := (0 : Nat), off := (0 : Nat) : Addr }.off : Addr }.off : Addr }), Value.slice (some { block := (3 : Nat), off := { block := (5 : Nat), off := { block := (2 : Nat), off := (2 : Nat), spot := some (0 : Nat) : Addr }.off, spot := some (0 : Nat) : Addr }.off, spot := some (0 : Nat) : Addr }) m_1 (0 : Nat)], VObj.dead, VObj.vec (5 : TypeId) (1 : Nat) m_1 g] : VSt } { tmps := [], V := [VObj.arg (5 : TypeId) (1 : Nat) n1 fun j => [Value.int IntKind.u8 (h j)], VObj.cells (48 : TypeId) [Value.pointer (some { block := (1 : Nat), off := (0 : Nat) : Addr }), Value.slice (some { block := (3 : Nat), off := (2 : Nat), spot := some (0 : Nat) : Addr }) m_1 (0 : Nat)], VObj.dead, VObj.vec (5 : TypeId) (1 : Nat) m_1 g] : VSt } ∧
      QuAt l (k - (1 : Nat)) (IntKind.i64.wrap ((↑j : Int) + (1 : Int))) m_1 m_1 g)
      (bsplit (h ((0 : Nat) + (↑j : Int).toNat) == (92 : Int)) (BPre ((34 : UInt8) :: qbs (List.take j l)).length ((34 : UInt8) :: qbs (List.take j l)).length g ∧
      IsByte (92 : Int) ∧
      ∀ (m : Nat) (g_1 : Nat → List Value), BByte ((34 : UInt8) :: qbs (List.take j l)).length g (92 : Int) m g_1 → BPre m m g_1 ∧
      IsByte (h ((0 : Nat) + (↑j : Int).toNat)) ∧
      ∀ (m_1 : Nat) (g : Nat → List Value), BByte m g_1 (h ((0 : Nat) + (↑j : Int).toNat)) m_1 g → (k = (0 : Nat) → False) ∧
      (Value.pointer (some { block := (1 : Nat), off := (0 : Nat) : Addr }) = Value.pointer (some { block := (1 : Nat), off := { block := (1 : Nat), off := (0 : Nat) : Addr }.off : Addr }) ∧
      Value.slice (some { block := (0 : Nat), off := (3 : Nat), spot := some (0 : Nat) : Addr }) l.length cap = Value.slice (some { block := (0 : Nat), off := { block := (0 : Nat), off := (3 : Nat), spot := some (0 : Nat) : Addr }.off, spot := some (0 : Nat) : Addr }) l.length cap ∧
      Value.int IntKind.i64 (↑l.length : Int) = Value.int IntKind.i64 (↑l.length : Int) ∧
      Value.int IntKind.i64 (IntKind.i64.wrap ((↑j : Int) + (1 : Int))) = Value.int IntKind.i64 (IntKind.i64.wrap ((↑j : Int) + (1 : Int))) ∧
      True) ∧
      QSt { tmps := [], V := [VObj.arg (5 : TypeId) (1 : Nat) n1 fun j => [Value.int IntKind.u8 (h j)], VObj.cells (48 : TypeId) [Value.pointer (some { block := (1 : Nat), off := { block := { block := (1 : Nat), off := (0 : Nat) : Addr }.block, off := { block := (0 : Nat), off := (0 : Nat) : Addr }.off : Addr }.off : Addr }), Value.slice (some { block := (3 : Nat), off := { block := (5 : Nat), off := { block := (2 : Nat), off := (2 : Nat), spot := some (0 : Nat) : Addr }.off, spot := some (0 : Nat) : Addr }.off, spot := some (0 : Nat) : Addr }) m_1 (0 : Nat)], VObj.dead, VObj.vec (5 : TypeId) (1 : Nat) m_1 g] : VSt } { tmps := [], V := [VObj.arg (5 : TypeId) (1 : Nat) n1 fun j => [Value.int IntKind.u8 (h j)], VObj.cells (48 : TypeId) [Value.pointer (some { block := (1 : Nat), off := (0 : Nat) : Addr }), Value.slice (some { block := (3 : Nat), off := (2 : Nat), spot := some (0 : Nat) : Addr }) m_1 (0 : Nat)], VObj.dead, VObj.vec (5 : TypeId) (1 : Nat) m_1 g] : VSt } ∧
      QuAt l (k - (1 : Nat)) (IntKind.i64.wrap ((↑j : Int) + (1 : Int))) m_1 m_1 g)
      (bsplit (h ((0 : Nat) + (↑j : Int).toNat) == (10 : Int)) (BPre ((34 : UInt8) :: qbs (List.take j l)).length ((34 : UInt8) :: qbs (List.take j l)).length g ∧
      (Nat.succ (0 : Nat) ≤ { data := #[(92 : UInt8), (110 : UInt8)] : ByteArray }.size ∧
      { data := #[(92 : UInt8), (110 : UInt8)] : ByteArray }.size.succ ≤ (4294967296 : Nat)) ∧
      ∀ (m : Nat) (g_1 : Nat → List Value), BStr ((34 : UInt8) :: qbs (List.take j l)).length g { data := #[(92 : UInt8), (110 : UInt8)] : ByteArray } m g_1 → (k = (0 : Nat) → False) ∧
      (Value.pointer (some { block := (1 : Nat), off := (0 : Nat) : Addr }) = Value.pointer (some { block := (1 : Nat), off := { block := (1 : Nat), off := (0 : Nat) : Addr }.off : Addr }) ∧
      Value.slice (some { block := (0 : Nat), off := (3 : Nat), spot := some (0 : Nat) : Addr }) l.length cap = Value.slice (some { block := (0 : Nat), off := { block := (0 : Nat), off := (3 : Nat), spot := some (0 : Nat) : Addr }.off, spot := some (0 : Nat) : Addr }) l.length cap ∧
      Value.int IntKind.i64 (↑l.length : Int) = Value.int IntKind.i64 (↑l.length : Int) ∧
      Value.int IntKind.i64 (IntKind.i64.wrap ((↑j : Int) + (1 : Int))) = Value.int IntKind.i64 (IntKind.i64.wrap ((↑j : Int) + (1 : Int))) ∧
      True) ∧
      QSt { tmps := [], V := [VObj.arg (5 : TypeId) (1 : Nat) n1 fun j => [Value.int IntKind.u8 (h j)], VObj.cells (48 : TypeId) [Value.pointer (some { block := (1 : Nat), off := { block := { block := (1 : Nat), off := (0 : Nat) : Addr }.block, off := { block := (0 : Nat), off := (0 : Nat) : Addr }.off : Addr }.off : Addr }), Value.slice (some { block := (3 : Nat), off := { block := (4 : Nat), off := { block := (2 : Nat), off := (2 : Nat), spot := some (0 : Nat) : Addr }.off, spot := some (0 : Nat) : Addr }.off, spot := some (0 : Nat) : Addr }) m (0 : Nat)], VObj.dead, VObj.vec (5 : TypeId) (1 : Nat) m g_1] : VSt } { tmps := [], V := [VObj.arg (5 : TypeId) (1 : Nat) n1 fun j => [Value.int IntKind.u8 (h j)], VObj.cells (48 : TypeId) [Value.pointer (some { block := (1 : Nat), off := (0 : Nat) : Addr }), Value.slice (some { block := (3 : Nat), off := (2 : Nat), spot := some (0 : Nat) : Addr }) m (0 : Nat)], VObj.dead, VObj.vec (5 : TypeId) (1 : Nat) m g_1] : VSt } ∧
      QuAt l (k - (1 : Nat)) (IntKind.i64.wrap ((↑j : Int) + (1 : Int))) m m g_1)
      (bsplit (h ((0 : Nat) + (↑j : Int).toNat) == (9 : Int)) (BPre ((34 : UInt8) :: qbs (List.take j l)).length ((34 : UInt8) :: qbs (List.take j l)).length g ∧
      (Nat.succ (0 : Nat) ≤ { data := #[(92 : UInt8), (116 : UInt8)] : ByteArray }.size ∧
      { data := #[(92 : UInt8), (116 : UInt8)] : ByteArray }.size.succ ≤ (4294967296 : Nat)) ∧
      ∀ (m : Nat) (g_1 : Nat → List Value), BStr ((34 : UInt8) :: qbs (List.take j l)).length g { data := #[(92 : UInt8), (116 : UInt8)] : ByteArray } m g_1 → (k = (0 : Nat) → False) ∧
      (Value.pointer (some { block := (1 : Nat), off := (0 : Nat) : Addr }) = Value.pointer (some { block := (1 : Nat), off := { block := (1 : Nat), off := (0 : Nat) : Addr }.off : Addr }) ∧
      Value.slice (some { block := (0 : Nat), off := (3 : Nat), spot := some (0 : Nat) : Addr }) l.length cap = Value.slice (some { block := (0 : Nat), off := { block := (0 : Nat), off := (3 : Nat), spot := some (0 : Nat) : Addr }.off, spot := some (0 : Nat) : Addr }) l.length cap ∧
      Value.int IntKind.i64 (↑l.length : Int) = Value.int IntKind.i64 (↑l.length : Int) ∧
      Value.int IntKind.i64 (IntKind.i64.wrap ((↑j : Int) + (1 : Int))) = Value.int IntKind.i64 (IntKind.i64.wrap ((↑j : Int) + (1 : Int))) ∧
      True) ∧
      QSt { tmps := [], V := [VObj.arg (5 : TypeId) (1 : Nat) n1 fun j => [Value.int IntKind.u8 (h j)], VObj.cells (48 : TypeId) [Value.pointer (some { block := (1 : Nat), off := { block := { block := (1 : Nat), off := (0 : Nat) : Addr }.block, off := { block := (0 : Nat), off := (0 : Nat) : Addr }.off : Addr }.off : Addr }), Value.slice (some { block := (3 : Nat), off := { block := (4 : Nat), off := { block := (2 : Nat), off := (2 : Nat), spot := some (0 : Nat) : Addr }.off, spot := some (0 : Nat) : Addr }.off, spot := some (0 : Nat) : Addr }) m (0 : Nat)], VObj.dead, VObj.vec (5 : TypeId) (1 : Nat) m g_1] : VSt } { tmps := [], V := [VObj.arg (5 : TypeId) (1 : Nat) n1 fun j => [Value.int IntKind.u8 (h j)], VObj.cells (48 : TypeId) [Value.pointer (some { block := (1 : Nat), off := (0 : Nat) : Addr }), Value.slice (some { block := (3 : Nat), off := (2 : Nat), spot := some (0 : Nat) : Addr }) m (0 : Nat)], VObj.dead, VObj.vec (5 : TypeId) (1 : Nat) m g_1] : VSt } ∧
      QuAt l (k - (1 : Nat)) (IntKind.i64.wrap ((↑j : Int) + (1 : Int))) m m g_1)
      (bsplit (decide (h ((0 : Nat) + (↑j : Int).toNat) < (32 : Int))) (BPre ((34 : UInt8) :: qbs (List.take j l)).length ((34 : UInt8) :: qbs (List.take j l)).length g ∧
      (Nat.succ (0 : Nat) ≤ { data := #[(92 : UInt8), (120 : UInt8)] : ByteArray }.size ∧
      { data := #[(92 : UInt8), (120 : UInt8)] : ByteArray }.size.succ ≤ (4294967296 : Nat)) ∧
      ∀ (m : Nat) (g_1 : Nat → List Value), BStr ((34 : UInt8) :: qbs (List.take j l)).length g { data := #[(92 : UInt8), (120 : UInt8)] : ByteArray } m g_1 → (0 : Int) ≤ (4 : Int) ∧
      ((0 : Int) ≤ (h ((0 : Nat) + (↑j : Int).toNat)).fdiv ((2 : Int) ^ min (Int.toNat (4 : Int)) IntKind.u8.bits) ∧
      (h ((0 : Nat) + (↑j : Int).toNat)).fdiv ((2 : Int) ^ min (Int.toNat (4 : Int)) IntKind.u8.bits) + (1 : Int) ≤ (↑{ data := #[(48 : UInt8), (49 : UInt8), (50 : UInt8), (51 : UInt8), (52 : UInt8), (53 : UInt8), (54 : UInt8), (55 : UInt8), (56 : UInt8), (57 : UInt8), (97 : UInt8), (98 : UInt8), (99 : UInt8), (100 : UInt8), (101 : UInt8), (102 : UInt8)] : ByteArray }.size : Int)) ∧
      BPre m m g_1 ∧
      IsByte (↑(strAt { data := #[(48 : UInt8), (49 : UInt8), (50 : UInt8), (51 : UInt8), (52 : UInt8), (53 : UInt8), (54 : UInt8), (55 : UInt8), (56 : UInt8), (57 : UInt8), (97 : UInt8), (98 : UInt8), (99 : UInt8), (100 : UInt8), (101 : UInt8), (102 : UInt8)] : ByteArray } ((h ((0 : Nat) + (↑j : Int).toNat)).fdiv ((2 : Int) ^ min (Int.toNat (4 : Int)) IntKind.u8.bits)).toNat) : Int) ∧
      ∀ (m_1 : Nat) (g : Nat → List Value), BByte m g_1 (↑(strAt { data := #[(48 : UInt8), (49 : UInt8), (50 : UInt8), (51 : UInt8), (52 : UInt8), (53 : UInt8), (54 : UInt8), (55 : UInt8), (56 : UInt8), (57 : UInt8), (97 : UInt8), (98 : UInt8), (99 : UInt8), (100 : UInt8), (101 : UInt8), (102 : UInt8)] : ByteArray } ((h ((0 : Nat) + (↑j : Int).toNat)).fdiv ((2 : Int) ^ min (Int.toNat (4 : Int)) IntKind.u8.bits)).toNat) : Int) m_1 g → ((0 : Int) ≤ IntKind.u8.wrap (↑(BitVec.ofInt IntKind.u8.bits (h ((0 : Nat) + (↑j : Int).toNat)) &&& BitVec.ofInt IntKind.u8.bits (15 : Int)).toNat : Int) ∧
      IntKind.u8.wrap (↑(BitVec.ofInt IntKind.u8.bits (h ((0 : Nat) + (↑j : Int).toNat)) &&& BitVec.ofInt IntKind.u8.bits (15 : Int)).toNat : Int) + (1 : Int) ≤ (↑{ data := #[(48 : UInt8), (49 : UInt8), (50 : UInt8), (51 : UInt8), (52 : UInt8), (53 : UInt8), (54 : UInt8), (55 : UInt8), (56 : UInt8), (57 : UInt8), (97 : UInt8), (98 : UInt8), (99 : UInt8), (100 : UInt8), (101 : UInt8), (102 : UInt8)] : ByteArray }.size : Int)) ∧
      BPre m_1 m_1 g ∧
      IsByte (↑(strAt { data := #[(48 : UInt8), (49 : UInt8), (50 : UInt8), (51 : UInt8), (52 : UInt8), (53 : UInt8), (54 : UInt8), (55 : UInt8), (56 : UInt8), (57 : UInt8), (97 : UInt8), (98 : UInt8), (99 : UInt8), (100 : UInt8), (101 : UInt8), (102 : UInt8)] : ByteArray } (IntKind.u8.wrap (↑(BitVec.ofInt IntKind.u8.bits (h ((0 : Nat) + (↑j : Int).toNat)) &&& BitVec.ofInt IntKind.u8.bits (15 : Int)).toNat : Int)).toNat) : Int) ∧
      ∀ (m : Nat) (g_2 : Nat → List Value), BByte m_1 g (↑(strAt { data := #[(48 : UInt8), (49 : UInt8), (50 : UInt8), (51 : UInt8), (52 : UInt8), (53 : UInt8), (54 : UInt8), (55 : UInt8), (56 : UInt8), (57 : UInt8), (97 : UInt8), (98 : UInt8), (99 : UInt8), (100 : UInt8), (101 : UInt8), (102 : UInt8)] : ByteArray } (IntKind.u8.wrap (↑(BitVec.ofInt IntKind.u8.bits (h ((0 : Nat) + (↑j : Int).toNat)) &&& BitVec.ofInt IntKind.u8.bits (15 : Int)).toNat : Int)).toNat) : Int) m g_2 → (k = (0 : Nat) → False) ∧
      (Value.pointer (some { block := (1 : Nat), off := (0 : Nat) : Addr }) = Value.pointer (some { block := (1 : Nat), off := { block := (1 : Nat), off := (0 : Nat) : Addr }.off : Addr }) ∧
      Value.slice (some { block := (0 : Nat), off := (3 : Nat), spot := some (0 : Nat) : Addr }) l.length cap = Value.slice (some { block := (0 : Nat), off := { block := (0 : Nat), off := (3 : Nat), spot := some (0 : Nat) : Addr }.off, spot := some (0 : Nat) : Addr }) l.length cap ∧
      Value.int IntKind.i64 (↑l.length : Int) = Value.int IntKind.i64 (↑l.length : Int) ∧
      Value.int IntKind.i64 (IntKind.i64.wrap ((↑j : Int) + (1 : Int))) = Value.int IntKind.i64 (IntKind.i64.wrap ((↑j : Int) + (1 : Int))) ∧
      True) ∧
      QSt { tmps := [], V := [VObj.arg (5 : TypeId) (1 : Nat) n1 fun j => [Value.int IntKind.u8 (h j)], VObj.cells (48 : TypeId) [Value.pointer (some { block := (1 : Nat), off := { block := { block := (1 : Nat), off := (0 : Nat) : Addr }.block, off := { block := (0 : Nat), off := (0 : Nat) : Addr }.off : Addr }.off : Addr }), Value.slice (some { block := (3 : Nat), off := { block := (6 : Nat), off := { block := (2 : Nat), off := (2 : Nat), spot := some (0 : Nat) : Addr }.off, spot := some (0 : Nat) : Addr }.off, spot := some (0 : Nat) : Addr }) m (0 : Nat)], VObj.dead, VObj.vec (5 : TypeId) (1 : Nat) m g_2] : VSt } { tmps := [], V := [VObj.arg (5 : TypeId) (1 : Nat) n1 fun j => [Value.int IntKind.u8 (h j)], VObj.cells (48 : TypeId) [Value.pointer (some { block := (1 : Nat), off := (0 : Nat) : Addr }), Value.slice (some { block := (3 : Nat), off := (2 : Nat), spot := some (0 : Nat) : Addr }) m (0 : Nat)], VObj.dead, VObj.vec (5 : TypeId) (1 : Nat) m g_2] : VSt } ∧
      QuAt l (k - (1 : Nat)) (IntKind.i64.wrap ((↑j : Int) + (1 : Int))) m m g_2)
      (bsplit (decide (h ((0 : Nat) + (↑j : Int).toNat) > (126 : Int))) (BPre ((34 : UInt8) :: qbs (List.take j l)).length ((34 : UInt8) :: qbs (List.take j l)).length g ∧
      (Nat.succ (0 : Nat) ≤ { data := #[(92 : UInt8), (120 : UInt8)] : ByteArray }.size ∧
      { data := #[(92 : UInt8), (120 : UInt8)] : ByteArray }.size.succ ≤ (4294967296 : Nat)) ∧
      ∀ (m : Nat) (g_1 : Nat → List Value), BStr ((34 : UInt8) :: qbs (List.take j l)).length g { data := #[(92 : UInt8), (120 : UInt8)] : ByteArray } m g_1 → (0 : Int) ≤ (4 : Int) ∧
      ((0 : Int) ≤ (h ((0 : Nat) + (↑j : Int).toNat)).fdiv ((2 : Int) ^ min (Int.toNat (4 : Int)) IntKind.u8.bits) ∧
      (h ((0 : Nat) + (↑j : Int).toNat)).fdiv ((2 : Int) ^ min (Int.toNat (4 : Int)) IntKind.u8.bits) + (1 : Int) ≤ (↑{ data := #[(48 : UInt8), (49 : UInt8), (50 : UInt8), (51 : UInt8), (52 : UInt8), (53 : UInt8), (54 : UInt8), (55 : UInt8), (56 : UInt8), (57 : UInt8), (97 : UInt8), (98 : UInt8), (99 : UInt8), (100 : UInt8), (101 : UInt8), (102 : UInt8)] : ByteArray }.size : Int)) ∧
      BPre m m g_1 ∧
      IsByte (↑(strAt { data := #[(48 : UInt8), (49 : UInt8), (50 : UInt8), (51 : UInt8), (52 : UInt8), (53 : UInt8), (54 : UInt8), (55 : UInt8), (56 : UInt8), (57 : UInt8), (97 : UInt8), (98 : UInt8), (99 : UInt8), (100 : UInt8), (101 : UInt8), (102 : UInt8)] : ByteArray } ((h ((0 : Nat) + (↑j : Int).toNat)).fdiv ((2 : Int) ^ min (Int.toNat (4 : Int)) IntKind.u8.bits)).toNat) : Int) ∧
      ∀ (m_1 : Nat) (g : Nat → List Value), BByte m g_1 (↑(strAt { data := #[(48 : UInt8), (49 : UInt8), (50 : UInt8), (51 : UInt8), (52 : UInt8), (53 : UInt8), (54 : UInt8), (55 : UInt8), (56 : UInt8), (57 : UInt8), (97 : UInt8), (98 : UInt8), (99 : UInt8), (100 : UInt8), (101 : UInt8), (102 : UInt8)] : ByteArray } ((h ((0 : Nat) + (↑j : Int).toNat)).fdiv ((2 : Int) ^ min (Int.toNat (4 : Int)) IntKind.u8.bits)).toNat) : Int) m_1 g → ((0 : Int) ≤ IntKind.u8.wrap (↑(BitVec.ofInt IntKind.u8.bits (h ((0 : Nat) + (↑j : Int).toNat)) &&& BitVec.ofInt IntKind.u8.bits (15 : Int)).toNat : Int) ∧
      IntKind.u8.wrap (↑(BitVec.ofInt IntKind.u8.bits (h ((0 : Nat) + (↑j : Int).toNat)) &&& BitVec.ofInt IntKind.u8.bits (15 : Int)).toNat : Int) + (1 : Int) ≤ (↑{ data := #[(48 : UInt8), (49 : UInt8), (50 : UInt8), (51 : UInt8), (52 : UInt8), (53 : UInt8), (54 : UInt8), (55 : UInt8), (56 : UInt8), (57 : UInt8), (97 : UInt8), (98 : UInt8), (99 : UInt8), (100 : UInt8), (101 : UInt8), (102 : UInt8)] : ByteArray }.size : Int)) ∧
      BPre m_1 m_1 g ∧
      IsByte (↑(strAt { data := #[(48 : UInt8), (49 : UInt8), (50 : UInt8), (51 : UInt8), (52 : UInt8), (53 : UInt8), (54 : UInt8), (55 : UInt8), (56 : UInt8), (57 : UInt8), (97 : UInt8), (98 : UInt8), (99 : UInt8), (100 : UInt8), (101 : UInt8), (102 : UInt8)] : ByteArray } (IntKind.u8.wrap (↑(BitVec.ofInt IntKind.u8.bits (h ((0 : Nat) + (↑j : Int).toNat)) &&& BitVec.ofInt IntKind.u8.bits (15 : Int)).toNat : Int)).toNat) : Int) ∧
      ∀ (m : Nat) (g_2 : Nat → List Value), BByte m_1 g (↑(strAt { data := #[(48 : UInt8), (49 : UInt8), (50 : UInt8), (51 : UInt8), (52 : UInt8), (53 : UInt8), (54 : UInt8), (55 : UInt8), (56 : UInt8), (57 : UInt8), (97 : UInt8), (98 : UInt8), (99 : UInt8), (100 : UInt8), (101 : UInt8), (102 : UInt8)] : ByteArray } (IntKind.u8.wrap (↑(BitVec.ofInt IntKind.u8.bits (h ((0 : Nat) + (↑j : Int).toNat)) &&& BitVec.ofInt IntKind.u8.bits (15 : Int)).toNat : Int)).toNat) : Int) m g_2 → (k = (0 : Nat) → False) ∧
      (Value.pointer (some { block := (1 : Nat), off := (0 : Nat) : Addr }) = Value.pointer (some { block := (1 : Nat), off := { block := (1 : Nat), off := (0 : Nat) : Addr }.off : Addr }) ∧
      Value.slice (some { block := (0 : Nat), off := (3 : Nat), spot := some (0 : Nat) : Addr }) l.length cap = Value.slice (some { block := (0 : Nat), off := { block := (0 : Nat), off := (3 : Nat), spot := some (0 : Nat) : Addr }.off, spot := some (0 : Nat) : Addr }) l.length cap ∧
      Value.int IntKind.i64 (↑l.length : Int) = Value.int IntKind.i64 (↑l.length : Int) ∧
      Value.int IntKind.i64 (IntKind.i64.wrap ((↑j : Int) + (1 : Int))) = Value.int IntKind.i64 (IntKind.i64.wrap ((↑j : Int) + (1 : Int))) ∧
      True) ∧
      QSt { tmps := [], V := [VObj.arg (5 : TypeId) (1 : Nat) n1 fun j => [Value.int IntKind.u8 (h j)], VObj.cells (48 : TypeId) [Value.pointer (some { block := (1 : Nat), off := { block := { block := (1 : Nat), off := (0 : Nat) : Addr }.block, off := { block := (0 : Nat), off := (0 : Nat) : Addr }.off : Addr }.off : Addr }), Value.slice (some { block := (3 : Nat), off := { block := (6 : Nat), off := { block := (2 : Nat), off := (2 : Nat), spot := some (0 : Nat) : Addr }.off, spot := some (0 : Nat) : Addr }.off, spot := some (0 : Nat) : Addr }) m (0 : Nat)], VObj.dead, VObj.vec (5 : TypeId) (1 : Nat) m g_2] : VSt } { tmps := [], V := [VObj.arg (5 : TypeId) (1 : Nat) n1 fun j => [Value.int IntKind.u8 (h j)], VObj.cells (48 : TypeId) [Value.pointer (some { block := (1 : Nat), off := (0 : Nat) : Addr }), Value.slice (some { block := (3 : Nat), off := (2 : Nat), spot := some (0 : Nat) : Addr }) m (0 : Nat)], VObj.dead, VObj.vec (5 : TypeId) (1 : Nat) m g_2] : VSt } ∧
      QuAt l (k - (1 : Nat)) (IntKind.i64.wrap ((↑j : Int) + (1 : Int))) m m g_2) (BPre ((34 : UInt8) :: qbs (List.take j l)).length ((34 : UInt8) :: qbs (List.take j l)).length g ∧
      IsByte (h ((0 : Nat) + (↑j : Int).toNat)) ∧
      ∀ (m : Nat) (g_1 : Nat → List Value), BByte ((34 : UInt8) :: qbs (List.take j l)).length g (h ((0 : Nat) + (↑j : Int).toNat)) m g_1 → (k = (0 : Nat) → False) ∧
      (Value.pointer (some { block := (1 : Nat), off := (0 : Nat) : Addr }) = Value.pointer (some { block := (1 : Nat), off := { block := (1 : Nat), off := (0 : Nat) : Addr }.off : Addr }) ∧
      Value.slice (some { block := (0 : Nat), off := (3 : Nat), spot := some (0 : Nat) : Addr }) l.length cap = Value.slice (some { block := (0 : Nat), off := { block := (0 : Nat), off := (3 : Nat), spot := some (0 : Nat) : Addr }.off, spot := some (0 : Nat) : Addr }) l.length cap ∧
      Value.int IntKind.i64 (↑l.length : Int) = Value.int IntKind.i64 (↑l.length : Int) ∧
      Value.int IntKind.i64 (IntKind.i64.wrap ((↑j : Int) + (1 : Int))) = Value.int IntKind.i64 (IntKind.i64.wrap ((↑j : Int) + (1 : Int))) ∧
      True) ∧
      QSt { tmps := [], V := [VObj.arg (5 : TypeId) (1 : Nat) n1 fun j => [Value.int IntKind.u8 (h j)], VObj.cells (48 : TypeId) [Value.pointer (some { block := (1 : Nat), off := { block := { block := (1 : Nat), off := (0 : Nat) : Addr }.block, off := { block := (0 : Nat), off := (0 : Nat) : Addr }.off : Addr }.off : Addr }), Value.slice (some { block := (3 : Nat), off := { block := (4 : Nat), off := { block := (2 : Nat), off := (2 : Nat), spot := some (0 : Nat) : Addr }.off, spot := some (0 : Nat) : Addr }.off, spot := some (0 : Nat) : Addr }) m (0 : Nat)], VObj.dead, VObj.vec (5 : TypeId) (1 : Nat) m g_1] : VSt } { tmps := [], V := [VObj.arg (5 : TypeId) (1 : Nat) n1 fun j => [Value.int IntKind.u8 (h j)], VObj.cells (48 : TypeId) [Value.pointer (some { block := (1 : Nat), off := (0 : Nat) : Addr }), Value.slice (some { block := (3 : Nat), off := (2 : Nat), spot := some (0 : Nat) : Addr }) m (0 : Nat)], VObj.dead, VObj.vec (5 : TypeId) (1 : Nat) m g_1] : VSt } ∧
      QuAt l (k - (1 : Nat)) (IntKind.i64.wrap ((↑j : Int) + (1 : Int))) m m g_1))))))) (QuEnd l ((34 : UInt8) :: qbs (List.take j l)).length ((34 : UInt8) :: qbs (List.take j l)).length g ∧
      QSt { tmps := [unk, unk, unk, Value.pointer (some { block := (1 : Nat), off := { block := (1 : Nat), off := (0 : Nat) : Addr }.off : Addr }), unk, unk, unk, unk, unk, unk, unk, unk, unk, unk, unk, unk, unk, unk, unk, unk, unk, unk, unk, unk, unk, unk, unk, unk, unk, unk, unk, unk, unk, unk, unk, unk, unk, unk, unk, unk, unk, unk, unk, unk, unk, unk, unk, unk, unk, unk, unk, unk], V := [VObj.arg (5 : TypeId) (1 : Nat) n1 fun j => [Value.int IntKind.u8 (h j)], VObj.cells (48 : TypeId) [Value.pointer (some { block := (1 : Nat), off := { block := (1 : Nat), off := (0 : Nat) : Addr }.off : Addr }), Value.slice (some { block := (3 : Nat), off := { block := (3 : Nat), off := (2 : Nat), spot := some (0 : Nat) : Addr }.off, spot := some (0 : Nat) : Addr }) ((34 : UInt8) :: qbs (List.take j l)).length (0 : Nat)], VObj.dead, VObj.vec (5 : TypeId) (1 : Nat) ((34 : UInt8) :: qbs (List.take j l)).length g] : VSt } { tmps := [unk, unk, unk, Value.pointer (some { block := (1 : Nat), off := (0 : Nat) : Addr }), unk, unk, unk, unk, unk, unk, unk, unk, unk, unk, unk, unk, unk, unk, unk, unk, unk, unk, unk, unk, unk, unk, unk, unk, unk, unk, unk, unk, unk, unk, unk, unk, unk, unk, unk, unk, unk, unk, unk, unk, unk, unk, unk, unk, unk, unk, unk, unk], V := [VObj.arg (5 : TypeId) (1 : Nat) n1 fun j => [Value.int IntKind.u8 (h j)], VObj.cells (48 : TypeId) [Value.pointer (some { block := (1 : Nat), off := (0 : Nat) : Addr }), Value.slice (some { block := (3 : Nat), off := (2 : Nat), spot := some (0 : Nat) : Addr }) ((34 : UInt8) :: qbs (List.take j l)).length (0 : Nat)], VObj.dead, VObj.vec (5 : TypeId) (1 : Nat) ((34 : UInt8) :: qbs (List.take j l)).length g] : VSt })) (by kernel_rfl) ?_
    refine bsplit_iff.2 ⟨fun hlt => ?_, fun hge => ?_⟩
    · have hlt : j < l.length := by simp only [decide_eq_true_eq] at hlt; omega
      have hc : h (0 + (j : Int).toNat) = ((l[j]).toNat : Int) := by rw [Int.toNat_natCast, Nat.zero_add]; exact h1.at_ j l[j] (by simp [hlt])
      have hw : IntKind.i64.wrap ((j : Int) + 1) = ((j + 1 : Nat) : Int) := by rw [w64 _ (by omega)]; rfl
      have htake : l.take (j + 1) = l.take j ++ [l[j]] := by rw [List.take_add_one]; simp [hlt]
      rw [hc, hw]
      have hT : (34 :: qbs (l.take j)).length ≤ 4 * j + 1 := by
        have := qbs_len (l.take j)
        simp only [List.length_take] at this
        simp only [List.length_cons]
        omega
      generalize hTe : (34 :: qbs (l.take j)) = T at *
      have fin : ∀ (m : Nat) (g' : Nat → List Value), m = (T ++ qb l[j]).length → RowB g' (T ++ qb l[j]) → QuAt l (k - 1) ((j + 1 : Nat) : Int) m m g' := by
        intro m g' hm hr
        have e : T ++ qb l[j] = 34 :: qbs (l.take (j + 1)) := by
          rw [htake, qbs_app, ← hTe]; simp [qbs]
        rw [e] at hm hr
        exact ⟨j + 1, rfl, by omega, hm, rfl, hr⟩
      generalize l[j] = c at *
      have hcl := c.toNat_lt
      refine ⟨⟨by omega, by omega, by omega⟩, by omega, bsplit_iff.2 ⟨fun e34 => ?_, fun n34 => bsplit_iff.2 ⟨fun e92 => ?_, fun n92 => bsplit_iff.2 ⟨fun e10 => ?_, fun n10 => bsplit_iff.2 ⟨fun e9 => ?_, fun n9 => bsplit_iff.2 ⟨fun e32 => ?_, fun n32 => bsplit_iff.2 ⟨fun e126 => ?_, fun n126 => ?_⟩⟩⟩⟩⟩⟩⟩
      · have hq : qb c = [92, c] := by unfold qb; rw [if_pos (.inl (UInt8.toNat_inj.1 (show c.toNat = 34 by have := beq_iff_eq.1 e34; omega)))]
        refine ⟨.of hg (by omega), ⟨92, rfl⟩, fun m g1 hb => ?_⟩
        obtain ⟨rfl, hr⟩ := hb.app hg (b := 92) rfl
        refine ⟨.of hr (by rw [List.length_append]; simp only [List.length_cons, List.length_nil]; omega), ⟨c, rfl⟩, fun m2 g2 hb2 => ?_⟩
        obtain ⟨rfl, hr2⟩ := hb2.app hr (b := c) rfl
        exact ⟨by omega, ⟨rfl, rfl, rfl, rfl, trivial⟩, ⟨rfl⟩, fin _ _ (by rw [hq]; simp) (by rw [hq]; simpa using hr2)⟩
      · have hq : qb c = [92, c] := by unfold qb; rw [if_pos (.inr (UInt8.toNat_inj.1 (show c.toNat = 92 by have := beq_iff_eq.1 e92; omega)))]
        refine ⟨.of hg (by omega), ⟨92, rfl⟩, fun m g1 hb => ?_⟩
        obtain ⟨rfl, hr⟩ := hb.app hg (b := 92) rfl
        refine ⟨.of hr (by rw [List.length_append]; simp only [List.length_cons, List.length_nil]; omega), ⟨c, rfl⟩, fun m2 g2 hb2 => ?_⟩
        obtain ⟨rfl, hr2⟩ := hb2.app hr (b := c) rfl
        exact ⟨by omega, ⟨rfl, rfl, rfl, rfl, trivial⟩, ⟨rfl⟩, fin _ _ (by rw [hq]; simp) (by rw [hq]; simpa using hr2)⟩
      · have k34 : ¬ c.toNat = 34 := fun e => by rw [e] at n34; exact absurd n34 (by decide)
        have k92 : ¬ c.toNat = 92 := fun e => by rw [e] at n92; exact absurd n92 (by decide)
        have m1 : ¬ (c = 34 ∨ c = 92) := fun e => e.elim (fun e => k34 (by rw [e]; rfl)) (fun e => k92 (by rw [e]; rfl))
        have hq : qb c = [92, 110] := by unfold qb; rw [if_neg m1, if_pos (UInt8.toNat_inj.1 (show c.toNat = 10 by have := beq_iff_eq.1 e10; omega))]
        refine ⟨.of hg (by omega), ⟨by decide, by decide⟩, fun m g1 hb => ?_⟩
        obtain ⟨rfl, hr⟩ := hb.app hg
        exact ⟨by omega, ⟨rfl, rfl, rfl, rfl, trivial⟩, ⟨rfl⟩, fin _ _ (by rw [hq]; rfl) (by rw [hq]; exact hr)⟩
      · have k34 : ¬ c.toNat = 34 := fun e => by rw [e] at n34; exact absurd n34 (by decide)
        have k92 : ¬ c.toNat = 92 := fun e => by rw [e] at n92; exact absurd n92 (by decide)
        have m1 : ¬ (c = 34 ∨ c = 92) := fun e => e.elim (fun e => k34 (by rw [e]; rfl)) (fun e => k92 (by rw [e]; rfl))
        have m10 : ¬ c = 10 := fun e => by rw [e] at n10; exact absurd n10 (by decide)
        have hq : qb c = [92, 116] := by unfold qb; rw [if_neg m1, if_neg m10, if_pos (UInt8.toNat_inj.1 (show c.toNat = 9 by have := beq_iff_eq.1 e9; omega))]
        refine ⟨.of hg (by omega), ⟨by decide, by decide⟩, fun m g1 hb => ?_⟩
        obtain ⟨rfl, hr⟩ := hb.app hg
        exact ⟨by omega, ⟨rfl, rfl, rfl, rfl, trivial⟩, ⟨rfl⟩, fin _ _ (by rw [hq]; rfl) (by rw [hq]; exact hr)⟩
      · have k34 : ¬ c.toNat = 34 := fun e => by rw [e] at n34; exact absurd n34 (by decide)
        have k92 : ¬ c.toNat = 92 := fun e => by rw [e] at n92; exact absurd n92 (by decide)
        have m1 : ¬ (c = 34 ∨ c = 92) := fun e => e.elim (fun e => k34 (by rw [e]; rfl)) (fun e => k92 (by rw [e]; rfl))
        have m10 : ¬ c = 10 := fun e => by rw [e] at n10; exact absurd n10 (by decide)
        have m9 : ¬ c = 9 := fun e => by rw [e] at n9; exact absurd n9 (by decide)
        have hq : qb c = [92, 120, hexD (c.toNat / 16), hexD (c.toNat % 16)] := by unfold qb; rw [if_neg m1, if_neg m10, if_neg m9, if_pos (.inl (by have := of_decide_eq_true e32; omega))]
        refine ⟨.of hg (by omega), ⟨by decide, by decide⟩, fun m g1 hb => ?_⟩
        obtain ⟨hm, hr⟩ := hb.app hg
        have hbx : bytesL (⟨#[92, 120]⟩ : ByteArray) = [92, 120] := rfl
        rw [hbx] at hm hr
        subst hm
        have hx := hex_all ⟨c.toNat, hcl⟩
        unfold digS at hx
        obtain ⟨b1, s1, b2, s2⟩ := hx
        refine ⟨by decide, b1, .of hr (by rw [List.length_append]; simp only [List.length_cons, List.length_nil]; omega), by rw [s1]; exact ⟨_, rfl⟩, fun m1 g2 hb2 => ?_⟩
        obtain ⟨rfl, hr2⟩ := hb2.app hr (b := hexD (c.toNat / 16)) (by rw [s1])
        refine ⟨b2, .of hr2 (by rw [List.length_append, List.length_append]; simp only [List.length_cons, List.length_nil]; omega), by rw [s2]; exact ⟨_, rfl⟩, fun m3 g3 hb3 => ?_⟩
        obtain ⟨rfl, hr3⟩ := hb3.app hr2 (b := hexD (c.toNat % 16)) (by rw [s2])
        exact ⟨by omega, ⟨rfl, rfl, rfl, rfl, trivial⟩, ⟨rfl⟩, fin _ _ (by rw [hq]; simp) (by rw [hq]; simpa using hr3)⟩
      · have k34 : ¬ c.toNat = 34 := fun e => by rw [e] at n34; exact absurd n34 (by decide)
        have k92 : ¬ c.toNat = 92 := fun e => by rw [e] at n92; exact absurd n92 (by decide)
        have m1 : ¬ (c = 34 ∨ c = 92) := fun e => e.elim (fun e => k34 (by rw [e]; rfl)) (fun e => k92 (by rw [e]; rfl))
        have m10 : ¬ c = 10 := fun e => by rw [e] at n10; exact absurd n10 (by decide)
        have m9 : ¬ c = 9 := fun e => by rw [e] at n9; exact absurd n9 (by decide)
        have hq : qb c = [92, 120, hexD (c.toNat / 16), hexD (c.toNat % 16)] := by unfold qb; rw [if_neg m1, if_neg m10, if_neg m9, if_pos (.inr (by have := of_decide_eq_true e126; omega))]
        refine ⟨.of hg (by omega), ⟨by decide, by decide⟩, fun m g1 hb => ?_⟩
        obtain ⟨hm, hr⟩ := hb.app hg
        have hbx : bytesL (⟨#[92, 120]⟩ : ByteArray) = [92, 120] := rfl
        rw [hbx] at hm hr
        subst hm
        have hx := hex_all ⟨c.toNat, hcl⟩
        unfold digS at hx
        obtain ⟨b1, s1, b2, s2⟩ := hx
        refine ⟨by decide, b1, .of hr (by rw [List.length_append]; simp only [List.length_cons, List.length_nil]; omega), by rw [s1]; exact ⟨_, rfl⟩, fun m1 g2 hb2 => ?_⟩
        obtain ⟨rfl, hr2⟩ := hb2.app hr (b := hexD (c.toNat / 16)) (by rw [s1])
        refine ⟨b2, .of hr2 (by rw [List.length_append, List.length_append]; simp only [List.length_cons, List.length_nil]; omega), by rw [s2]; exact ⟨_, rfl⟩, fun m3 g3 hb3 => ?_⟩
        obtain ⟨rfl, hr3⟩ := hb3.app hr2 (b := hexD (c.toNat % 16)) (by rw [s2])
        exact ⟨by omega, ⟨rfl, rfl, rfl, rfl, trivial⟩, ⟨rfl⟩, fin _ _ (by rw [hq]; simp) (by rw [hq]; simpa using hr3)⟩
      · have k34 : ¬ c.toNat = 34 := fun e => by rw [e] at n34; exact absurd n34 (by decide)
        have k92 : ¬ c.toNat = 92 := fun e => by rw [e] at n92; exact absurd n92 (by decide)
        have m1 : ¬ (c = 34 ∨ c = 92) := fun e => e.elim (fun e => k34 (by rw [e]; rfl)) (fun e => k92 (by rw [e]; rfl))
        have m10 : ¬ c = 10 := fun e => by rw [e] at n10; exact absurd n10 (by decide)
        have m9 : ¬ c = 9 := fun e => by rw [e] at n9; exact absurd n9 (by decide)
        have hq : qb c = [c] := by
          unfold qb
          rw [if_neg m1, if_neg m10, if_neg m9, if_neg]
          have := of_decide_eq_false n32
          have := of_decide_eq_false n126
          omega
        refine ⟨.of hg (by omega), ⟨c, rfl⟩, fun m g1 hb => ?_⟩
        obtain ⟨rfl, hr⟩ := hb.app hg (b := c) rfl
        exact ⟨by omega, ⟨rfl, rfl, rfl, rfl, trivial⟩, ⟨rfl⟩, fin _ _ (by rw [hq]) (by rw [hq]; exact hr)⟩
    · have hge : ¬ j < l.length := by simp only [decide_eq_false_iff_not] at hge; omega
      have hj2 : j = l.length := by omega
      have e : l.take j = l := by rw [hj2]; exact List.take_length
      rw [e] at hg ⊢
      exact ⟨⟨rfl, rfl, hg⟩, ⟨rfl⟩⟩
  · match k, hk with
    | 0, hk => cases hk; trivial
    | 1, hk => cases hk; intro v hv; exact scB_ok 6 v (List.all_eq_true.1 (show [Value.pointer (some ⟨1, 0, none⟩), Value.slice (some ⟨3, 2, some 0⟩) (34 :: qbs (l.take j)).length 0].all (scB 4 6) = true from rfl) v hv)
    | 2, hk => cases hk; trivial
    | 3, hk => cases hk; exact hg.sc

def quBA (n1 : Nat) (h : Nat → Int) (cap : Nat) (l : List UInt8) : BlkS := fun S K =>
  reshape S.V.length (quSelA .normal S) (quKs .normal) [] quNcA S (quJA n1 (fun j => [.int .u8 (h j)]) cap l l.length) ∧ S.V.length = 3 ∧
    ∀ m g, QuEnd l m m g → K .normal (quEA n1 (fun j => [.int .u8 (h j)]) m g)

theorem qu_loopA (n1 : Nat) (h : Nat → Int) (cap : Nat) (l : List UInt8) (hl : l.length ≤ 16777216) (h1 : IntB h l) (hln : l.length ≤ n1) (S : VSt) (K : Exit → VSt → Prop) (hB : quBA n1 h cap l S K) : Does Tryd.prog (.block 0 (.loop (roundOf Tryd.f11 0))) S K := by
  obtain ⟨h2, h3, h4⟩ := hB
  refine Does.mono (Does.loopR (K := quKA n1 (fun j => [.int .u8 (h j)]) l) quKs quSelA [] quNcA (quJA n1 (fun j => [.int .u8 (h j)]) cap l) S (reshape_mono (fun S hS => ⟨_, hS⟩) h2) fun k S' hJ => ?_) fun e S' hK => ?_
  · rw [h3]; exact qu_roundA n1 h cap l hl h1 hln k S' hJ
  · unfold quKA at hK
    split at hK
    · split at hK
      · obtain ⟨⟨h5, rfl, h6⟩, ⟨rfl⟩⟩ := hK
        exact h4 _ _ ⟨h5, rfl, h6⟩
      · exact hK.elim
    · exact hK.elim

theorem quote_runA (n1 : Nat) (h : Nat → Int) (cap : Nat) (l : List UInt8) (hl : l.length ≤ 16777216) (h1 : IntB h l) (hln : l.length ≤ n1) :
    CallDoes Tryd.prog 11 [.slice (some ⟨0, 3, some 0⟩) l.length cap] [.arg 5 1 n1 (fun j => [.int .u8 (h j)])] fun v V' =>
      reshape 1 [.keep 0] [0] [] [] ⟨[v], V'⟩ (quLeaf [.arg 5 1 n1 (fun j => [.int .u8 (h j)])] l) := by
  refine of_run (ctxG_ok (l := []) (cs := [(17, frameT wbC), (18, frameT wsC), (19, frameT strC)]) (bs := [(0, quBA n1 h cap l)]) .nil (.cons frWb (.cons frWs (.cons frStr .nil)))) (n := 200) Tryd.func11 rfl (.one rfl rfl (qu_loopA n1 h cap l hl h1 hln)) ?_
  refine by_nf (B := IsByte (34 : Int) ∧
    ∀ (m : Nat) (g : Nat → List Value), BByte (0 : Nat) (fun x => []) (34 : Int) m g → ((Value.pointer (some { block := (1 : Nat), off := (0 : Nat) : Addr }) = Value.pointer (some { block := (1 : Nat), off := { block := (1 : Nat), off := (0 : Nat) : Addr }.off : Addr }) ∧
    Value.slice (some { block := (0 : Nat), off := (3 : Nat), spot := some (0 : Nat) : Addr }) l.length cap = Value.slice (some { block := (0 : Nat), off := { block := (0 : Nat), off := (3 : Nat), spot := some (0 : Nat) : Addr }.off, spot := some (0 : Nat) : Addr }) l.length cap ∧
    Value.int IntKind.i64 (↑l.length : Int) = Value.int IntKind.i64 (↑l.length : Int) ∧
    Value.int IntKind.i64 (0 : Int) = Value.int IntKind.i64 (0 : Int) ∧
    True) ∧
    QSt { tmps := [], V := [VObj.arg (5 : TypeId) (1 : Nat) n1 fun j => [Value.int IntKind.u8 (h j)], VObj.cells (48 : TypeId) [Value.pointer (some { block := (1 : Nat), off := { block := { block := (1 : Nat), off := (0 : Nat) : Addr }.block, off := { block := (0 : Nat), off := (0 : Nat) : Addr }.off : Addr }.off : Addr }), Value.slice (some { block := (3 : Nat), off := { block := (2 : Nat), off := { block := (1 : Nat), off := (2 : Nat), spot := some (0 : Nat) : Addr }.off, spot := some (0 : Nat) : Addr }.off, spot := some (0 : Nat) : Addr }) m (0 : Nat)], VObj.dead, VObj.vec (5 : TypeId) (1 : Nat) m g] : VSt } { tmps := [], V := [VObj.arg (5 : TypeId) (1 : Nat) n1 fun j => [Value.int IntKind.u8 (h j)], VObj.cells (48 : TypeId) [Value.pointer (some { block := (1 : Nat), off := (0 : Nat) : Addr }), Value.slice (some { block := (3 : Nat), off := (2 : Nat), spot := some (0 : Nat) : Addr }) m (0 : Nat)], VObj.dead, VObj.vec (5 : TypeId) (1 : Nat) m g] : VSt } ∧
    QuAt l l.length (0 : Int) m m g) ∧
    (3 : Nat) = (3 : Nat) ∧
    ∀ (m : Nat) (g : Nat → List Value), QuEnd l m m g → BPre m m g ∧
    IsByte (34 : Int) ∧
    ∀ (m_1 : Nat) (g_1 : Nat → List Value), BByte m g (34 : Int) m_1 g_1 → BPre m_1 m_1 g_1 ∧
    Nat.succ (0 : Nat) ≤ m_1 ∧
    ∀ (s : ByteArray), BText m_1 g_1 s → QSt { tmps := [], V := [VObj.arg (5 : TypeId) (1 : Nat) n1 fun j => [Value.int IntKind.u8 (h j)]] : VSt } { tmps := [], V := [VObj.arg (5 : TypeId) (1 : Nat) n1 fun j => [Value.int IntKind.u8 (h j)]] : VSt } ∧
    QOut l s) (by kernel_rfl) ?_
  refine ⟨⟨34, rfl⟩, fun m g hb => ?_⟩
  obtain ⟨hm, hr⟩ := BByte.app (T := []) hb (.nil _) (b := 34) rfl
  refine ⟨⟨⟨rfl, rfl, rfl, rfl, trivial⟩, ⟨rfl⟩, ⟨0, rfl, by omega, by rw [hm]; rfl, rfl, hr⟩⟩, rfl, fun m g hq => ?_⟩
  obtain ⟨hm, _, hg⟩ := hq
  subst hm
  have hlen := qbs_len l
  have hT : (34 :: qbs l).length ≤ 4 * l.length + 1 := by simp only [List.length_cons]; omega
  refine ⟨.of hg (by omega), ⟨34, rfl⟩, fun m2 g2 hb2 => ?_⟩
  obtain ⟨rfl, hr2⟩ := hb2.app hg (b := 34) rfl
  have hT2 : (34 :: qbs l ++ [34]).length = (34 :: qbs l).length + 1 := by simp
  refine ⟨.of hr2 (by omega), by omega, fun s hs => ⟨⟨rfl⟩, ?_⟩⟩
  obtain ⟨l2, h2, h3, rfl⟩ := hs
  have := hr2.same h3 h2
  subst this
  exact ⟨by simp [bytesL, quoteL]⟩

/-- Quote of bytes that were there at the start -/
def quoteA (l : List UInt8) : CallS := fun args V K =>
  match args, V with
  | [.slice (some ⟨0, 3, some r⟩) n c], [.arg 5 1 n1 f1] => QPre r n n1 f1 l ∧ ∀ s, QOut l s → K (.string s) [.arg 5 1 n1 f1]
  | _, _ => False

theorem quoteA_ok (l : List UInt8) : CallOK Tryd.prog 11 (quoteA l) := by
  refine ⟨callable Tryd.func11 rfl (by decide +kernel), fun args V K hT => ?_⟩
  unfold quoteA at hT
  split at hT
  · rename_i r n c n1 f1
    obtain ⟨⟨rfl, h, rfl, rfl, hln, hl, h1⟩, hK⟩ := hT
    refine CallDoes.reshape (fun _ _ => [.keep 0]) [] [] ?_
    intro env w hW hsc
    refine (quote_runA n1 h c l hl h1 hln env w hW hsc).mono ?_
    rintro e w' ⟨u, env', V', v, g1, g2, g3, g4, g5⟩
    refine ⟨u, env', V', v, g1, g2, g3, g4, reshape_mono (fun S hS => ?_) g5⟩
    unfold quLeaf at hS
    split at hS
    · rename_i e1
      obtain ⟨⟨e4⟩, h5⟩ := hS
      unfold one1
      rw [e1, (VSt.mk.inj e4).2]
      exact hK _ h5
    · exact hS.elim
  · exact hT.elim

def quVR (n1 c1 : Nat) (f1 : Nat → List Value) (m : Nat) (g : Nat → List Value) : VW :=
  [.rows true 5 1 n1 c1 f1, .cells 48 [.pointer (some ⟨1, 0, none⟩), .slice (some ⟨3, 2, some 0⟩) m 0], .dead, .vec 5 1 m g]
def quTmR (n cap : Nat) (i : Int) : List Value := [unk, unk, unk, .pointer (some ⟨1, 0, none⟩), unk, unk, unk, .slice (some ⟨0, 0, some 0⟩) n cap, .int .i64 (n : Nat), .int .i64 i] ++ List.replicate 42 unk
def quJR (n1 c1 : Nat) (f1 : Nat → List Value) (cap : Nat) (l : List UInt8) (k : Nat) (S : VSt) : Prop :=
  match nth undef S.tmps 9, (S.V[1]? : Option VObj), (S.V.getLast? : Option VObj) with
  | .int .i64 i, some (.cells 48 [_, .slice (some _) m 0]), some (.vec 5 1 m' g) => leT (quTmR l.length cap i) S.tmps ∧ QSt ⟨[], S.V⟩ ⟨[], quVR n1 c1 f1 m' g⟩ ∧ QuAt l k i m m' g
  | _, _, _ => False
def quER (n1 c1 : Nat) (f1 : Nat → List Value) (m : Nat) (g : Nat → List Value) : VSt := ⟨[unk, unk, unk, .pointer (some ⟨1, 0, none⟩)] ++ List.replicate 48 unk, quVR n1 c1 f1 m g⟩
def quKR (n1 c1 : Nat) (f1 : Nat → List Value) (l : List UInt8) (e : Exit) (S : VSt) : Prop :=
  match e with
  | .normal =>
    match (S.V[1]? : Option VObj), (S.V.getLast? : Option VObj) with
    | some (.cells 48 [_, .slice (some _) m 0]), some (.vec 5 1 m' g) => QuEnd l m m' g ∧ QSt S (quER n1 c1 f1 m' g)
    | _, _ => False
  | _ => False
def quSelR (_ : Exit) (S : VSt) : List Sel :=
  match (S.V[1]? : Option VObj) with
  | some (.cells _ [_, .slice (some a) _ _]) => [.keep 0, .keep 1, .drop 2, selV S.V a.block]
  | _ => []
def quNcR : List (Nat × Nat × Nat) := [(1, 1, 3)]

theorem quJ_eqR {n1 c1 : Nat} {f1 : Nat → List Value} {cap : Nat} {l : List UInt8} {k : Nat} {S : VSt} (hJ : quJR n1 c1 f1 cap l k S) :
    ∃ (j : Nat) (g : Nat → List Value), leT (quTmR l.length cap j) S.tmps ∧ S.V = quVR n1 c1 f1 (34 :: qbs (l.take j)).length g ∧ j + k = l.length ∧ RowB g (34 :: qbs (l.take j)) := by
  unfold quJR at hJ
  split at hJ
  · obtain ⟨h1, ⟨h2⟩, ⟨j, rfl, h3, rfl, rfl, h4⟩⟩ := hJ
    exact ⟨j, _, h1, (VSt.mk.inj h2).2, h3, h4⟩
  · exact hJ.elim

theorem qu_roundR (n1 c1 : Nat) (h : Nat → Int) (cap : Nat) (l : List UInt8) (hl : l.length ≤ 16777216) (h1 : IntB h l) (hln : l.length ≤ n1) (k : Nat) (S : VSt) (hJ : quJR n1 c1 (fun j => [.int .u8 (h j)]) cap l k S) :
    Does Tryd.prog (roundOf Tryd.f11 0) S fun e S' => reshape 3 (quSelR e S') (quKs e) [] quNcR S' (roundR 0 (quJR n1 c1 (fun j => [.int .u8 (h j)]) cap l) k (quKR n1 c1 (fun j => [.int .u8 (h j)]) l) e) := by
  obtain ⟨j, g, ht, hV, hj, hg⟩ := quJ_eqR hJ
  refine Does.weaken (S' := ⟨quTmR l.length cap j, quVR n1 c1 (fun j => [.int .u8 (h j)]) (34 :: qbs (l.take j)).length g⟩) ?_ ht hV.symm (.of rfl fun k o hk => ?_)
  · refine of_code (ctxG_ok (l := []) (cs := [(17, frameT wbC), (18, frameT wsC)]) (bs := []) .nil (.cons frWb (.cons frWs .nil))) (n := 200) .g ?_
    refine by_nf (B := bsplit (decide ((↑j : Int) < (↑l.length : Int))) (((0 : Int) ≤ (↑j : Int) ∧
      (↑j : Int) + (1 : Int) ≤ (↑l.length : Int)) ∧
      ((0 : Nat) + (↑j : Int).toNat).succ ≤ n1 ∧
      bsplit (h ((0 : Nat) + (↑j : Int).toNat) == (34 : Int)) (BPre ((34 : UInt8) :: qbs (List.take j l)).length ((34 : UInt8) :: qbs (List.take j l)).length g ∧
      IsByte (92 : Int) ∧
      ∀ (m : Nat) (g_1 : Nat → List Value), BByte ((34 : UInt8) :: qbs (List.take j l)).length g (92 : Int) m g_1 → BPre m m g_1 ∧
      IsByte (h ((0 : Nat) + (↑j : Int).toNat)) ∧
      ∀ (m_1 : Nat) (g : Nat → List Value), BByte m g_1 (h ((0 : Nat) + (↑j : Int).toNat)) m_1 g → (k = (0 : Nat) → False) ∧
      (Value.pointer (some { block := (1 : Nat), off := (0 : Nat) : Addr }) = Value.pointer (some { block := (1 : Nat), off := { block := (1 : Nat), off := (0 : Nat) : Addr }.off : Addr }) ∧
      Value.slice (some { block := (0 : Nat), off := (0 : Nat), spot := some (0 : Nat) : Addr }) l.length cap = Value.slice (some { block := (0 : Nat), off := { block := (0 : Nat), off := (0 : Nat), spot := some (0 : Nat) : Addr }.off, spot := some (0 : Nat) : Addr }) l.length cap ∧
      Value.int IntKind.i64 (↑l.length : Int) = Value.int IntKind.i64 (↑l.length : Int) ∧
      Value.int IntKind.i64 (IntKind.i64.wrap ((↑j : Int) + (1 : Int))) = Value.int IntKind.i64 (IntKind.i64.wrap ((↑j : Int) + (1 : Int))) ∧
      True) ∧
      QSt { tmps := [], V := [VObj.rows true (5 : TypeId) (1 : Nat) n1 c1 fun j => [Value.int IntKind.u8 (h j)], VObj.cells (48 : TypeId) [Value.pointer (some { block := (1 : Nat), off := { block := { block := (1 : Nat), off := (0 : Nat) : Addr }.block, off := { block := (0 : Nat), off := (0 : Nat) : Addr }.off : Addr }.off : Addr }), Value.slice (some { block := (3 : Nat), off := { block := (5 : Nat), off := { block := (2 : Nat), off := (2 : Nat), spot := some (0 : Nat) : Addr }.off, spot := some (0 : Nat) : Addr }.off, spot := some (0 : Nat) : Addr }) m_1 (0 : Nat)], VObj.dead, VObj.vec (5 : TypeId) (1 : Nat) m_1 g] : VSt } { tmps := [], V := [VObj.rows true (5 : TypeId) (1 : Nat) n1 c1 fun j => [Value.int IntKind.u8 (h j)], VObj.cells (48 : TypeId) [Value.pointer (some { block := (1 : Nat), off := (0 : Nat) : Addr }), Value.slice (some { block := (3 : Nat), off := (2 : Nat), spot := some (0 : Nat) : Addr }) m_1 (0 : Nat)], VObj.dead, VObj.vec (5 : TypeId) (1 : Nat) m_1 g] : VSt } ∧
      QuAt l (k - (1 : Nat)) (IntKind.i64.wrap ((↑j : Int) + (1 : Int))) m_1 m_1 g)
      (bsplit (h ((0 : Nat) + (↑j : Int).toNat) == (92 : Int)) (BPre ((34 : UInt8) :: qbs (List.take j l)).length ((34 : UInt8) :: qbs (List.take j l)).length g ∧
      IsByte (92 : Int) ∧
      ∀ (m : Nat) (g_1 : Nat → List Value), BByte ((34 : UInt8) :: qbs (List.take j l)).length g (92 : Int) m g_1 → BPre m m g_1 ∧
      IsByte (h ((0 : Nat) + (↑j : Int).toNat)) ∧
      ∀ (m_1 : Nat) (g : Nat → List Value), BByte m g_1 (h ((0 : Nat) + (↑j : Int).toNat)) m_1 g → (k = (0 : Nat) → False) ∧
      (Value.pointer (some { block := (1 : Nat), off := (0 : Nat) : Addr }) = Value.pointer (some { block := (1 : Nat), off := { block := (1 : Nat), off := (0 : Nat) : Addr }.off : Addr }) ∧
      Value.slice (some { block := (0 : Nat), off := (0 : Nat), spot := some (0 : Nat) : Addr }) l.length cap = Value.slice (some { block := (0 : Nat), off := { block := (0 : Nat), off := (0 : Nat), spot := some (0 : Nat) : Addr }.off, spot := some (0 : Nat) : Addr }) l.length cap ∧
      Value.int IntKind.i64 (↑l.length : Int) = Value.int IntKind.i64 (↑l.length : Int) ∧
      Value.int IntKind.i64 (IntKind.i64.wrap ((↑j : Int) + (1 : Int))) = Value.int IntKind.i64 (IntKind.i64.wrap ((↑j : Int) + (1 : Int))) ∧
      True) ∧
      QSt { tmps := [], V := [VObj.rows true (5 : TypeId) (1 : Nat) n1 c1 fun j => [Value.int IntKind.u8 (h j)], VObj.cells (48 : TypeId) [Value.pointer (some { block := (1 : Nat), off := { block := { block := (1 : Nat), off := (0 : Nat) : Addr }.block, off := { block := (0 : Nat), off := (0 : Nat) : Addr }.off : Addr }.off : Addr }), Value.slice (some { block := (3 : Nat), off := { block := (5 : Nat), off := { block := (2 : Nat), off := (2 : Nat), spot := some (0 : Nat) : Addr }.off, spot := some (0 : Nat) : Addr }.off, spot := some (0 : Nat) : Addr }) m_1 (0 : Nat)], VObj.dead, VObj.vec (5 : TypeId) (1 : Nat) m_1 g] : VSt } { tmps := [], V := [VObj.rows true (5 : TypeId) (1 : Nat) n1 c1 fun j => [Value.int IntKind.u8 (h j)], VObj.cells (48 : TypeId) [Value.pointer (some { block := (1 : Nat), off := (0 : Nat) : Addr }), Value.slice (some { block := (3 : Nat), off := (2 : Nat), spot := some (0 : Nat) : Addr }) m_1 (0 : Nat)], VObj.dead, VObj.vec (5 : TypeId) (1 : Nat) m_1 g] : VSt } ∧
      QuAt l (k - (1 : Nat)) (IntKind.i64.wrap ((↑j : Int) + (1 : Int))) m_1 m_1 g)
      (bsplit (h ((0 : Nat) + (↑j : Int).toNat) == (10 : Int)) (BPre ((34 : UInt8) :: qbs (List.take j l)).length ((34 : UInt8) :: qbs (List.take j l)).length g ∧
      (Nat.succ (0 : Nat) ≤ { data := #[(92 : UInt8), (110 : UInt8)] : ByteArray }.size ∧
      { data := #[(92 : UInt8), (110 : UInt8)] : ByteArray }.size.succ ≤ (4294967296 : Nat)) ∧
      ∀ (m : Nat) (g_1 : Nat → List Value), BStr ((34 : UInt8) :: qbs (List.take j l)).length g { data := #[(92 : UInt8), (110 : UInt8)] : ByteArray } m g_1 → (k = (0 : Nat) → False) ∧
      (Value.pointer (some { block := (1 : Nat), off := (0 : Nat) : Addr }) = Value.pointer (some { block := (1 : Nat), off := { block := (1 : Nat), off := (0 : Nat) : Addr }.off : Addr }) ∧
      Value.slice (some { block := (0 : Nat), off := (0 : Nat), spot := some (0 : Nat) : Addr }) l.length cap = Value.slice (some { block := (0 : Nat), off := { block := (0 : Nat), off := (0 : Nat), spot := some (0 : Nat) : Addr }.off, spot := some (0 : Nat) : Addr }) l.length cap ∧
      Value.int IntKind.i64 (↑l.length : Int) = Value.int IntKind.i64 (↑l.length : Int) ∧
      Value.int IntKind.i64 (IntKind.i64.wrap ((↑j : Int) + (1 : Int))) = Value.int IntKind.i64 (IntKind.i64.wrap ((↑j : Int) + (1 : Int))) ∧
      True) ∧
      QSt { tmps := [], V := [VObj.rows true (5 : TypeId) (1 : Nat) n1 c1 fun j => [Value.int IntKind.u8 (h j)], VObj.cells (48 : TypeId) [Value.pointer (some { block := (1 : Nat), off := { block := { block := (1 : Nat), off := (0 : Nat) : Addr }.block, off := { block := (0 : Nat), off := (0 : Nat) : Addr }.off : Addr }.off : Addr }), Value.slice (some { block := (3 : Nat), off := { block := (4 : Nat), off := { block := (2 : Nat), off := (2 : Nat), spot := some (0 : Nat) : Addr }.off, spot := some (0 : Nat) : Addr }.off, spot := some (0 : Nat) : Addr }) m (0 : Nat)], VObj.dead, VObj.vec (5 : TypeId) (1 : Nat) m g_1] : VSt } { tmps := [], V := [VObj.rows true (5 : TypeId) (1 : Nat) n1 c1 fun j => [Value.int IntKind.u8 (h j)], VObj.cells (48 : TypeId) [Value.pointer (some { block := (1 : Nat), off := (0 : Nat) : Addr }), Value.slice (some { block := (3 : Nat), off := (2 : Nat), spot := some (0 : Nat) : Addr }) m (0 : Nat)], VObj.dead, VObj.vec (5 : TypeId) (1 : Nat) m g_1] : VSt } ∧
      QuAt l (k - (1 : Nat)) (IntKind.i64.wrap ((↑j : Int) + (1 : Int))) m m g_1)
      (bsplit (h ((0 : Nat) + (↑j : Int).toNat) == (9 : Int)) (BPre ((34 : UInt8) :: qbs (List.take j l)).length ((34 : UInt8) :: qbs (List.take j l)).length g ∧
      (Nat.succ (0 : Nat) ≤ { data := #[(92 : UInt8), (116 : UInt8)] : ByteArray }.size ∧
      { data := #[(92 : UInt8), (116 : UInt8)] : ByteArray }.size.succ ≤ (4294967296 : Nat)) ∧
      ∀ (m : Nat) (g_1 : Nat → List Value), BStr ((34 : UInt8) :: qbs (List.take j l)).length g { data := #[(92 : UInt8), (116 : UInt8)] : ByteArray } m g_1 → (k = (0 : Nat) → False) ∧
      (Value.pointer (some { block := (1 : Nat), off := (0 : Nat) : Addr }) = Value.pointer (some { block := (1 : Nat), off := { block := (1 : Nat), off := (0 : Nat) : Addr }.off : Addr }) ∧
      Value.slice (some { block := (0 : Nat), off := (0 : Nat), spot := some (0 : Nat) : Addr }) l.length cap = Value.slice (some { block := (0 : Nat), off := { block := (0 : Nat), off := (0 : Nat), spot := some (0 : Nat) : Addr }.off, spot := some (0 : Nat) : Addr }) l.length cap ∧
      Value.int IntKind.i64 (↑l.length : Int) = Value.int IntKind.i64 (↑l.length : Int) ∧
      Value.int IntKind.i64 (IntKind.i64.wrap ((↑j : Int) + (1 : Int))) = Value.int IntKind.i64 (IntKind.i64.wrap ((↑j : Int) + (1 : Int))) ∧
      True) ∧
      QSt { tmps := [], V := [VObj.rows true (5 : TypeId) (1 : Nat) n1 c1 fun j => [Value.int IntKind.u8 (h j)], VObj.cells (48 : TypeId) [Value.pointer (some { block := (1 : Nat), off := { block := { block := (1 : Nat), off := (0 : Nat) : Addr }.block, off := { block := (0 : Nat), off := (0 : Nat) : Addr }.off : Addr }.off : Addr }), Value.slice (some { block := (3 : Nat), off := { block := (4 : Nat), off := { block := (2 : Nat), off := (2 : Nat), spot := some (0 : Nat) : Addr }.off, spot := some (0 : Nat) : Addr }.off, spot := some (0 : Nat) : Addr }) m (0 : Nat)], VObj.dead, VObj.vec (5 : TypeId) (1 : Nat) m g_1] : VSt } { tmps := [], V := [VObj.rows true (5 : TypeId) (1 : Nat) n1 c1 fun j => [Value.int IntKind.u8 (h j)], VObj.cells (48 : TypeId) [Value.pointer (some { block := (1 : Nat), off := (0 : Nat) : Addr }), Value.slice (some { block := (3 : Nat), off := (2 : Nat), spot := some (0 : Nat) : Addr }) m (0 : Nat)], VObj.dead, VObj.vec (5 : TypeId) (1 : Nat) m g_1] : VSt } ∧
      QuAt l (k - (1 : Nat)) (IntKind.i64.wrap ((↑j : Int) + (1 : Int))) m m g_1)
      (bsplit (decide (h ((0 : Nat) + (↑j : Int).toNat) < (32 : Int))) (BPre ((34 : UInt8) :: qbs (List.take j l)).length ((34 : UInt8) :: qbs (List.take j l)).length g ∧
      (Nat.succ (0 : Nat) ≤ { data := #[(92 : UInt8), (120 : UInt8)] : ByteArray }.size ∧
      { data := #[(92 : UInt8), (120 : UInt8)] : ByteArray }.size.succ ≤ (4294967296 : Nat)) ∧
      ∀ (m : Nat) (g_1 : Nat → List Value), BStr ((34 : UInt8) :: qbs (List.take j l)).length g { data := #[(92 : UInt8), (120 : UInt8)] : ByteArray } m g_1 → (0 : Int) ≤ (4 : Int) ∧
      ((0 : Int) ≤ (h ((0 : Nat) + (↑j : Int).toNat)).fdiv ((2 : Int) ^ min (Int.toNat (4 : Int)) IntKind.u8.bits) ∧
      (h ((0 : Nat) + (↑j : Int).toNat)).fdiv ((2 : Int) ^ min (Int.toNat (4 : Int)) IntKind.u8.bits) + (1 : Int) ≤ (↑{ data := #[(48 : UInt8), (49 : UInt8), (50 : UInt8), (51 : UInt8), (52 : UInt8), (53 : UInt8), (54 : UInt8), (55 : UInt8), (56 : UInt8), (57 : UInt8), (97 : UInt8), (98 : UInt8), (99 : UInt8), (100 : UInt8), (101 : UInt8), (102 : UInt8)] : ByteArray }.size : Int)) ∧
      BPre m m g_1 ∧
      IsByte (↑(strAt { data := #[(48 : UInt8), (49 : UInt8), (50 : UInt8), (51 : UInt8), (52 : UInt8), (53 : UInt8), (54 : UInt8), (55 : UInt8), (56 : UInt8), (57 : UInt8), (97 : UInt8), (98 : UInt8), (99 : UInt8), (100 : UInt8), (101 : UInt8), (102 : UInt8)] : ByteArray } ((h ((0 : Nat) + (↑j : Int).toNat)).fdiv ((2 : Int) ^ min (Int.toNat (4 : Int)) IntKind.u8.bits)).toNat) : Int) ∧
      ∀ (m_1 : Nat) (g : Nat → List Value), BByte m g_1 (↑(strAt { data := #[(48 : UInt8), (49 : UInt8), (50 : UInt8), (51 : UInt8), (52 : UInt8), (53 : UInt8), (54 : UInt8), (55 : UInt8), (56 : UInt8), (57 : UInt8), (97 : UInt8), (98 : UInt8), (99 : UInt8), (100 : UInt8), (101 : UInt8), (102 : UInt8)] : ByteArray } ((h ((0 : Nat) + (↑j : Int).toNat)).fdiv ((2 : Int) ^ min (Int.toNat (4 : Int)) IntKind.u8.bits)).toNat) : Int) m_1 g → ((0 : Int) ≤ IntKind.u8.wrap (↑(BitVec.ofInt IntKind.u8.bits (h ((0 : Nat) + (↑j : Int).toNat)) &&& BitVec.ofInt IntKind.u8.bits (15 : Int)).toNat : Int) ∧
      IntKind.u8.wrap (↑(BitVec.ofInt IntKind.u8.bits (h ((0 : Nat) + (↑j : Int).toNat)) &&& BitVec.ofInt IntKind.u8.bits (15 : Int)).toNat : Int) + (1 : Int) ≤ (↑{ data := #[(48 : UInt8), (49 : UInt8), (50 : UInt8), (51 : UInt8), (52 : UInt8), (53 : UInt8), (54 : UInt8), (55 : UInt8), (56 : UInt8), (57 : UInt8), (97 : UInt8), (98 : UInt8), (99 : UInt8), (100 : UInt8), (101 : UInt8), (102 : UInt8)] : ByteArray }.size : Int)) ∧
      BPre m_1 m_1 g ∧
      IsByte (↑(strAt { data := #[(48 : UInt8), (49 : UInt8), (50 : UInt8), (51 : UInt8), (52 : UInt8), (53 : UInt8), (54 : UInt8), (55 : UInt8), (56 : UInt8), (57 : UInt8), (97 : UInt8), (98 : UInt8), (99 : UInt8), (100 : UInt8), (101 : UInt8), (102 : UInt8)] : ByteArray } (IntKind.u8.wrap (↑(BitVec.ofInt IntKind.u8.bits (h ((0 : Nat) + (↑j : Int).toNat)) &&& BitVec.ofInt IntKind.u8.bits (15 : Int)).toNat : Int)).toNat) : Int) ∧
      ∀ (m : Nat) (g_2 : Nat → List Value), BByte m_1 g (↑(strAt { data := #[(48 : UInt8), (49 : UInt8), (50 : UInt8), (51 : UInt8), (52 : UInt8), (53 : UInt8), (54 : UInt8), (55 : UInt8), (56 : UInt8), (57 : UInt8), (97 : UInt8), (98 : UInt8), (99 : UInt8), (100 : UInt8), (101 : UInt8), (102 : UInt8)] : ByteArray } (IntKind.u8.wrap (↑(BitVec.ofInt IntKind.u8.bits (h ((0 : Nat) + (↑j : Int).toNat)) &&& BitVec.ofInt IntKind.u8.bits (15 : Int)).toNat : Int)).toNat) : Int) m g_2 → (k = (0 : Nat) → False) ∧
      (Value.pointer (some { block := (1 : Nat), off := (0 : Nat) : Addr }) = Value.pointer (some { block := (1 : Nat), off := { block := (1 : Nat), off := (0 : Nat) : Addr }.off : Addr }) ∧
      Value.slice (some { block := (0 : Nat), off := (0 : Nat), spot := some (0 : Nat) : Addr }) l.length cap = Value.slice (some { block := (0 : Nat), off := { block := (0 : Nat), off := (0 : Nat), spot := some (0 : Nat) : Addr }.off, spot := some (0 : Nat) : Addr }) l.length cap ∧
      Value.int IntKind.i64 (↑l.length : Int) = Value.int IntKind.i64 (↑l.length : Int) ∧
      Value.int IntKind.i64 (IntKind.i64.wrap ((↑j : Int) + (1 : Int))) = Value.int IntKind.i64 (IntKind.i64.wrap ((↑j : Int) + (1 : Int))) ∧
      True) ∧
      QSt { tmps := [], V := [VObj.rows true (5 : TypeId) (1 : Nat) n1 c1 fun j => [Value.int IntKind.u8 (h j)], VObj.cells (48 : TypeId) [Value.pointer (some { block := (1 : Nat), off := { block := { block := (1 : Nat), off := (0 : Nat) : Addr }.block, off := { block := (0 : Nat), off := (0 : Nat) : Addr }.off : Addr }.off : Addr }), Value.slice (some { block := (3 : Nat), off := { block := (6 : Nat), off := { block := (2 : Nat), off := (2 : Nat), spot := some (0 : Nat) : Addr }.off, spot := some (0 : Nat) : Addr }.off, spot := some (0 : Nat) : Addr }) m (0 : Nat)], VObj.dead, VObj.vec (5 : TypeId) (1 : Nat) m g_2] : VSt } { tmps := [], V := [VObj.rows true (5 : TypeId) (1 : Nat) n1 c1 fun j => [Value.int IntKind.u8 (h j)], VObj.cells (48 : TypeId) [Value.pointer (some { block := (1 : Nat), off := (0 : Nat) : Addr }), Value.slice (some { block := (3 : Nat), off := (2 : Nat), spot := some (0 : Nat) : Addr }) m (0 : Nat)], VObj.dead, VObj.vec (5 : TypeId) (1 : Nat) m g_2] : VSt } ∧
      QuAt l (k - (1 : Nat)) (IntKind.i64.wrap ((↑j : Int) + (1 : Int))) m m g_2)
      (bsplit (decide (h ((0 : Nat) + (↑j : Int).toNat) > (126 : Int))) (BPre ((34 : UInt8) :: qbs (List.take j l)).length ((34 : UInt8) :: qbs (List.take j l)).length g ∧
      (Nat.succ (0 : Nat) ≤ { data := #[(92 : UInt8), (120 : UInt8)] : ByteArray }.size ∧
      { data := #[(92 : UInt8), (120 : UInt8)] : ByteArray }.size.succ ≤ (4294967296 : Nat)) ∧
      ∀ (m : Nat) (g_1 : Nat → List Value), BStr ((34 : UInt8) :: qbs (List.take j l)).length g { data := #[(92 : UInt8), (120 : UInt8)] : ByteArray } m g_1 → (0 : Int) ≤ (4 : Int) ∧
      ((0 : Int) ≤ (h ((0 : Nat) + (↑j : Int).toNat)).fdiv ((2 : Int) ^ min (Int.toNat (4 : Int)) IntKind.u8.bits) ∧
      (h ((0 : Nat) + (↑j : Int).toNat)).fdiv ((2 : Int) ^ min (Int.toNat (4 : Int)) IntKind.u8.bits) + (1 : Int) ≤ (↑{ data := #[(48 : UInt8), (49 : UInt8), (50 : UInt8), (51 : UInt8), (52 : UInt8), (53 : UInt8), (54 : UInt8), (55 : UInt8), (56 : UInt8), (57 : UInt8), (97 : UInt8), (98 : UInt8), (99 : UInt8), (100 : UInt8), (101 : UInt8), (102 : UInt8)] : ByteArray }.size : Int)) ∧
      BPre m m g_1 ∧
      IsByte (↑(strAt { data := #[(48 : UInt8), (49 : UInt8), (50 : UInt8), (51 : UInt8), (52 : UInt8), (53 : UInt8), (54 : UInt8), (55 : UInt8), (56 : UInt8), (57 : UInt8), (97 : UInt8), (98 : UInt8), (99 : UInt8), (100 : UInt8), (101 : UInt8), (102 : UInt8)] : ByteArray } ((h ((0 : Nat) + (↑j : Int).toNat)).fdiv ((2 : Int) ^ min (Int.toNat (4 : Int)) IntKind.u8.bits)).toNat) : Int) ∧
      ∀ (m_1 : Nat) (g : Nat → List Value), BByte m g_1 (↑(strAt { data := #[(48 : UInt8), (49 : UInt8), (50 : UInt8), (51 : UInt8), (52 : UInt8), (53 : UInt8), (54 : UInt8), (55 : UInt8), (56 : UInt8), (57 : UInt8), (97 : UInt8), (98 : UInt8), (99 : UInt8), (100 : UInt8), (101 : UInt8), (102 : UInt8)] : ByteArray } ((h ((0 : Nat) + (↑j : Int).toNat)).fdiv ((2 : Int) ^ min (Int.toNat (4 : Int)) IntKind.u8.bits)).toNat) : Int) m_1 g → ((0 : Int) ≤ IntKind.u8.wrap (↑(BitVec.ofInt IntKind.u8.bits (h ((0 : Nat) + (↑j : Int).toNat)) &&& BitVec.ofInt IntKind.u8.bits (15 : Int)).toNat : Int) ∧
      IntKind.u8.wrap (↑(BitVec.ofInt IntKind.u8.bits (h ((0 : Nat) + (↑j : Int).toNat)) &&& BitVec.ofInt IntKind.u8.bits (15 : Int)).toNat : Int) + (1 : Int) ≤ (↑{ data := #[(48 : UInt8), (49 : UInt8), (50 : UInt8), (51 : UInt8), (52 : UInt8), (53 : UInt8), (54 : UInt8), (55 : UInt8), (56 : UInt8), (57 : UInt8), (97 : UInt8), (98 : UInt8), (99 : UInt8), (100 : UInt8), (101 : UInt8), (102 : UInt8)] : ByteArray }.size : Int)) ∧
      BPre m_1 m_1 g ∧
      IsByte (↑(strAt { data := #[(48 : UInt8), (49 : UInt8), (50 : UInt8), (51 : UInt8), (52 : UInt8), (53 : UInt8), (54 : UInt8), (55 : UInt8), (56 : UInt8), (57 : UInt8), (97 : UInt8), (98 : UInt8), (99 : UInt8), (100 : UInt8), (101 : UInt8), (102 : UInt8)] : ByteArray } (IntKind.u8.wrap (↑(BitVec.ofInt IntKind.u8.bits (h ((0 : Nat) + (↑j : Int).toNat)) &&& BitVec.ofInt IntKind.u8.bits (15 : Int)).toNat : Int)).toNat) : Int) ∧
      ∀ (m : Nat) (g_2 : Nat → List Value), BByte m_1 g (↑(strAt { data := #[(48 : UInt8), (49 : UInt8), (50 : UInt8), (51 : UInt8), (52 : UInt8), (53 : UInt8), (54 : UInt8), (55 : UInt8), (56 : UInt8), (57 : UInt8), (97 : UInt8), (98 : UInt8), (99 : UInt8), (100 : UInt8), (101 : UInt8), (102 : UInt8)] : ByteArray } (IntKind.u8.wrap (↑(BitVec.ofInt IntKind.u8.bits (h ((0 : Nat) + (↑j : Int).toNat)) &&& BitVec.ofInt IntKind.u8.bits (15 : Int)).toNat : Int)).toNat) : Int) m g_2 → (k = (0 : Nat) → False) ∧
      (Value.pointer (some { block := (1 : Nat), off := (0 : Nat) : Addr }) = Value.pointer (some { block := (1 : Nat), off := { block := (1 : Nat), off := (0 : Nat) : Addr }.off : Addr }) ∧
      Value.slice (some { block := (0 : Nat), off := (0 : Nat), spot := some (0 : Nat) : Addr }) l.length cap = Value.slice (some { block := (0 : Nat), off := { block := (0 : Nat), off := (0 : Nat), spot := some (0 : Nat) : Addr }.off, spot := some (0 : Nat) : Addr }) l.length cap ∧
      Value.int IntKind.i64 (↑l.length : Int) = Value.int IntKind.i64 (↑l.length : Int) ∧
      Value.int IntKind.i64 (IntKind.i64.wrap ((↑j : Int) + (1 : Int))) = Value.int IntKind.i64 (IntKind.i64.wrap ((↑j : Int) + (1 : Int))) ∧
      True) ∧
      QSt { tmps := [], V := [VObj.rows true (5 : TypeId) (1 : Nat) n1 c1 fun j => [Value.int IntKind.u8 (h j)], VObj.cells (48 : TypeId) [Value.pointer (some { block := (1 : Nat), off := { block := { block := (1 : Nat), off := (0 : Nat) : Addr }.block, off := { block := (0 : Nat), off := (0 : Nat) : Addr }.off : Addr }.off : Addr }), Value.slice (some { block := (3 : Nat), off := { block := (6 : Nat), off := { block := (2 : Nat), off := (2 : Nat), spot := some (0 : Nat) : Addr }.off, spot := some (0 : Nat) : Addr }.off, spot := some (0 : Nat) : Addr }) m (0 : Nat)], VObj.dead, VObj.vec (5 : TypeId) (1 : Nat) m g_2] : VSt } { tmps := [], V := [VObj.rows true (5 : TypeId) (1 : Nat) n1 c1 fun j => [Value.int IntKind.u8 (h j)], VObj.cells (48 : TypeId) [Value.pointer (some { block := (1 : Nat), off := (0 : Nat) : Addr }), Value.slice (some { block := (3 : Nat), off := (2 : Nat), spot := some (0 : Nat) : Addr }) m (0 : Nat)], VObj.dead, VObj.vec (5 : TypeId) (1 : Nat) m g_2] : VSt } ∧
      QuAt l (k - (1 : Nat)) (IntKind.i64.wrap ((↑j : Int) + (1 : Int))) m m g_2) (BPre ((34 : UInt8) :: qbs (List.take j l)).length ((34 : UInt8) :: qbs (List.take j l)).length g ∧
      IsByte (h ((0 : Nat) + (↑j : Int).toNat)) ∧
      ∀ (m : Nat) (g_1 : Nat → List Value), BByte ((34 : UInt8) :: qbs (List.take j l)).length g (h ((0 : Nat) + (↑j : Int).toNat)) m g_1 → (k = (0 : Nat) → False) ∧
      (Value.pointer (some { block := (1 : Nat), off := (0 : Nat) : Addr }) = Value.pointer (some { block := (1 : Nat), off := { block := (1 : Nat), off := (0 : Nat) : Addr }.off : Addr }) ∧
      Value.slice (some { block := (0 : Nat), off := (0 : Nat), spot := some (0 : Nat) : Addr }) l.length cap = Value.slice (some { block := (0 : Nat), off := { block := (0 : Nat), off := (0 : Nat), spot := some (0 : Nat) : Addr }.off, spot := some (0 : Nat) : Addr }) l.length cap ∧
      Value.int IntKind.i64 (↑l.length : Int) = Value.int IntKind.i64 (↑l.length : Int) ∧
      Value.int IntKind.i64 (IntKind.i64.wrap ((↑j : Int) + (1 : Int))) = Value.int IntKind.i64 (IntKind.i64.wrap ((↑j : Int) + (1 : Int))) ∧
      True) ∧
      QSt { tmps := [], V := [VObj.rows true (5 : TypeId) (1 : Nat) n1 c1 fun j => [Value.int IntKind.u8 (h j)], VObj.cells (48 : TypeId) [Value.pointer (some { block := (1 : Nat), off := { block := { block := (1 : Nat), off := (0 : Nat) : Addr }.block, off := { block := (0 : Nat), off := (0 : Nat) : Addr }.off : Addr }.off : Addr }), Value.slice (some { block := (3 : Nat), off := { block := (4 : Nat), off := { block := (2 : Nat), off := (2 : Nat), spot := some (0 : Nat) : Addr }.off, spot := some (0 : Nat) : Addr }.off, spot := some (0 : Nat) : Addr }) m (0 : Nat)], VObj.dead, VObj.vec (5 : TypeId) (1 : Nat) m g_1] : VSt } { tmps := [], V := [VObj.rows true (5 : TypeId) (1 : Nat) n1 c1 fun j => [Value.int IntKind.u8 (h j)], VObj.cells (48 : TypeId) [Value.pointer (some { block := (1 : Nat), off := (0 : Nat) : Addr }), Value.slice (some { block := (3 : Nat), off := (2 : Nat), spot := some (0 : Nat) : Addr }) m (0 : Nat)], VObj.dead, VObj.vec (5 : TypeId) (1 : Nat) m g_1] : VSt } ∧
      QuAt l (k - (1 : Nat)) (IntKind.i64.wrap ((↑j : Int) + (1 : Int))) m m g_1))))))) (QuEnd l ((34 : UInt8) :: qbs (List.take j l)).length ((34 : UInt8) :: qbs (List.take j l)).length g ∧
      QSt { tmps := [unk, unk, unk, Value.pointer (some { block := (1 : Nat), off := { block := (1 : Nat), off := (0 : Nat) : Addr }.off : Addr }), unk, unk, unk, unk, unk, unk, unk, unk, unk, unk, unk, unk, unk, unk, unk, unk, unk, unk, unk, unk, unk, unk, unk, unk, unk, unk, unk, unk, unk, unk, unk, unk, unk, unk, unk, unk, unk, unk, unk, unk, unk, unk, unk, unk, unk, unk, unk, unk], V := [VObj.rows true (5 : TypeId) (1 : Nat) n1 c1 fun j => [Value.int IntKind.u8 (h j)], VObj.cells (48 : TypeId) [Value.pointer (some { block := (1 : Nat), off := { block := (1 : Nat), off := (0 : Nat) : Addr }.off : Addr }), Value.slice (some { block := (3 : Nat), off := { block := (3 : Nat), off := (2 : Nat), spot := some (0 : Nat) : Addr }.off, spot := some (0 : Nat) : Addr }) ((34 : UInt8) :: qbs (List.take j l)).length (0 : Nat)], VObj.dead, VObj.vec (5 : TypeId) (1 : Nat) ((34 : UInt8) :: qbs (List.take j l)).length g] : VSt } { tmps := [unk, unk, unk, Value.pointer (some { block := (1 : Nat), off := (0 : Nat) : Addr }), unk, unk, unk, unk, unk, unk, unk, unk, unk, unk, unk, unk, unk, unk, unk, unk, unk, unk, unk, unk, unk, unk, unk, unk, unk, unk, unk, unk, unk, unk, unk, unk, unk, unk, unk, unk, unk, unk, unk, unk, unk, unk, unk, unk, unk, unk, unk, unk], V := [VObj.rows true (5 : TypeId) (1 : Nat) n1 c1 fun j => [Value.int IntKind.u8 (h j)], VObj.cells (48 : TypeId) [Value.pointer (some { block := (1 : Nat), off := (0 : Nat) : Addr }), Value.slice (some { block := (3 : Nat), off := (2 : Nat), spot := some (0 : Nat) : Addr }) ((34 : UInt8) :: qbs (List.take j l)).length (0 : Nat)], VObj.dead, VObj.vec (5 : TypeId) (1 : Nat) ((34 : UInt8) :: qbs (List.take j l)).length g] : VSt })) (by kernel_rfl) ?_
    refine bsplit_iff.2 ⟨fun hlt => ?_, fun hge => ?_⟩
    · have hlt : j < l.length := by simp only [decide_eq_true_eq] at hlt; omega
      have hc : h (0 + (j : Int).toNat) = ((l[j]).toNat : Int) := by rw [Int.toNat_natCast, Nat.zero_add]; exact h1.at_ j l[j] (by simp [hlt])
      have hw : IntKind.i64.wrap ((j : Int) + 1) = ((j + 1 : Nat) : Int) := by rw [w64 _ (by omega)]; rfl
      have htake : l.take (j + 1) = l.take j ++ [l[j]] := by rw [List.take_add_one]; simp [hlt]
      rw [hc, hw]
      have hT : (34 :: qbs (l.take j)).length ≤ 4 * j + 1 := by
        have := qbs_len (l.take j)
        simp only [List.length_take] at this
        simp only [List.length_cons]
        omega
      generalize hTe : (34 :: qbs (l.take j)) = T at *
      have fin : ∀ (m : Nat) (g' : Nat → List Value), m = (T ++ qb l[j]).length → RowB g' (T ++ qb l[j]) → QuAt l (k - 1) ((j + 1 : Nat) : Int) m m g' := by
        intro m g' hm hr
        have e : T ++ qb l[j] = 34 :: qbs (l.take (j + 1)) := by
          rw [htake, qbs_app, ← hTe]; simp [qbs]
        rw [e] at hm hr
        exact ⟨j + 1, rfl, by omega, hm, rfl, hr⟩
      generalize l[j] = c at *
      have hcl := c.toNat_lt
      refine ⟨⟨by omega, by omega⟩, by omega, bsplit_iff.2 ⟨fun e34 => ?_, fun n34 => bsplit_iff.2 ⟨fun e92 => ?_, fun n92 => bsplit_iff.2 ⟨fun e10 => ?_, fun n10 => bsplit_iff.2 ⟨fun e9 => ?_, fun n9 => bsplit_iff.2 ⟨fun e32 => ?_, fun n32 => bsplit_iff.2 ⟨fun e126 => ?_, fun n126 => ?_⟩⟩⟩⟩⟩⟩⟩
      · have hq : qb c = [92, c] := by unfold qb; rw [if_pos (.inl (UInt8.toNat_inj.1 (show c.toNat = 34 by have := beq_iff_eq.1 e34; omega)))]
        refine ⟨.of hg (by omega), ⟨92, rfl⟩, fun m g1 hb => ?_⟩
        obtain ⟨rfl, hr⟩ := hb.app hg (b := 92) rfl
        refine ⟨.of hr (by rw [List.length_append]; simp only [List.length_cons, List.length_nil]; omega), ⟨c, rfl⟩, fun m2 g2 hb2 => ?_⟩
        obtain ⟨rfl, hr2⟩ := hb2.app hr (b := c) rfl
        exact ⟨by omega, ⟨rfl, rfl, rfl, rfl, trivial⟩, ⟨rfl⟩, fin _ _ (by rw [hq]; simp) (by rw [hq]; simpa using hr2)⟩
      · have hq : qb c = [92, c] := by unfold qb; rw [if_pos (.inr (UInt8.toNat_inj.1 (show c.toNat = 92 by have := beq_iff_eq.1 e92; omega)))]
        refine ⟨.of hg (by omega), ⟨92, rfl⟩, fun m g1 hb => ?_⟩
        obtain ⟨rfl, hr⟩ := hb.app hg (b := 92) rfl
        refine ⟨.of hr (by rw [List.length_append]; simp only [List.length_cons, List.length_nil]; omega), ⟨c, rfl⟩, fun m2 g2 hb2 => ?_⟩
        obtain ⟨rfl, hr2⟩ := hb2.app hr (b := c) rfl
        exact ⟨by omega, ⟨rfl, rfl, rfl, rfl, trivial⟩, ⟨rfl⟩, fin _ _ (by rw [hq]; simp) (by rw [hq]; simpa using hr2)⟩
      · have k34 : ¬ c.toNat = 34 := fun e => by rw [e] at n34; exact absurd n34 (by decide)
        have k92 : ¬ c.toNat = 92 := fun e => by rw [e] at n92; exact absurd n92 (by decide)
        have m1 : ¬ (c = 34 ∨ c = 92) := fun e => e.elim (fun e => k34 (by rw [e]; rfl)) (fun e => k92 (by rw [e]; rfl))
        have hq : qb c = [92, 110] := by unfold qb; rw [if_neg m1, if_pos (UInt8.toNat_inj.1 (show c.toNat = 10 by have := beq_iff_eq.1 e10; omega))]
        refine ⟨.of hg (by omega), ⟨by decide, by decide⟩, fun m g1 hb => ?_⟩
        obtain ⟨rfl, hr⟩ := hb.app hg
        exact ⟨by omega, ⟨rfl, rfl, rfl, rfl, trivial⟩, ⟨rfl⟩, fin _ _ (by rw [hq]; rfl) (by rw [hq]; exact hr)⟩
      · have k34 : ¬ c.toNat = 34 := fun e => by rw [e] at n34; exact absurd n34 (by decide)
        have k92 : ¬ c.toNat = 92 := fun e => by rw [e] at n92; exact absurd n92 (by decide)
        have m1 : ¬ (c = 34 ∨ c = 92) := fun e => e.elim (fun e => k34 (by rw [e]; rfl)) (fun e => k92 (by rw [e]; rfl))
        have m10 : ¬ c = 10 := fun e => by rw [e] at n10; exact absurd n10 (by decide)
        have hq : qb c = [92, 116] := by unfold qb; rw [if_neg m1, if_neg m10, if_pos (UInt8.toNat_inj.1 (show c.toNat = 9 by have := beq_iff_eq.1 e9; omega))]
        refine ⟨.of hg (by omega), ⟨by decide, by decide⟩, fun m g1 hb => ?_⟩
        obtain ⟨rfl, hr⟩ := hb.app hg
        exact ⟨by omega, ⟨rfl, rfl, rfl, rfl, trivial⟩, ⟨rfl⟩, fin _ _ (by rw [hq]; rfl) (by rw [hq]; exact hr)⟩
      · have k34 : ¬ c.toNat = 34 := fun e => by rw [e] at n34; exact absurd n34 (by decide)
        have k92 : ¬ c.toNat = 92 := fun e => by rw [e] at n92; exact absurd n92 (by decide)
        have m1 : ¬ (c = 34 ∨ c = 92) := fun e => e.elim (fun e => k34 (by rw [e]; rfl)) (fun e => k92 (by rw [e]; rfl))
        have m10 : ¬ c = 10 := fun e => by rw [e] at n10; exact absurd n10 (by decide)
        have m9 : ¬ c = 9 := fun e => by rw [e] at n9; exact absurd n9 (by decide)
        have hq : qb c = [92, 120, hexD (c.toNat / 16), hexD (c.toNat % 16)] := by unfold qb; rw [if_neg m1, if_neg m10, if_neg m9, if_pos (.inl (by have := of_decide_eq_true e32; omega))]
        refine ⟨.of hg (by omega), ⟨by decide, by decide⟩, fun m g1 hb => ?_⟩
        obtain ⟨hm, hr⟩ := hb.app hg
        have hbx : bytesL (⟨#[92, 120]⟩ : ByteArray) = [92, 120] := rfl
        rw [hbx] at hm hr
        subst hm
        have hx := hex_all ⟨c.toNat, hcl⟩
        unfold digS at hx
        obtain ⟨b1, s1, b2, s2⟩ := hx
        refine ⟨by decide, b1, .of hr (by rw [List.length_append]; simp only [List.length_cons, List.length_nil]; omega), by rw [s1]; exact ⟨_, rfl⟩, fun m1 g2 hb2 => ?_⟩
        obtain ⟨rfl, hr2⟩ := hb2.app hr (b := hexD (c.toNat / 16)) (by rw [s1])
        refine ⟨b2, .of hr2 (by rw [List.length_append, List.length_append]; simp only [List.length_cons, List.length_nil]; omega), by rw [s2]; exact ⟨_, rfl⟩, fun m3 g3 hb3 => ?_⟩
        obtain ⟨rfl, hr3⟩ := hb3.app hr2 (b := hexD (c.toNat % 16)) (by rw [s2])
        exact ⟨by omega, ⟨rfl, rfl, rfl, rfl, trivial⟩, ⟨rfl⟩, fin _ _ (by rw [hq]; simp) (by rw [hq]; simpa using hr3)⟩
      · have k34 : ¬ c.toNat = 34 := fun e => by rw [e] at n34; exact absurd n34 (by decide)
        have k92 : ¬ c.toNat = 92 := fun e => by rw [e] at n92; exact absurd n92 (by decide)
        have m1 : ¬ (c = 34 ∨ c = 92) := fun e => e.elim (fun e => k34 (by rw [e]; rfl)) (fun e => k92 (by rw [e]; rfl))
        have m10 : ¬ c = 10 := fun e => by rw [e] at n10; exact absurd n10 (by decide)
        have m9 : ¬ c = 9 := fun e => by rw [e] at n9; exact absurd n9 (by decide)
        have hq : qb c = [92, 120, hexD (c.toNat / 16), hexD (c.toNat % 16)] := by unfold qb; rw [if_neg m1, if_neg m10, if_neg m9, if_pos (.inr (by have := of_decide_eq_true e126; omega))]
        refine ⟨.of hg (by omega), ⟨by decide, by decide⟩, fun m g1 hb => ?_⟩
        obtain ⟨hm, hr⟩ := hb.app hg
        have hbx : bytesL (⟨#[92, 120]⟩ : ByteArray) = [92, 120] := rfl
        rw [hbx] at hm hr
        subst hm
        have hx := hex_all ⟨c.toNat, hcl⟩
        unfold digS at hx
        obtain ⟨b1, s1, b2, s2⟩ := hx
        refine ⟨by decide, b1, .of hr (by rw [List.length_append]; simp only [List.length_cons, List.length_nil]; omega), by rw [s1]; exact ⟨_, rfl⟩, fun m1 g2 hb2 => ?_⟩
        obtain ⟨rfl, hr2⟩ := hb2.app hr (b := hexD (c.toNat / 16)) (by rw [s1])
        refine ⟨b2, .of hr2 (by rw [List.length_append, List.length_append]; simp only [List.length_cons, List.length_nil]; omega), by rw [s2]; exact ⟨_, rfl⟩, fun m3 g3 hb3 => ?_⟩
        obtain ⟨rfl, hr3⟩ := hb3.app hr2 (b := hexD (c.toNat % 16)) (by rw [s2])
        exact ⟨by omega, ⟨rfl, rfl, rfl, rfl, trivial⟩, ⟨rfl⟩, fin _ _ (by rw [hq]; simp) (by rw [hq]; simpa using hr3)⟩
      · have k34 : ¬ c.toNat = 34 := fun e => by rw [e] at n34; exact absurd n34 (by decide)
        have k92 : ¬ c.toNat = 92 := fun e => by rw [e] at n92; exact absurd n92 (by decide)
        have m1 : ¬ (c = 34 ∨ c = 92) := fun e => e.elim (fun e => k34 (by rw [e]; rfl)) (fun e => k92 (by rw [e]; rfl))
        have m10 : ¬ c = 10 := fun e => by rw [e] at n10; exact absurd n10 (by decide)
        have m9 : ¬ c = 9 := fun e => by rw [e] at n9; exact absurd n9 (by decide)
        have hq : qb c = [c] := by
          unfold qb
          rw [if_neg m1, if_neg m10, if_neg m9, if_neg]
          have := of_decide_eq_false n32
          have := of_decide_eq_false n126
          omega
        refine ⟨.of hg (by omega), ⟨c, rfl⟩, fun m g1 hb => ?_⟩
        obtain ⟨rfl, hr⟩ := hb.app hg (b := c) rfl
        exact ⟨by omega, ⟨rfl, rfl, rfl, rfl, trivial⟩, ⟨rfl⟩, fin _ _ (by rw [hq]) (by rw [hq]; exact hr)⟩
    · have hge : ¬ j < l.length := by simp only [decide_eq_false_iff_not] at hge; omega
      have hj2 : j = l.length := by omega
      have e : l.take j = l := by rw [hj2]; exact List.take_length
      rw [e] at hg ⊢
      exact ⟨⟨rfl, rfl, hg⟩, ⟨rfl⟩⟩
  · match k, hk with
    | 0, hk => cases hk; exact scI h n1
    | 1, hk => cases hk; intro v hv; exact scB_ok 6 v (List.all_eq_true.1 (show [Value.pointer (some ⟨1, 0, none⟩), Value.slice (some ⟨3, 2, some 0⟩) (34 :: qbs (l.take j)).length 0].all (scB 4 6) = true from rfl) v hv)
    | 2, hk => cases hk; trivial
    | 3, hk => cases hk; exact hg.sc

def quBR (n1 c1 : Nat) (h : Nat → Int) (cap : Nat) (l : List UInt8) : BlkS := fun S K =>
  reshape S.V.length (quSelR .normal S) (quKs .normal) [] quNcR S (quJR n1 c1 (fun j => [.int .u8 (h j)]) cap l l.length) ∧ S.V.length = 3 ∧
    ∀ m g, QuEnd l m m g → K .normal (quER n1 c1 (fun j => [.int .u8 (h j)]) m g)

theorem qu_loopR (n1 c1 : Nat) (h : Nat → Int) (cap : Nat) (l : List UInt8) (hl : l.length ≤ 16777216) (h1 : IntB h l) (hln : l.length ≤ n1) (S : VSt) (K : Exit → VSt → Prop) (hB : quBR n1 c1 h cap l S K) : Does Tryd.prog (.block 0 (.loop (roundOf Tryd.f11 0))) S K := by
  obtain ⟨h2, h3, h4⟩ := hB
  refine Does.mono (Does.loopR (K := quKR n1 c1 (fun j => [.int .u8 (h j)]) l) quKs quSelR [] quNcR (quJR n1 c1 (fun j => [.int .u8 (h j)]) cap l) S (reshape_mono (fun S hS => ⟨_, hS⟩) h2) fun k S' hJ => ?_) fun e S' hK => ?_
  · rw [h3]; exact qu_roundR n1 c1 h cap l hl h1 hln k S' hJ
  · unfold quKR at hK
    split at hK
    · split at hK
      · obtain ⟨⟨h5, rfl, h6⟩, ⟨rfl⟩⟩ := hK
        exact h4 _ _ ⟨h5, rfl, h6⟩
      · exact hK.elim
    · exact hK.elim

theorem quote_runR (n1 c1 : Nat) (h : Nat → Int) (cap : Nat) (l : List UInt8) (hl : l.length ≤ 16777216) (h1 : IntB h l) (hln : l.length ≤ n1) :
    CallDoes Tryd.prog 11 [.slice (some ⟨0, 0, some 0⟩) l.length cap] [.rows true 5 1 n1 c1 (fun j => [.int .u8 (h j)])] fun v V' =>
      reshape 1 [.keep 0] [0] [] [] ⟨[v], V'⟩ (quLeaf [.rows true 5 1 n1 c1 (fun j => [.int .u8 (h j)])] l) := by
  refine of_run (ctxG_ok (l := []) (cs := [(17, frameT wbC), (18, frameT wsC), (19, frameT strC)]) (bs := [(0, quBR n1 c1 h cap l)]) .nil (.cons frWb (.cons frWs (.cons frStr .nil)))) (n := 200) Tryd.func11 rfl (.one rfl rfl (qu_loopR n1 c1 h cap l hl h1 hln)) ?_
  refine by_nf (B := IsByte (34 : Int) ∧
    ∀ (m : Nat) (g : Nat → List Value), BByte (0 : Nat) (fun x => []) (34 : Int) m g → ((Value.pointer (some { block := (1 : Nat), off := (0 : Nat) : Addr }) = Value.pointer (some { block := (1 : Nat), off := { block := (1 : Nat), off := (0 : Nat) : Addr }.off : Addr }) ∧
    Value.slice (some { block := (0 : Nat), off := (0 : Nat), spot := some (0 : Nat) : Addr }) l.length cap = Value.slice (some { block := (0 : Nat), off := { block := (0 : Nat), off := (0 : Nat), spot := some (0 : Nat) : Addr }.off, spot := some (0 : Nat) : Addr }) l.length cap ∧
    Value.int IntKind.i64 (↑l.length : Int) = Value.int IntKind.i64 (↑l.length : Int) ∧
    Value.int IntKind.i64 (0 : Int) = Value.int IntKind.i64 (0 : Int) ∧
    True) ∧
    QSt { tmps := [], V := [VObj.rows true (5 : TypeId) (1 : Nat) n1 c1 fun j => [Value.int IntKind.u8 (h j)], VObj.cells (48 : TypeId) [Value.pointer (some { block := (1 : Nat), off := { block := { block := (1 : Nat), off := (0 : Nat) : Addr }.block, off := { block := (0 : Nat), off := (0 : Nat) : Addr }.off : Addr }.off : Addr }), Value.slice (some { block := (3 : Nat), off := { block := (2 : Nat), off := { block := (1 : Nat), off := (2 : Nat), spot := some (0 : Nat) : Addr }.off, spot := some (0 : Nat) : Addr }.off, spot := some (0 : Nat) : Addr }) m (0 : Nat)], VObj.dead, VObj.vec (5 : TypeId) (1 : Nat) m g] : VSt } { tmps := [], V := [VObj.rows true (5 : TypeId) (1 : Nat) n1 c1 fun j => [Value.int IntKind.u8 (h j)], VObj.cells (48 : TypeId) [Value.pointer (some { block := (1 : Nat), off := (0 : Nat) : Addr }), Value.slice (some { block := (3 : Nat), off := (2 : Nat), spot := some (0 : Nat) : Addr }) m (0 : Nat)], VObj.dead, VObj.vec (5 : TypeId) (1 : Nat) m g] : VSt } ∧
    QuAt l l.length (0 : Int) m m g) ∧
    (3 : Nat) = (3 : Nat) ∧
    ∀ (m : Nat) (g : Nat → List Value), QuEnd l m m g → BPre m m g ∧
    IsByte (34 : Int) ∧
    ∀ (m_1 : Nat) (g_1 : Nat → List Value), BByte m g (34 : Int) m_1 g_1 → BPre m_1 m_1 g_1 ∧
    Nat.succ (0 : Nat) ≤ m_1 ∧
    ∀ (s : ByteArray), BText m_1 g_1 s → QSt { tmps := [], V := [VObj.rows true (5 : TypeId) (1 : Nat) n1 c1 fun j => [Value.int IntKind.u8 (h j)]] : VSt } { tmps := [], V := [VObj.rows true (5 : TypeId) (1 : Nat) n1 c1 fun j => [Value.int IntKind.u8 (h j)]] : VSt } ∧
    QOut l s) (by kernel_rfl) ?_
  refine ⟨⟨34, rfl⟩, fun m g hb => ?_⟩
  obtain ⟨hm, hr⟩ := BByte.app (T := []) hb (.nil _) (b := 34) rfl
  refine ⟨⟨⟨rfl, rfl, rfl, rfl, trivial⟩, ⟨rfl⟩, ⟨0, rfl, by omega, by rw [hm]; rfl, rfl, hr⟩⟩, rfl, fun m g hq => ?_⟩
  obtain ⟨hm, _, hg⟩ := hq
  subst hm
  have hlen := qbs_len l
  have hT : (34 :: qbs l).length ≤ 4 * l.length + 1 := by simp only [List.length_cons]; omega
  refine ⟨.of hg (by omega), ⟨34, rfl⟩, fun m2 g2 hb2 => ?_⟩
  obtain ⟨rfl, hr2⟩ := hb2.app hg (b := 34) rfl
  have hT2 : (34 :: qbs l ++ [34]).length = (34 :: qbs l).length + 1 := by simp
  refine ⟨.of hr2 (by omega), by omega, fun s hs => ⟨⟨rfl⟩, ?_⟩⟩
  obtain ⟨l2, h2, h3, rfl⟩ := hs
  have := hr2.same h3 h2
  subst this
  exact ⟨by simp [bytesL, quoteL]⟩

/-- Quote of a row of bytes -/
def quoteR (l : List UInt8) : CallS := fun args V K =>
  match args, V with
  | [.slice (some ⟨0, 0, some r⟩) n c], [.rows true 5 1 n1 c1 f1] => QPre r n n1 f1 l ∧ ∀ s, QOut l s → K (.string s) [.rows true 5 1 n1 c1 f1]
  | _, _ => False

theorem quoteR_ok (l : List UInt8) : CallOK Tryd.prog 11 (quoteR l) := by
  refine ⟨callable Tryd.func11 rfl (by decide +kernel), fun args V K hT => ?_⟩
  unfold quoteR at hT
  split at hT
  · rename_i r n c n1 c1 f1
    obtain ⟨⟨rfl, h, rfl, rfl, hln, hl, h1⟩, hK⟩ := hT
    refine CallDoes.reshape (fun _ _ => [.keep 0]) [] [] ?_
    intro env w hW hsc
    refine (quote_runR n1 c1 h c l hl h1 hln env w hW hsc).mono ?_
    rintro e w' ⟨u, env', V', v, g1, g2, g3, g4, g5⟩
    refine ⟨u, env', V', v, g1, g2, g3, g4, reshape_mono (fun S hS => ?_) g5⟩
    unfold quLeaf at hS
    split at hS
    · rename_i e1
      obtain ⟨⟨e4⟩, h5⟩ := hS
      unfold one1
      rw [e1, (VSt.mk.inj e4).2]
      exact hK _ h5
    · exact hS.elim
  · exact hT.elim

def quVF (n1 c1 : Nat) (f1 : Nat → List Value) (m : Nat) (g : Nat → List Value) : VW :=
  [.rows false 5 1 n1 c1 f1, .cells 48 [.pointer (some ⟨1, 0, none⟩), .slice (some ⟨3, 2, some 0⟩) m 0], .dead, .vec 5 1 m g]
def quTmF (n cap : Nat) (i : Int) : List Value := [unk, unk, unk, .pointer (some ⟨1, 0, none⟩), unk, unk, unk, .slice (some ⟨0, 0, some 0⟩) n cap, .int .i64 (n : Nat), .int .i64 i] ++ List.replicate 42 unk
def quJF (n1 c1 : Nat) (f1 : Nat → List Value) (cap : Nat) (l : List UInt8) (k : Nat) (S : VSt) : Prop :=
  match nth undef S.tmps 9, (S.V[1]? : Option VObj), (S.V.getLast? : Option VObj) with
  | .int .i64 i, some (.cells 48 [_, .slice (some _) m 0]), some (.vec 5 1 m' g) => leT (quTmF l.length cap i) S.tmps ∧ QSt ⟨[], S.V⟩ ⟨[], quVF n1 c1 f1 m' g⟩ ∧ QuAt l k i m m' g
  | _, _, _ => False
def quEF (n1 c1 : Nat) (f1 : Nat → List Value) (m : Nat) (g : Nat → List Value) : VSt := ⟨[unk, unk, unk, .pointer (some ⟨1, 0, none⟩)] ++ List.replicate 48 unk, quVF n1 c1 f1 m g⟩
def quKF (n1 c1 : Nat) (f1 : Nat → List Value) (l : List UInt8) (e : Exit) (S : VSt) : Prop :=
  match e with
  | .normal =>
    match (S.V[1]? : Option VObj), (S.V.getLast? : Option VObj) with
    | some (.cells 48 [_, .slice (some _) m 0]), some (.vec 5 1 m' g) => QuEnd l m m' g ∧ QSt S (quEF n1 c1 f1 m' g)
    | _, _ => False
  | _ => False
def quSelF (_ : Exit) (S : VSt) : List Sel :=
  match (S.V[1]? : Option VObj) with
  | some (.cells _ [_, .slice (some a) _ _]) => [.keep 0, .keep 1, .drop 2, selV S.V a.block]
  | _ => []
def quNcF : List (Nat × Nat × Nat) := [(1, 1, 3)]

theorem quJ_eqF {n1 c1 : Nat} {f1 : Nat → List Value} {cap : Nat} {l : List UInt8} {k : Nat} {S : VSt} (hJ : quJF n1 c1 f1 cap l k S) :
    ∃ (j : Nat) (g : Nat → List Value), leT (quTmF l.length cap j) S.tmps ∧ S.V = quVF n1 c1 f1 (34 :: qbs (l.take j)).length g ∧ j + k = l.length ∧ RowB g (34 :: qbs (l.take j)) := by
  unfold quJF at hJ
  split at hJ
  · obtain ⟨h1, ⟨h2⟩, ⟨j, rfl, h3, rfl, rfl, h4⟩⟩ := hJ
    exact ⟨j, _, h1, (VSt.mk.inj h2).2, h3, h4⟩
  · exact hJ.elim

theorem qu_roundF (n1 c1 : Nat) (h : Nat → Int) (cap : Nat) (l : List UInt8) (hl : l.length ≤ 16777216) (h1 : IntB h l) (hln : l.length ≤ n1) (k : Nat) (S : VSt) (hJ : quJF n1 c1 (fun j => [.int .u8 (h j)]) cap l k S) :
    Does Tryd.prog (roundOf Tryd.f11 0) S fun e S' => reshape 3 (quSelF e S') (quKs e) [] quNcF S' (roundR 0 (quJF n1 c1 (fun j => [.int .u8 (h j)]) cap l) k (quKF n1 c1 (fun j => [.int .u8 (h j)]) l) e) := by
  obtain ⟨j, g, ht, hV, hj, hg⟩ := quJ_eqF hJ
  refine Does.weaken (S' := ⟨quTmF l.length cap j, quVF n1 c1 (fun j => [.int .u8 (h j)]) (34 :: qbs (l.take j)).length g⟩) ?_ ht hV.symm (.of rfl fun k o hk => ?_)
  · refine of_code (ctxG_ok (l := []) (cs := [(17, frameT wbC), (18, frameT wsC)]) (bs := []) .nil (.cons frWb (.cons frWs .nil))) (n := 200) .g ?_
    refine by_nf (B := bsplit (decide ((↑j : Int) < (↑l.length : Int))) (((0 : Int) ≤ (↑j : Int) ∧
      (↑j : Int) + (1 : Int) ≤ (↑l.length : Int)) ∧
      ((0 : Nat) + (↑j : Int).toNat).succ ≤ n1 ∧
      bsplit (h ((0 : Nat) + (↑j : Int).toNat) == (34 : Int)) (BPre ((34 : UInt8) :: qbs (List.take j l)).length ((34 : UInt8) :: qbs (List.take j l)).length g ∧
      IsByte (92 : Int) ∧
      ∀ (m : Nat) (g_1 : Nat → List Value), BByte ((34 : UInt8) :: qbs (List.take j l)).length g (92 : Int) m g_1 → BPre m m g_1 ∧
      IsByte (h ((0 : Nat) + (↑j : Int).toNat)) ∧
      ∀ (m_1 : Nat) (g : Nat → List Value), BByte m g_1 (h ((0 : Nat) + (↑j : Int).toNat)) m_1 g → (k = (0 : Nat) → False) ∧
      (Value.pointer (some { block := (1 : Nat), off := (0 : Nat) : Addr }) = Value.pointer (some { block := (1 : Nat), off := { block := (1 : Nat), off := (0 : Nat) : Addr }.off : Addr }) ∧
      Value.slice (some { block := (0 : Nat), off := (0 : Nat), spot := some (0 : Nat) : Addr }) l.length cap = Value.slice (some { block := (0 : Nat), off := { block := (0 : Nat), off := (0 : Nat), spot := some (0 : Nat) : Addr }.off, spot := some (0 : Nat) : Addr }) l.length cap ∧
      Value.int IntKind.i64 (↑l.length : Int) = Value.int IntKind.i64 (↑l.length : Int) ∧
      Value.int IntKind.i64 (IntKind.i64.wrap ((↑j : Int) + (1 : Int))) = Value.int IntKind.i64 (IntKind.i64.wrap ((↑j : Int) + (1 : Int))) ∧
      True) ∧
      QSt { tmps := [], V := [VObj.rows false (5 : TypeId) (1 : Nat) n1 c1 fun j => [Value.int IntKind.u8 (h j)], VObj.cells (48 : TypeId) [Value.pointer (some { block := (1 : Nat), off := { block := { block := (1 : Nat), off := (0 : Nat) : Addr }.block, off := { block := (0 : Nat), off := (0 : Nat) : Addr }.off : Addr }.off : Addr }), Value.slice (some { block := (3 : Nat), off := { block := (5 : Nat), off := { block := (2 : Nat), off := (2 : Nat), spot := some (0 : Nat) : Addr }.off, spot := some (0 : Nat) : Addr }.off, spot := some (0 : Nat) : Addr }) m_1 (0 : Nat)], VObj.dead, VObj.vec (5 : TypeId) (1 : Nat) m_1 g] : VSt } { tmps := [], V := [VObj.rows false (5 : TypeId) (1 : Nat) n1 c1 fun j => [Value.int IntKind.u8 (h j)], VObj.cells (48 : TypeId) [Value.pointer (some { block := (1 : Nat), off := (0 : Nat) : Addr }), Value.slice (some { block := (3 : Nat), off := (2 : Nat), spot := some (0 : Nat) : Addr }) m_1 (0 : Nat)], VObj.dead, VObj.vec (5 : TypeId) (1 : Nat) m_1 g] : VSt } ∧
      QuAt l (k - (1 : Nat)) (IntKind.i64.wrap ((↑j : Int) + (1 : Int))) m_1 m_1 g)
      (bsplit (h ((0 : Nat) + (↑j : Int).toNat) == (92 : Int)) (BPre ((34 : UInt8) :: qbs (List.take j l)).length ((34 : UInt8) :: qbs (List.take j l)).length g ∧
      IsByte (92 : Int) ∧
      ∀ (m : Nat) (g_1 : Nat → List Value), BByte ((34 : UInt8) :: qbs (List.take j l)).length g (92 : Int) m g_1 → BPre m m g_1 ∧
      IsByte (h ((0 : Nat) + (↑j : Int).toNat)) ∧
      ∀ (m_1 : Nat) (g : Nat → List Value), BByte m g_1 (h ((0 : Nat) + (↑j : Int).toNat)) m_1 g → (k = (0 : Nat) → False) ∧
      (Value.pointer (some { block := (1 : Nat), off := (0 : Nat) : Addr }) = Value.pointer (some { block := (1 : Nat), off := { block := (1 : Nat), off := (0 : Nat) : Addr }.off : Addr }) ∧
      Value.slice (some { block := (0 : Nat), off := (0 : Nat), spot := some (0 : Nat) : Addr }) l.length cap = Value.slice (some { block := (0 : Nat), off := { block := (0 : Nat), off := (0 : Nat), spot := some (0 : Nat) : Addr }.off, spot := some (0 : Nat) : Addr }) l.length cap ∧
      Value.int IntKind.i64 (↑l.length : Int) = Value.int IntKind.i64 (↑l.length : Int) ∧
      Value.int IntKind.i64 (IntKind.i64.wrap ((↑j : Int) + (1 : Int))) = Value.int IntKind.i64 (IntKind.i64.wrap ((↑j : Int) + (1 : Int))) ∧
      True) ∧
      QSt { tmps := [], V := [VObj.rows false (5 : TypeId) (1 : Nat) n1 c1 fun j => [Value.int IntKind.u8 (h j)], VObj.cells (48 : TypeId) [Value.pointer (some { block := (1 : Nat), off := { block := { block := (1 : Nat), off := (0 : Nat) : Addr }.block, off := { block := (0 : Nat), off := (0 : Nat) : Addr }.off : Addr }.off : Addr }), Value.slice (some { block := (3 : Nat), off := { block := (5 : Nat), off := { block := (2 : Nat), off := (2 : Nat), spot := some (0 : Nat) : Addr }.off, spot := some (0 : Nat) : Addr }.off, spot := some (0 : Nat) : Addr }) m_1 (0 : Nat)], VObj.dead, VObj.vec (5 : TypeId) (1 : Nat) m_1 g] : VSt } { tmps := [], V := [VObj.rows false (5 : TypeId) (1 : Nat) n1 c1 fun j => [Value.int IntKind.u8 (h j)], VObj.cells (48 : TypeId) [Value.pointer (some { block := (1 : Nat), off := (0 : Nat) : Addr }), Value.slice (some { block := (3 : Nat), off := (2 : Nat), spot := some (0 : Nat) : Addr }) m_1 (0 : Nat)], VObj.dead, VObj.vec (5 : TypeId) (1 : Nat) m_1 g] : VSt } ∧
      QuAt l (k - (1 : Nat)) (IntKind.i64.wrap ((↑j : Int) + (1 : Int))) m_1 m_1 g)
      (bsplit (h ((0 : Nat) + (↑j : Int).toNat) == (10 : Int)) (BPre ((34 : UInt8) :: qbs (List.take j l)).length ((34 : UInt8) :: qbs (List.take j l)).length g ∧
      (Nat.succ (0 : Nat) ≤ { data := #[(92 : UInt8), (110 : UInt8)] : ByteArray }.size ∧
      { data := #[(92 : UInt8), (110 : UInt8)] : ByteArray }.size.succ ≤ (4294967296 : Nat)) ∧
      ∀ (m : Nat) (g_1 : Nat → List Value), BStr ((34 : UInt8) :: qbs (List.take j l)).length g { data := #[(92 : UInt8), (110 : UInt8)] : ByteArray } m g_1 → (k = (0 : Nat) → False) ∧
      (Value.pointer (some { block := (1 : Nat), off := (0 : Nat) : Addr }) = Value.pointer (some { block := (1 : Nat), off := { block := (1 : Nat), off := (0 : Nat) : Addr }.off : Addr }) ∧
      Value.slice (some { block := (0 : Nat), off := (0 : Nat), spot := some (0 : Nat) : Addr }) l.length cap = Value.slice (some { block := (0 : Nat), off := { block := (0 : Nat), off := (0 : Nat), spot := some (0 : Nat) : Addr }.off, spot := some (0 : Nat) : Addr }) l.length cap ∧
      Value.int IntKind.i64 (↑l.length : Int) = Value.int IntKind.i64 (↑l.length : Int) ∧
      Value.int IntKind.i64 (IntKind.i64.wrap ((↑j : Int) + (1 : Int))) = Value.int IntKind.i64 (IntKind.i64.wrap ((↑j : Int) + (1 : Int))) ∧
      True) ∧
      QSt { tmps := [], V := [VObj.rows false (5 : TypeId) (1 : Nat) n1 c1 fun j => [Value.int IntKind.u8 (h j)], VObj.cells (48 : TypeId) [Value.pointer (some { block := (1 : Nat), off := { block := { block := (1 : Nat), off := (0 : Nat) : Addr }.block, off := { block := (0 : Nat), off := (0 : Nat) : Addr }.off : Addr }.off : Addr }), Value.slice (some { block := (3 : Nat), off := { block := (4 : Nat), off := { block := (2 : Nat), off := (2 : Nat), spot := some (0 : Nat) : Addr }.off, spot := some (0 : Nat) : Addr }.off, spot := some (0 : Nat) : Addr }) m (0 : Nat)], VObj.dead, VObj.vec (5 : TypeId) (1 : Nat) m g_1] : VSt } { tmps := [], V := [VObj.rows false (5 : TypeId) (1 : Nat) n1 c1 fun j => [Value.int IntKind.u8 (h j)], VObj.cells (48 : TypeId) [Value.pointer (some { block := (1 : Nat), off := (0 : Nat) : Addr }), Value.slice (some { block := (3 : Nat), off := (2 : Nat), spot := some (0 : Nat) : Addr }) m (0 : Nat)], VObj.dead, VObj.vec (5 : TypeId) (1 : Nat) m g_1] : VSt } ∧
      QuAt l (k - (1 : Nat)) (IntKind.i64.wrap ((↑j : Int) + (1 : Int))) m m g_1)
      (bsplit (h ((0 : Nat) + (↑j : Int).toNat) == (9 : Int)) (BPre ((34 : UInt8) :: qbs (List.take j l)).length ((34 : UInt8) :: qbs (List.take j l)).length g ∧
      (Nat.succ (0 : Nat) ≤ { data := #[(92 : UInt8), (116 : UInt8)] : ByteArray }.size ∧
      { data := #[(92 : UInt8), (116 : UInt8)] : ByteArray }.size.succ ≤ (4294967296 : Nat)) ∧
      ∀ (m : Nat) (g_1 : Nat → List Value), BStr ((34 : UInt8) :: qbs (List.take j l)).length g { data := #[(92 : UInt8), (116 : UInt8)] : ByteArray } m g_1 → (k = (0 : Nat) → False) ∧
      (Value.pointer (some { block := (1 : Nat), off := (0 : Nat) : Addr }) = Value.pointer (some { block := (1 : Nat), off := { block := (1 : Nat), off := (0 : Nat) : Addr }.off : Addr }) ∧
      Value.slice (some { block := (0 : Nat), off := (0 : Nat), spot := some (0 : Nat) : Addr }) l.length cap = Value.slice (some { block := (0 : Nat), off := { block := (0 : Nat), off := (0 : Nat), spot := some (0 : Nat) : Addr }.off, spot := some (0 : Nat) : Addr }) l.length cap ∧
      Value.int IntKind.i64 (↑l.length : Int) = Value.int IntKind.i64 (↑l.length : Int) ∧
      Value.int IntKind.i64 (IntKind.i64.wrap ((↑j : Int) + (1 : Int))) = Value.int IntKind.i64 (IntKind.i64.wrap ((↑j : Int) + (1 : Int))) ∧
      True) ∧
      QSt { tmps := [], V := [VObj.rows false (5 : TypeId) (1 : Nat) n1 c1 fun j => [Value.int IntKind.u8 (h j)], VObj.cells (48 : TypeId) [Value.pointer (some { block := (1 : Nat), off := { block := { block := (1 : Nat), off := (0 : Nat) : Addr }.block, off := { block := (0 : Nat), off := (0 : Nat) : Addr }.off : Addr }.off : Addr }), Value.slice (some { block := (3 : Nat), off := { block := (4 : Nat), off := { block := (2 : Nat), off := (2 : Nat), spot := some (0 : Nat) : Addr }.off, spot := some (0 : Nat) : Addr }.off, spot := some (0 : Nat) : Addr }) m (0 : Nat)], VObj.dead, VObj.vec (5 : TypeId) (1 : Nat) m g_1] : VSt } { tmps := [], V := [VObj.rows false (5 : TypeId) (1 : Nat) n1 c1 fun j => [Value.int IntKind.u8 (h j)], VObj.cells (48 : TypeId) [Value.pointer (some { block := (1 : Nat), off := (0 : Nat) : Addr }), Value.slice (some { block := (3 : Nat), off := (2 : Nat), spot := some (0 : Nat) : Addr }) m (0 : Nat)], VObj.dead, VObj.vec (5 : TypeId) (1 : Nat) m g_1] : VSt } ∧
      QuAt l (k - (1 : Nat)) (IntKind.i64.wrap ((↑j : Int) + (1 : Int))) m m g_1)
      (bsplit (decide (h ((0 : Nat) + (↑j : Int).toNat) < (32 : Int))) (BPre ((34 : UInt8) :: qbs (List.take j l)).length ((34 : UInt8) :: qbs (List.take j l)).length g ∧
      (Nat.succ (0 : Nat) ≤ { data := #[(92 : UInt8), (120 : UInt8)] : ByteArray }.size ∧
      { data := #[(92 : UInt8), (120 : UInt8)] : ByteArray }.size.succ ≤ (4294967296 : Nat)) ∧
      ∀ (m : Nat) (g_1 : Nat → List Value), BStr ((34 : UInt8) :: qbs (List.take j l)).length g { data := #[(92 : UInt8), (120 : UInt8)] : ByteArray } m g_1 → (0 : Int) ≤ (4 : Int) ∧
      ((0 : Int) ≤ (h ((0 : Nat) + (↑j : Int).toNat)).fdiv ((2 : Int) ^ min (Int.toNat (4 : Int)) IntKind.u8.bits) ∧
      (h ((0 : Nat) + (↑j : Int).toNat)).fdiv ((2 : Int) ^ min (Int.toNat (4 : Int)) IntKind.u8.bits) + (1 : Int) ≤ (↑{ data := #[(48 : UInt8), (49 : UInt8), (50 : UInt8), (51 : UInt8), (52 : UInt8), (53 : UInt8), (54 : UInt8), (55 : UInt8), (56 : UInt8), (57 : UInt8), (97 : UInt8), (98 : UInt8), (99 : UInt8), (100 : UInt8), (101 : UInt8), (102 : UInt8)] : ByteArray }.size : Int)) ∧
      BPre m m g_1 ∧
      IsByte (↑(strAt { data := #[(48 : UInt8), (49 : UInt8), (50 : UInt8), (51 : UInt8), (52 : UInt8), (53 : UInt8), (54 : UInt8), (55 : UInt8), (56 : UInt8), (57 : UInt8), (97 : UInt8), (98 : UInt8), (99 : UInt8), (100 : UInt8), (101 : UInt8), (102 : UInt8)] : ByteArray } ((h ((0 : Nat) + (↑j : Int).toNat)).fdiv ((2 : Int) ^ min (Int.toNat (4 : Int)) IntKind.u8.bits)).toNat) : Int) ∧
      ∀ (m_1 : Nat) (g : Nat → List Value), BByte m g_1 (↑(strAt { data := #[(48 : UInt8), (49 : UInt8), (50 : UInt8), (51 : UInt8), (52 : UInt8), (53 : UInt8), (54 : UInt8), (55 : UInt8), (56 : UInt8), (57 : UInt8), (97 : UInt8), (98 : UInt8), (99 : UInt8), (100 : UInt8), (101 : UInt8), (102 : UInt8)] : ByteArray } ((h ((0 : Nat) + (↑j : Int).toNat)).fdiv ((2 : Int) ^ min (Int.toNat (4 : Int)) IntKind.u8.bits)).toNat) : Int) m_1 g → ((0 : Int) ≤ IntKind.u8.wrap (↑(BitVec.ofInt IntKind.u8.bits (h ((0 : Nat) + (↑j : Int).toNat)) &&& BitVec.ofInt IntKind.u8.bits (15 : Int)).toNat : Int) ∧
      IntKind.u8.wrap (↑(BitVec.ofInt IntKind.u8.bits (h ((0 : Nat) + (↑j : Int).toNat)) &&& BitVec.ofInt IntKind.u8.bits (15 : Int)).toNat : Int) + (1 : Int) ≤ (↑{ data := #[(48 : UInt8), (49 : UInt8), (50 : UInt8), (51 : UInt8), (52 : UInt8), (53 : UInt8), (54 : UInt8), (55 : UInt8), (56 : UInt8), (57 : UInt8), (97 : UInt8), (98 : UInt8), (99 : UInt8), (100 : UInt8), (101 : UInt8), (102 : UInt8)] : ByteArray }.size : Int)) ∧
      BPre m_1 m_1 g ∧
      IsByte (↑(strAt { data := #[(48 : UInt8), (49 : UInt8), (50 : UInt8), (51 : UInt8), (52 : UInt8), (53 : UInt8), (54 : UInt8), (55 : UInt8), (56 : UInt8), (57 : UInt8), (97 : UInt8), (98 : UInt8), (99 : UInt8), (100 : UInt8), (101 : UInt8), (102 : UInt8)] : ByteArray } (IntKind.u8.wrap (↑(BitVec.ofInt IntKind.u8.bits (h ((0 : Nat) + (↑j : Int).toNat)) &&& BitVec.ofInt IntKind.u8.bits (15 : Int)).toNat : Int)).toNat) : Int) ∧
      ∀ (m : Nat) (g_2 : Nat → List Value), BByte m_1 g (↑(strAt { data := #[(48 : UInt8), (49 : UInt8), (50 : UInt8), (51 : UInt8), (52 : UInt8), (53 : UInt8), (54 : UInt8), (55 : UInt8), (56 : UInt8), (57 : UInt8), (97 : UInt8), (98 : UInt8), (99 : UInt8), (100 : UInt8), (101 : UInt8), (102 : UInt8)] : ByteArray } (IntKind.u8.wrap (↑(BitVec.ofInt IntKind.u8.bits (h ((0 : Nat) + (↑j : Int).toNat)) &&& BitVec.ofInt IntKind.u8.bits (15 : Int)).toNat : Int)).toNat) : Int) m g_2 → (k = (0 : Nat) → False) ∧
      (Value.pointer (some { block := (1 : Nat), off := (0 : Nat) : Addr }) = Value.pointer (some { block := (1 : Nat), off := { block := (1 : Nat), off := (0 : Nat) : Addr }.off : Addr }) ∧
      Value.slice (some { block := (0 : Nat), off := (0 : Nat), spot := some (0 : Nat) : Addr }) l.length cap = Value.slice (some { block := (0 : Nat), off := { block := (0 : Nat), off := (0 : Nat), spot := some (0 : Nat) : Addr }.off, spot := some (0 : Nat) : Addr }) l.length cap ∧
      Value.int IntKind.i64 (↑l.length : Int) = Value.int IntKind.i64 (↑l.length : Int) ∧
      Value.int IntKind.i64 (IntKind.i64.wrap ((↑j : Int) + (1 : Int))) = Value.int IntKind.i64 (IntKind.i64.wrap ((↑j : Int) + (1 : Int))) ∧
      True) ∧
      QSt { tmps := [], V := [VObj.rows false (5 : TypeId) (1 : Nat) n1 c1 fun j => [Value.int IntKind.u8 (h j)], VObj.cells (48 : TypeId) [Value.pointer (some { block := (1 : Nat), off := { block := { block := (1 : Nat), off := (0 : Nat) : Addr }.block, off := { block := (0 : Nat), off := (0 : Nat) : Addr }.off : Addr }.off : Addr }), Value.slice (some { block := (3 : Nat), off := { block := (6 : Nat), off := { block := (2 : Nat), off := (2 : Nat), spot := some (0 : Nat) : Addr }.off, spot := some (0 : Nat) : Addr }.off, spot := some (0 : Nat) : Addr }) m (0 : Nat)], VObj.dead, VObj.vec (5 : TypeId) (1 : Nat) m g_2] : VSt } { tmps := [], V := [VObj.rows false (5 : TypeId) (1 : Nat) n1 c1 fun j => [Value.int IntKind.u8 (h j)], VObj.cells (48 : TypeId) [Value.pointer (some { block := (1 : Nat), off := (0 : Nat) : Addr }), Value.slice (some { block := (3 : Nat), off := (2 : Nat), spot := some (0 : Nat) : Addr }) m (0 : Nat)], VObj.dead, VObj.vec (5 : TypeId) (1 : Nat) m g_2] : VSt } ∧
      QuAt l (k - (1 : Nat)) (IntKind.i64.wrap ((↑j : Int) + (1 : Int))) m m g_2)
      (bsplit (decide (h ((0 : Nat) + (↑j : Int).toNat) > (126 : Int))) (BPre ((34 : UInt8) :: qbs (List.take j l)).length ((34 : UInt8) :: qbs (List.take j l)).length g ∧
      (Nat.succ (0 : Nat) ≤ { data := #[(92 : UInt8), (120 : UInt8)] : ByteArray }.size ∧
      { data := #[(92 : UInt8), (120 : UInt8)] : ByteArray }.size.succ ≤ (4294967296 : Nat)) ∧
      ∀ (m : Nat) (g_1 : Nat → List Value), BStr ((34 : UInt8) :: qbs (List.take j l)).length g { data := #[(92 : UInt8), (120 : UInt8)] : ByteArray } m g_1 → (0 : Int) ≤ (4 : Int) ∧
      ((0 : Int) ≤ (h ((0 : Nat) + (↑j : Int).toNat)).fdiv ((2 : Int) ^ min (Int.toNat (4 : Int)) IntKind.u8.bits) ∧
      (h ((0 : Nat) + (↑j : Int).toNat)).fdiv ((2 : Int) ^ min (Int.toNat (4 : Int)) IntKind.u8.bits) + (1 : Int) ≤ (↑{ data := #[(48 : UInt8), (49 : UInt8), (50 : UInt8), (51 : UInt8), (52 : UInt8), (53 : UInt8), (54 : UInt8), (55 : UInt8), (56 : UInt8), (57 : UInt8), (97 : UInt8), (98 : UInt8), (99 : UInt8), (100 : UInt8), (101 : UInt8), (102 : UInt8)] : ByteArray }.size : Int)) ∧
      BPre m m g_1 ∧
      IsByte (↑(strAt { data := #[(48 : UInt8), (49 : UInt8), (50 : UInt8), (51 : UInt8), (52 : UInt8), (53 : UInt8), (54 : UInt8), (55 : UInt8), (56 : UInt8), (57 : UInt8), (97 : UInt8), (98 : UInt8), (99 : UInt8), (100 : UInt8), (101 : UInt8), (102 : UInt8)] : ByteArray } ((h ((0 : Nat) + (↑j : Int).toNat)).fdiv ((2 : Int) ^ min (Int.toNat (4 : Int)) IntKind.u8.bits)).toNat) : Int) ∧
      ∀ (m_1 : Nat) (g : Nat → List Value), BByte m g_1 (↑(strAt { data := #[(48 : UInt8), (49 : UInt8), (50 : UInt8), (51 : UInt8), (52 : UInt8), (53 : UInt8), (54 : UInt8), (55 : UInt8), (56 : UInt8), (57 : UInt8), (97 : UInt8), (98 : UInt8), (99 : UInt8), (100 : UInt8), (101 : UInt8), (102 : UInt8)] : ByteArray } ((h ((0 : Nat) + (↑j : Int).toNat)).fdiv ((2 : Int) ^ min (Int.toNat (4 : Int)) IntKind.u8.bits)).toNat) : Int) m_1 g → ((0 : Int) ≤ IntKind.u8.wrap (↑(BitVec.ofInt IntKind.u8.bits (h ((0 : Nat) + (↑j : Int).toNat)) &&& BitVec.ofInt IntKind.u8.bits (15 : Int)).toNat : Int) ∧
      IntKind.u8.wrap (↑(BitVec.ofInt IntKind.u8.bits (h ((0 : Nat) + (↑j : Int).toNat)) &&& BitVec.ofInt IntKind.u8.bits (15 : Int)).toNat : Int) + (1 : Int) ≤ (↑{ data := #[(48 : UInt8), (49 : UInt8), (50 : UInt8), (51 : UInt8), (52 : UInt8), (53 : UInt8), (54 : UInt8), (55 : UInt8), (56 : UInt8), (57 : UInt8), (97 : UInt8), (98 : UInt8), (99 : UInt8), (100 : UInt8), (101 : UInt8), (102 : UInt8)] : ByteArray }.size : Int)) ∧
      BPre m_1 m_1 g ∧
      IsByte (↑(strAt { data := #[(48 : UInt8), (49 : UInt8), (50 : UInt8), (51 : UInt8), (52 : UInt8), (53 : UInt8), (54 : UInt8), (55 : UInt8), (56 : UInt8), (57 : UInt8), (97 : UInt8), (98 : UInt8), (99 : UInt8), (100 : UInt8), (101 : UInt8), (102 : UInt8)] : ByteArray } (IntKind.u8.wrap (↑(BitVec.ofInt IntKind.u8.bits (h ((0 : Nat) + (↑j : Int).toNat)) &&& BitVec.ofInt IntKind.u8.bits (15 : Int)).toNat : Int)).toNat) : Int) ∧
      ∀ (m : Nat) (g_2 : Nat → List Value), BByte m_1 g (↑(strAt { data := #[(48 : UInt8), (49 : UInt8), (50 : UInt8), (51 : UInt8), (52 : UInt8), (53 : UInt8), (54 : UInt8), (55 : UInt8), (56 : UInt8), (57 : UInt8), (97 : UInt8), (98 : UInt8), (99 : UInt8), (100 : UInt8), (101 : UInt8), (102 : UInt8)] : ByteArray } (IntKind.u8.wrap (↑(BitVec.ofInt IntKind.u8.bits (h ((0 : Nat) + (↑j : Int).toNat)) &&& BitVec.ofInt IntKind.u8.bits (15 : Int)).toNat : Int)).toNat) : Int) m g_2 → (k = (0 : Nat) → False) ∧
      (Value.pointer (some { block := (1 : Nat), off := (0 : Nat) : Addr }) = Value.pointer (some { block := (1 : Nat), off := { block := (1 : Nat), off := (0 : Nat) : Addr }.off : Addr }) ∧
      Value.slice (some { block := (0 : Nat), off := (0 : Nat), spot := some (0 : Nat) : Addr }) l.length cap = Value.slice (some { block := (0 : Nat), off := { block := (0 : Nat), off := (0 : Nat), spot := some (0 : Nat) : Addr }.off, spot := some (0 : Nat) : Addr }) l.length cap ∧
      Value.int IntKind.i64 (↑l.length : Int) = Value.int IntKind.i64 (↑l.length : Int) ∧
      Value.int IntKind.i64 (IntKind.i64.wrap ((↑j : Int) + (1 : Int))) = Value.int IntKind.i64 (IntKind.i64.wrap ((↑j : Int) + (1 : Int))) ∧
      True) ∧
      QSt { tmps := [], V := [VObj.rows false (5 : TypeId) (1 : Nat) n1 c1 fun j => [Value.int IntKind.u8 (h j)], VObj.cells (48 : TypeId) [Value.pointer (some { block := (1 : Nat), off := { block := { block := (1 : Nat), off := (0 : Nat) : Addr }.block, off := { block := (0 : Nat), off := (0 : Nat) : Addr }.off : Addr }.off : Addr }), Value.slice (some { block := (3 : Nat), off := { block := (6 : Nat), off := { block := (2 : Nat), off := (2 : Nat), spot := some (0 : Nat) : Addr }.off, spot := some (0 : Nat) : Addr }.off, spot := some (0 : Nat) : Addr }) m (0 : Nat)], VObj.dead, VObj.vec (5 : TypeId) (1 : Nat) m g_2] : VSt } { tmps := [], V := [VObj.rows false (5 : TypeId) (1 : Nat) n1 c1 fun j => [Value.int IntKind.u8 (h j)], VObj.cells (48 : TypeId) [Value.pointer (some { block := (1 : Nat), off := (0 : Nat) : Addr }), Value.slice (some { block := (3 : Nat), off := (2 : Nat), spot := some (0 : Nat) : Addr }) m (0 : Nat)], VObj.dead, VObj.vec (5 : TypeId) (1 : Nat) m g_2] : VSt } ∧
      QuAt l (k - (1 : Nat)) (IntKind.i64.wrap ((↑j : Int) + (1 : Int))) m m g_2) (BPre ((34 : UInt8) :: qbs (List.take j l)).length ((34 : UInt8) :: qbs (List.take j l)).length g ∧
      IsByte (h ((0 : Nat) + (↑j : Int).toNat)) ∧
      ∀ (m : Nat) (g_1 : Nat → List Value), BByte ((34 : UInt8) :: qbs (List.take j l)).length g (h ((0 : Nat) + (↑j : Int).toNat)) m g_1 → (k = (0 : Nat) → False) ∧
      (Value.pointer (some { block := (1 : Nat), off := (0 : Nat) : Addr }) = Value.pointer (some { block := (1 : Nat), off := { block := (1 : Nat), off := (0 : Nat) : Addr }.off : Addr }) ∧
      Value.slice (some { block := (0 : Nat), off := (0 : Nat), spot := some (0 : Nat) : Addr }) l.length cap = Value.slice (some { block := (0 : Nat), off := { block := (0 : Nat), off := (0 : Nat), spot := some (0 : Nat) : Addr }.off, spot := some (0 : Nat) : Addr }) l.length cap ∧
      Value.int IntKind.i64 (↑l.length : Int) = Value.int IntKind.i64 (↑l.length : Int) ∧
      Value.int IntKind.i64 (IntKind.i64.wrap ((↑j : Int) + (1 : Int))) = Value.int IntKind.i64 (IntKind.i64.wrap ((↑j : Int) + (1 : Int))) ∧
      True) ∧
      QSt { tmps := [], V := [VObj.rows false (5 : TypeId) (1 : Nat) n1 c1 fun j => [Value.int IntKind.u8 (h j)], VObj.cells (48 : TypeId) [Value.pointer (some { block := (1 : Nat), off := { block := { block := (1 : Nat), off := (0 : Nat) : Addr }.block, off := { block := (0 : Nat), off := (0 : Nat) : Addr }.off : Addr }.off : Addr }), Value.slice (some { block := (3 : Nat), off := { block := (4 : Nat), off := { block := (2 : Nat), off := (2 : Nat), spot := some (0 : Nat) : Addr }.off, spot := some (0 : Nat) : Addr }.off, spot := some (0 : Nat) : Addr }) m (0 : Nat)], VObj.dead, VObj.vec (5 : TypeId) (1 : Nat) m g_1] : VSt } { tmps := [], V := [VObj.rows false (5 : TypeId) (1 : Nat) n1 c1 fun j => [Value.int IntKind.u8 (h j)], VObj.cells (48 : TypeId) [Value.pointer (some { block := (1 : Nat), off := (0 : Nat) : Addr }), Value.slice (some { block := (3 : Nat), off := (2 : Nat), spot := some (0 : Nat) : Addr }) m (0 : Nat)], VObj.dead, VObj.vec (5 : TypeId) (1 : Nat) m g_1] : VSt } ∧
      QuAt l (k - (1 : Nat)) (IntKind.i64.wrap ((↑j : Int) + (1 : Int))) m m g_1))))))) (QuEnd l ((34 : UInt8) :: qbs (List.take j l)).length ((34 : UInt8) :: qbs (List.take j l)).length g ∧
      QSt { tmps := [unk, unk, unk, Value.pointer (some { block := (1 : Nat), off := { block := (1 : Nat), off := (0 : Nat) : Addr }.off : Addr }), unk, unk, unk, unk, unk, unk, unk, unk, unk, unk, unk, unk, unk, unk, unk, unk, unk, unk, unk, unk, unk, unk, unk, unk, unk, unk, unk, unk, unk, unk, unk, unk, unk, unk, unk, unk, unk, unk, unk, unk, unk, unk, unk, unk, unk, unk, unk, unk], V := [VObj.rows false (5 : TypeId) (1 : Nat) n1 c1 fun j => [Value.int IntKind.u8 (h j)], VObj.cells (48 : TypeId) [Value.pointer (some { block := (1 : Nat), off := { block := (1 : Nat), off := (0 : Nat) : Addr }.off : Addr }), Value.slice (some { block := (3 : Nat), off := { block := (3 : Nat), off := (2 : Nat), spot := some (0 : Nat) : Addr }.off, spot := some (0 : Nat) : Addr }) ((34 : UInt8) :: qbs (List.take j l)).length (0 : Nat)], VObj.dead, VObj.vec (5 : TypeId) (1 : Nat) ((34 : UInt8) :: qbs (List.take j l)).length g] : VSt } { tmps := [unk, unk, unk, Value.pointer (some { block := (1 : Nat), off := (0 : Nat) : Addr }), unk, unk, unk, unk, unk, unk, unk, unk, unk, unk, unk, unk, unk, unk, unk, unk, unk, unk, unk, unk, unk, unk, unk, unk, unk, unk, unk, unk, unk, unk, unk, unk, unk, unk, unk, unk, unk, unk, unk, unk, unk, unk, unk, unk, unk, unk, unk, unk], V := [VObj.rows false (5 : TypeId) (1 : Nat) n1 c1 fun j => [Value.int IntKind.u8 (h j)], VObj.cells (48 : TypeId) [Value.pointer (some { block := (1 : Nat), off := (0 : Nat) : Addr }), Value.slice (some { block := (3 : Nat), off := (2 : Nat), spot := some (0 : Nat) : Addr }) ((34 : UInt8) :: qbs (List.take j l)).length (0 : Nat)], VObj.dead, VObj.vec (5 : TypeId) (1 : Nat) ((34 : UInt8) :: qbs (List.take j l)).length g] : VSt })) (by kernel_rfl) ?_
    refine bsplit_iff.2 ⟨fun hlt => ?_, fun hge => ?_⟩
    · have hlt : j < l.length := by simp only [decide_eq_true_eq] at hlt; omega
      have hc : h (0 + (j : Int).toNat) = ((l[j]).toNat : Int) := by rw [Int.toNat_natCast, Nat.zero_add]; exact h1.at_ j l[j] (by simp [hlt])
      have hw : IntKind.i64.wrap ((j : Int) + 1) = ((j + 1 : Nat) : Int) := by rw [w64 _ (by omega)]; rfl
      have htake : l.take (j + 1) = l.take j ++ [l[j]] := by rw [List.take_add_one]; simp [hlt]
      rw [hc, hw]
      have hT : (34 :: qbs (l.take j)).length ≤ 4 * j + 1 := by
        have := qbs_len (l.take j)
        simp only [List.length_take] at this
        simp only [List.length_cons]
        omega
      generalize hTe : (34 :: qbs (l.take j)) = T at *
      have fin : ∀ (m : Nat) (g' : Nat → List Value), m = (T ++ qb l[j]).length → RowB g' (T ++ qb l[j]) → QuAt l (k - 1) ((j + 1 : Nat) : Int) m m g' := by
        intro m g' hm hr
        have e : T ++ qb l[j] = 34 :: qbs (l.take (j + 1)) := by
          rw [htake, qbs_app, ← hTe]; simp [qbs]
        rw [e] at hm hr
        exact ⟨j + 1, rfl, by omega, hm, rfl, hr⟩
      generalize l[j] = c at *
      have hcl := c.toNat_lt
      refine ⟨⟨by omega, by omega⟩, by omega, bsplit_iff.2 ⟨fun e34 => ?_, fun n34 => bsplit_iff.2 ⟨fun e92 => ?_, fun n92 => bsplit_iff.2 ⟨fun e10 => ?_, fun n10 => bsplit_iff.2 ⟨fun e9 => ?_, fun n9 => bsplit_iff.2 ⟨fun e32 => ?_, fun n32 => bsplit_iff.2 ⟨fun e126 => ?_, fun n126 => ?_⟩⟩⟩⟩⟩⟩⟩
      · have hq : qb c = [92, c] := by unfold qb; rw [if_pos (.inl (UInt8.toNat_inj.1 (show c.toNat = 34 by have := beq_iff_eq.1 e34; omega)))]
        refine ⟨.of hg (by omega), ⟨92, rfl⟩, fun m g1 hb => ?_⟩
        obtain ⟨rfl, hr⟩ := hb.app hg (b := 92) rfl
        refine ⟨.of hr (by rw [List.length_append]; simp only [List.length_cons, List.length_nil]; omega), ⟨c, rfl⟩, fun m2 g2 hb2 => ?_⟩
        obtain ⟨rfl, hr2⟩ := hb2.app hr (b := c) rfl
        exact ⟨by omega, ⟨rfl, rfl, rfl, rfl, trivial⟩, ⟨rfl⟩, fin _ _ (by rw [hq]; simp) (by rw [hq]; simpa using hr2)⟩
      · have hq : qb c = [92, c] := by unfold qb; rw [if_pos (.inr (UInt8.toNat_inj.1 (show c.toNat = 92 by have := beq_iff_eq.1 e92; omega)))]
        refine ⟨.of hg (by omega), ⟨92, rfl⟩, fun m g1 hb => ?_⟩
        obtain ⟨rfl, hr⟩ := hb.app hg (b := 92) rfl
        refine ⟨.of hr (by rw [List.length_append]; simp only [List.length_cons, List.length_nil]; omega), ⟨c, rfl⟩, fun m2 g2 hb2 => ?_⟩
        obtain ⟨rfl, hr2⟩ := hb2.app hr (b := c) rfl
        exact ⟨by omega, ⟨rfl, rfl, rfl, rfl, trivial⟩, ⟨rfl⟩, fin _ _ (by rw [hq]; simp) (by rw [hq]; simpa using hr2)⟩
      · have k34 : ¬ c.toNat = 34 := fun e => by rw [e] at n34; exact absurd n34 (by decide)
        have k92 : ¬ c.toNat = 92 := fun e => by rw [e] at n92; exact absurd n92 (by decide)
        have m1 : ¬ (c = 34 ∨ c = 92) := fun e => e.elim (fun e => k34 (by rw [e]; rfl)) (fun e => k92 (by rw [e]; rfl))
        have hq : qb c = [92, 110] := by unfold qb; rw [if_neg m1, if_pos (UInt8.toNat_inj.1 (show c.toNat = 10 by have := beq_iff_eq.1 e10; omega))]
        refine ⟨.of hg (by omega), ⟨by decide, by decide⟩, fun m g1 hb => ?_⟩
        obtain ⟨rfl, hr⟩ := hb.app hg
        exact ⟨by omega, ⟨rfl, rfl, rfl, rfl, trivial⟩, ⟨rfl⟩, fin _ _ (by rw [hq]; rfl) (by rw [hq]; exact hr)⟩
      · have k34 : ¬ c.toNat = 34 := fun e => by rw [e] at n34; exact absurd n34 (by decide)
        have k92 : ¬ c.toNat = 92 := fun e => by rw [e] at n92; exact absurd n92 (by decide)
        have m1 : ¬ (c = 34 ∨ c = 92) := fun e => e.elim (fun e => k34 (by rw [e]; rfl)) (fun e => k92 (by rw [e]; rfl))
        have m10 : ¬ c = 10 := fun e => by rw [e] at n10; exact absurd n10 (by decide)
        have hq : qb c = [92, 116] := by unfold qb; rw [if_neg m1, if_neg m10, if_pos (UInt8.toNat_inj.1 (show c.toNat = 9 by have := beq_iff_eq.1 e9; omega))]
        refine ⟨.of hg (by omega), ⟨by decide, by decide⟩, fun m g1 hb => ?_⟩
        obtain ⟨rfl, hr⟩ := hb.app hg
        exact ⟨by omega, ⟨rfl, rfl, rfl, rfl, trivial⟩, ⟨rfl⟩, fin _ _ (by rw [hq]; rfl) (by rw [hq]; exact hr)⟩
      · have k34 : ¬ c.toNat = 34 := fun e => by rw [e] at n34; exact absurd n34 (by decide)
        have k92 : ¬ c.toNat = 92 := fun e => by rw [e] at n92; exact absurd n92 (by decide)
        have m1 : ¬ (c = 34 ∨ c = 92) := fun e => e.elim (fun e => k34 (by rw [e]; rfl)) (fun e => k92 (by rw [e]; rfl))
        have m10 : ¬ c = 10 := fun e => by rw [e] at n10; exact absurd n10 (by decide)
        have m9 : ¬ c = 9 := fun e => by rw [e] at n9; exact absurd n9 (by decide)
        have hq : qb c = [92, 120, hexD (c.toNat / 16), hexD (c.toNat % 16)] := by unfold qb; rw [if_neg m1, if_neg m10, if_neg m9, if_pos (.inl (by have := of_decide_eq_true e32; omega))]
        refine ⟨.of hg (by omega), ⟨by decide, by decide⟩, fun m g1 hb => ?_⟩
        obtain ⟨hm, hr⟩ := hb.app hg
        have hbx : bytesL (⟨#[92, 120]⟩ : ByteArray) = [92, 120] := rfl
        rw [hbx] at hm hr
        subst hm
        have hx := hex_all ⟨c.toNat, hcl⟩
        unfold digS at hx
        obtain ⟨b1, s1, b2, s2⟩ := hx
        refine ⟨by decide, b1, .of hr (by rw [List.length_append]; simp only [List.length_cons, List.length_nil]; omega), by rw [s1]; exact ⟨_, rfl⟩, fun m1 g2 hb2 => ?_⟩
        obtain ⟨rfl, hr2⟩ := hb2.app hr (b := hexD (c.toNat / 16)) (by rw [s1])
        refine ⟨b2, .of hr2 (by rw [List.length_append, List.length_append]; simp only [List.length_cons, List.length_nil]; omega), by rw [s2]; exact ⟨_, rfl⟩, fun m3 g3 hb3 => ?_⟩
        obtain ⟨rfl, hr3⟩ := hb3.app hr2 (b := hexD (c.toNat % 16)) (by rw [s2])
        exact ⟨by omega, ⟨rfl, rfl, rfl, rfl, trivial⟩, ⟨rfl⟩, fin _ _ (by rw [hq]; simp) (by rw [hq]; simpa using hr3)⟩
      · have k34 : ¬ c.toNat = 34 := fun e => by rw [e] at n34; exact absurd n34 (by decide)
        have k92 : ¬ c.toNat = 92 := fun e => by rw [e] at n92; exact absurd n92 (by decide)
        have m1 : ¬ (c = 34 ∨ c = 92) := fun e => e.elim (fun e => k34 (by rw [e]; rfl)) (fun e => k92 (by rw [e]; rfl))
        have m10 : ¬ c = 10 := fun e => by rw [e] at n10; exact absurd n10 (by decide)
        have m9 : ¬ c = 9 := fun e => by rw [e] at n9; exact absurd n9 (by decide)
        have hq : qb c = [92, 120, hexD (c.toNat / 16), hexD (c.toNat % 16)] := by unfold qb; rw [if_neg m1, if_neg m10, if_neg m9, if_pos (.inr (by have := of_decide_eq_true e126; omega))]
        refine ⟨.of hg (by omega), ⟨by decide, by decide⟩, fun m g1 hb => ?_⟩
        obtain ⟨hm, hr⟩ := hb.app hg
        have hbx : bytesL (⟨#[92, 120]⟩ : ByteArray) = [92, 120] := rfl
        rw [hbx] at hm hr
        subst hm
        have hx := hex_all ⟨c.toNat, hcl⟩
        unfold digS at hx
        obtain ⟨b1, s1, b2, s2⟩ := hx
        refine ⟨by decide, b1, .of hr (by rw [List.length_append]; simp only [List.length_cons, List.length_nil]; omega), by rw [s1]; exact ⟨_, rfl⟩, fun m1 g2 hb2 => ?_⟩
        obtain ⟨rfl, hr2⟩ := hb2.app hr (b := hexD (c.toNat / 16)) (by rw [s1])
        refine ⟨b2, .of hr2 (by rw [List.length_append, List.length_append]; simp only [List.length_cons, List.length_nil]; omega), by rw [s2]; exact ⟨_, rfl⟩, fun m3 g3 hb3 => ?_⟩
        obtain ⟨rfl, hr3⟩ := hb3.app hr2 (b := hexD (c.toNat % 16)) (by rw [s2])
        exact ⟨by omega, ⟨rfl, rfl, rfl, rfl, trivial⟩, ⟨rfl⟩, fin _ _ (by rw [hq]; simp) (by rw [hq]; simpa using hr3)⟩
      · have k34 : ¬ c.toNat = 34 := fun e => by rw [e] at n34; exact absurd n34 (by decide)
        have k92 : ¬ c.toNat = 92 := fun e => by rw [e] at n92; exact absurd n92 (by decide)
        have m1 : ¬ (c = 34 ∨ c = 92) := fun e => e.elim (fun e => k34 (by rw [e]; rfl)) (fun e => k92 (by rw [e]; rfl))
        have m10 : ¬ c = 10 := fun e => by rw [e] at n10; exact absurd n10 (by decide)
        have m9 : ¬ c = 9 := fun e => by rw [e] at n9; exact absurd n9 (by decide)
        have hq : qb c = [c] := by
          unfold qb
          rw [if_neg m1, if_neg m10, if_neg m9, if_neg]
          have := of_decide_eq_false n32
          have := of_decide_eq_false n126
          omega
        refine ⟨.of hg (by omega), ⟨c, rfl⟩, fun m g1 hb => ?_⟩
        obtain ⟨rfl, hr⟩ := hb.app hg (b := c) rfl
        exact ⟨by omega, ⟨rfl, rfl, rfl, rfl, trivial⟩, ⟨rfl⟩, fin _ _ (by rw [hq]) (by rw [hq]; exact hr)⟩
    · have hge : ¬ j < l.length := by simp only [decide_eq_false_iff_not] at hge; omega
      have hj2 : j = l.length := by omega
      have e : l.take j = l := by rw [hj2]; exact List.take_length
      rw [e] at hg ⊢
      exact ⟨⟨rfl, rfl, hg⟩, ⟨rfl⟩⟩
  · match k, hk with
    | 0, hk => cases hk; exact scI h n1
    | 1, hk => cases hk; intro v hv; exact scB_ok 6 v (List.all_eq_true.1 (show [Value.pointer (some ⟨1, 0, none⟩), Value.slice (some ⟨3, 2, some 0⟩) (34 :: qbs (l.take j)).length 0].all (scB 4 6) = true from rfl) v hv)
    | 2, hk => cases hk; trivial
    | 3, hk => cases hk; exact hg.sc

def quBF (n1 c1 : Nat) (h : Nat → Int) (cap : Nat) (l : List UInt8) : BlkS := fun S K =>
  reshape S.V.length (quSelF .normal S) (quKs .normal) [] quNcF S (quJF n1 c1 (fun j => [.int .u8 (h j)]) cap l l.length) ∧ S.V.length = 3 ∧
    ∀ m g, QuEnd l m m g → K .normal (quEF n1 c1 (fun j => [.int .u8 (h j)]) m g)

theorem qu_loopF (n1 c1 : Nat) (h : Nat → Int) (cap : Nat) (l : List UInt8) (hl : l.length ≤ 16777216) (h1 : IntB h l) (hln : l.length ≤ n1) (S : VSt) (K : Exit → VSt → Prop) (hB : quBF n1 c1 h cap l S K) : Does Tryd.prog (.block 0 (.loop (roundOf Tryd.f11 0))) S K := by
  obtain ⟨h2, h3, h4⟩ := hB
  refine Does.mono (Does.loopR (K := quKF n1 c1 (fun j => [.int .u8 (h j)]) l) quKs quSelF [] quNcF (quJF n1 c1 (fun j => [.int .u8 (h j)]) cap l) S (reshape_mono (fun S hS => ⟨_, hS⟩) h2) fun k S' hJ => ?_) fun e S' hK => ?_
  · rw [h3]; exact qu_roundF n1 c1 h cap l hl h1 hln k S' hJ
  · unfold quKF at hK
    split at hK
    · split at hK
      · obtain ⟨⟨h5, rfl, h6⟩, ⟨rfl⟩⟩ := hK
        exact h4 _ _ ⟨h5, rfl, h6⟩
      · exact hK.elim
    · exact hK.elim

theorem quote_runF (n1 c1 : Nat) (h : Nat → Int) (cap : Nat) (l : List UInt8) (hl : l.length ≤ 16777216) (h1 : IntB h l) (hln : l.length ≤ n1) :
    CallDoes Tryd.prog 11 [.slice (some ⟨0, 0, some 0⟩) l.length cap] [.rows false 5 1 n1 c1 (fun j => [.int .u8 (h j)])] fun v V' =>
      reshape 1 [.keep 0] [0] [] [] ⟨[v], V'⟩ (quLeaf [.rows false 5 1 n1 c1 (fun j => [.int .u8 (h j)])] l) := by
  refine of_run (ctxG_ok (l := []) (cs := [(17, frameT wbC), (18, frameT wsC), (19, frameT strC)]) (bs := [(0, quBF n1 c1 h cap l)]) .nil (.cons frWb (.cons frWs (.cons frStr .nil)))) (n := 200) Tryd.func11 rfl (.one rfl rfl (qu_loopF n1 c1 h cap l hl h1 hln)) ?_
  refine by_nf (B := IsByte (34 : Int) ∧
    ∀ (m : Nat) (g : Nat → List Value), BByte (0 : Nat) (fun x => []) (34 : Int) m g → ((Value.pointer (some { block := (1 : Nat), off := (0 : Nat) : Addr }) = Value.pointer (some { block := (1 : Nat), off := { block := (1 : Nat), off := (0 : Nat) : Addr }.off : Addr }) ∧
    Value.slice (some { block := (0 : Nat), off := (0 : Nat), spot := some (0 : Nat) : Addr }) l.length cap = Value.slice (some { block := (0 : Nat), off := { block := (0 : Nat), off := (0 : Nat), spot := some (0 : Nat) : Addr }.off, spot := some (0 : Nat) : Addr }) l.length cap ∧
    Value.int IntKind.i64 (↑l.length : Int) = Value.int IntKind.i64 (↑l.length : Int) ∧
    Value.int IntKind.i64 (0 : Int) = Value.int IntKind.i64 (0 : Int) ∧
    True) ∧
    QSt { tmps := [], V := [VObj.rows false (5 : TypeId) (1 : Nat) n1 c1 fun j => [Value.int IntKind.u8 (h j)], VObj.cells (48 : TypeId) [Value.pointer (some { block := (1 : Nat), off := { block := { block := (1 : Nat), off := (0 : Nat) : Addr }.block, off := { block := (0 : Nat), off := (0 : Nat) : Addr }.off : Addr }.off : Addr }), Value.slice (some { block := (3 : Nat), off := { block := (2 : Nat), off := { block := (1 : Nat), off := (2 : Nat), spot := some (0 : Nat) : Addr }.off, spot := some (0 : Nat) : Addr }.off, spot := some (0 : Nat) : Addr }) m (0 : Nat)], VObj.dead, VObj.vec (5 : TypeId) (1 : Nat) m g] : VSt } { tmps := [], V := [VObj.rows false (5 : TypeId) (1 : Nat) n1 c1 fun j => [Value.int IntKind.u8 (h j)], VObj.cells (48 : TypeId) [Value.pointer (some { block := (1 : Nat), off := (0 : Nat) : Addr }), Value.slice (some { block := (3 : Nat), off := (2 : Nat), spot := some (0 : Nat) : Addr }) m (0 : Nat)], VObj.dead, VObj.vec (5 : TypeId) (1 : Nat) m g] : VSt } ∧
    QuAt l l.length (0 : Int) m m g) ∧
    (3 : Nat) = (3 : Nat) ∧
    ∀ (m : Nat) (g : Nat → List Value), QuEnd l m m g → BPre m m g ∧
    IsByte (34 : Int) ∧
    ∀ (m_1 : Nat) (g_1 : Nat → List Value), BByte m g (34 : Int) m_1 g_1 → BPre m_1 m_1 g_1 ∧
    Nat.succ (0 : Nat) ≤ m_1 ∧
    ∀ (s : ByteArray), BText m_1 g_1 s → QSt { tmps := [], V := [VObj.rows false (5 : TypeId) (1 : Nat) n1 c1 fun j => [Value.int IntKind.u8 (h j)]] : VSt } { tmps := [], V := [VObj.rows false (5 : TypeId) (1 : Nat) n1 c1 fun j => [Value.int IntKind.u8 (h j)]] : VSt } ∧
    QOut l s) (by kernel_rfl) ?_
  refine ⟨⟨34, rfl⟩, fun m g hb => ?_⟩
  obtain ⟨hm, hr⟩ := BByte.app (T := []) hb (.nil _) (b := 34) rfl
  refine ⟨⟨⟨rfl, rfl, rfl, rfl, trivial⟩, ⟨rfl⟩, ⟨0, rfl, by omega, by rw [hm]; rfl, rfl, hr⟩⟩, rfl, fun m g hq => ?_⟩
  obtain ⟨hm, _, hg⟩ := hq
  subst hm
  have hlen := qbs_len l
  have hT : (34 :: qbs l).length ≤ 4 * l.length + 1 := by simp only [List.length_cons]; omega
  refine ⟨.of hg (by omega), ⟨34, rfl⟩, fun m2 g2 hb2 => ?_⟩
  obtain ⟨rfl, hr2⟩ := hb2.app hg (b := 34) rfl
  have hT2 : (34 :: qbs l ++ [34]).length = (34 :: qbs l).length + 1 := by simp
  refine ⟨.of hr2 (by omega), by omega, fun s hs => ⟨⟨rfl⟩, ?_⟩⟩
  obtain ⟨l2, h2, h3, rfl⟩ := hs
  have := hr2.same h3 h2
  subst this
  exact ⟨by simp [bytesL, quoteL]⟩

theorem RepW.agree1 {env : Nat → X.Loc} {w : World} {t : TypeId} {m n c : Nat} {f g : Nat → List Value} (h : RepW env [.rows false t m n c f] w) (hfg : ∀ j, j < n → f j = g j) : RepW env [.rows false t m n c g] w := by
  refine ⟨fun i o hi => ?_, fun i o hi => ?_, fun i o hi hB => ?_, fun i j oi oj hi hj hij => ?_, h.inv, fun i o hi ho => ?_, h.room⟩
  · match i, hi with
    | 0, hi =>
      cases hi
      obtain ⟨h1, h2, _⟩ := h.mat 0 _ rfl
      exact ⟨h1, fun r hr => by rw [← hfg r hr]; exact h2 r hr, fun h => by cases h⟩
  · match i, hi with
    | 0, hi => cases hi; exact fun r hr => by rw [← hfg r hr]; exact h.sc 0 _ rfl r hr
  · match i, hi with
    | 0, hi => cases hi; exact h.blk 0 _ rfl trivial
  · match i, j, hi, hj with
    | 0, 0, _, _ => exact absurd rfl hij
  · match i, hi with
    | 0, hi => cases hi; exact absurd ho.1 Bool.noConfusion
theorem Fr.agree1 {env env' : Nat → X.Loc} {w w' : World} {t : TypeId} {m n c : Nat} {f g : Nat → List Value} (h : Fr env [.rows false t m n c f] w env' [.rows false t m n c f] w') : Fr env [.rows false t m n c g] w env' [.rows false t m n c g] w' := by
  refine ⟨h.agree, h.len, h.os, h.tape, h.output, h.size, fun b hb _ => h.keep b hb fun i o hi ho => ?_, fun i o hi ho => ?_⟩
  · match i, hi with
    | 0, hi => cases hi; exact absurd ho.1 Bool.noConfusion
  · match i, hi with
    | 0, hi => cases hi; exact absurd ho.1 Bool.noConfusion

structure QPreF (r n n1 : Nat) (f1 : Nat → List Value) (l : List UInt8) : Prop where
  ex : r = 0 ∧ n = l.length ∧ l.length ≤ n1 ∧ l.length ≤ 16777216 ∧ ∃ h : Nat → Int, IntB h l ∧ ∀ j, j < n1 → f1 j = [.int .u8 (h j)]
/-- Quote of a row of bytes that is only read -/
def quoteF (l : List UInt8) : CallS := fun args V K =>
  match args, V with
  | [.slice (some ⟨0, 0, some r⟩) n c], [.rows false 5 1 n1 c1 f1] => QPreF r n n1 f1 l ∧ ∀ s, QOut l s → K (.string s) [.rows false 5 1 n1 c1 f1]
  | _, _ => False

theorem quoteF_ok (l : List UInt8) : CallOK Tryd.prog 11 (quoteF l) := by
  refine ⟨callable Tryd.func11 rfl (by decide +kernel), fun args V K hT => ?_⟩
  unfold quoteF at hT
  split at hT
  · rename_i r n c n1 c1 f1
    obtain ⟨⟨rfl, rfl, hln, hl, h, h1, hf⟩, hK⟩ := hT
    intro env w hW hsc
    have hc : CallDoes Tryd.prog 11 [.slice (some ⟨0, 0, some 0⟩) l.length c] [.rows false 5 1 n1 c1 (fun j => [.int .u8 (h j)])] fun v V' => ∃ s, v = .string s ∧ V' = [.rows false 5 1 n1 c1 (fun j => [.int .u8 (h j)])] ∧ QOut l s := by
      refine CallDoes.reshape (fun _ _ => [.keep 0]) [] [] ?_
      intro env w hW hsc
      refine (quote_runF n1 c1 h c l hl h1 hln env w hW hsc).mono ?_
      rintro e w' ⟨u, env', V', v, g1, g2, g3, g4, g5⟩
      refine ⟨u, env', V', v, g1, g2, g3, g4, reshape_mono (fun S hS => ?_) g5⟩
      unfold quLeaf at hS
      split at hS
      · rename_i e1
        obtain ⟨⟨e4⟩, h5⟩ := hS
        unfold one1
        rw [e1, (VSt.mk.inj e4).2]
        exact ⟨_, rfl, rfl, h5⟩
      · exact hS.elim
    refine (hc env w (RepW.agree1 hW hf) hsc).mono ?_
    rintro e w' ⟨u, env', V', v, g1, g2, g3, g4, s, rfl, rfl, hq⟩
    exact ⟨u, env', _, _, g1, g2, RepW.agree1 g3 (fun j hj => (hf j hj).symm), Fr.agree1 g4, hK s hq⟩
  · exact hT.elim

end Go.Sh
