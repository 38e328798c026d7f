/- Quote, walked: the quoted word of the bytes. -/
import Derived.Test.YtlnmampbiapglaaDoorShQ2
set_option linter.unusedSimpArgs false
set_option linter.unusedSectionVars false
set_option linter.unusedVariables false
set_option maxRecDepth 10000
namespace Go.Sh
open Go Go.X Go.Proofs
variable [WI]

structure QuAt (l : List UInt8) (k : Nat) (i : Int) (m m' : Nat) (g : Nat → List Value) : Prop where
  ex : ∃ j : Nat, i = j ∧ j + k = l.length ∧ m = (34 :: qbs (l.take j)).length ∧ m' = m ∧ RowB g (34 :: qbs (l.take j))
structure QuEnd (l : List UInt8) (m m' : Nat) (g : Nat → List Value) : Prop where
  hm : m = (34 :: qbs l).length
  hm' : m' = m
  rows : RowB g (34 :: qbs l)
def quV (n0 c0 : Nat) (f0 : Nat → List Value) (n1 c1 : Nat) (f1 : Nat → List Value) (m : Nat) (g : Nat → List Value) : VW :=
  [.rows false 5 1 n0 c0 f0, .rows true 5 1 n1 c1 f1, .cells 48 [.pointer (some ⟨2, 0, none⟩), .slice (some ⟨4, 2, some 0⟩) m 0], .dead, .vec 5 1 m g]
def quTm (n cap : Nat) (i : Int) : List Value := [unk, unk, unk, .pointer (some ⟨2, 0, none⟩), unk, unk, unk, .slice (some ⟨1, 0, some 0⟩) n cap, .int .i64 (n : Nat), .int .i64 i] ++ List.replicate 42 unk
def quJ (n0 c0 : Nat) (f0 : Nat → List Value) (n1 c1 : Nat) (f1 : Nat → List Value) (cap : Nat) (l : List UInt8) (k : Nat) (S : VSt) : Prop :=
  match nth undef S.tmps 9, (S.V[2]? : Option VObj), (S.V.getLast? : Option VObj) with
  | .int .i64 i, some (.cells 48 [_, .slice (some _) m 0]), some (.vec 5 1 m' g) => leT (quTm l.length cap i) S.tmps ∧ QSt ⟨[], S.V⟩ ⟨[], quV n0 c0 f0 n1 c1 f1 m' g⟩ ∧ QuAt l k i m m' g
  | _, _, _ => False
def quE (n0 c0 : Nat) (f0 : Nat → List Value) (n1 c1 : Nat) (f1 : Nat → List Value) (m : Nat) (g : Nat → List Value) : VSt := ⟨[unk, unk, unk, .pointer (some ⟨2, 0, none⟩)] ++ List.replicate 48 unk, quV n0 c0 f0 n1 c1 f1 m g⟩
def quK (n0 c0 : Nat) (f0 : Nat → List Value) (n1 c1 : Nat) (f1 : Nat → List Value) (l : List UInt8) (e : Exit) (S : VSt) : Prop :=
  match e with
  | .normal =>
    match (S.V[2]? : Option VObj), (S.V.getLast? : Option VObj) with
    | some (.cells 48 [_, .slice (some _) m 0]), some (.vec 5 1 m' g) => QuEnd l m m' g ∧ QSt S (quE n0 c0 f0 n1 c1 f1 m' g)
    | _, _ => False
  | _ => False
def quKs (e : Exit) : List Nat := match e with | .normal => [3, 7, 8, 9] | .exit _ => [3] | _ => []
def quSel (_ : Exit) (S : VSt) : List Sel :=
  match (S.V[2]? : Option VObj) with
  | some (.cells _ [_, .slice (some a) _ _]) => [.keep 0, .keep 1, .keep 2, .drop 3, selV S.V a.block]
  | _ => []
def quNc : List (Nat × Nat × Nat) := [(2, 1, 4)]

theorem quJ_eq {n0 c0 : Nat} {f0 : Nat → List Value} {n1 c1 : Nat} {f1 : Nat → List Value} {cap : Nat} {l : List UInt8} {k : Nat} {S : VSt} (hJ : quJ n0 c0 f0 n1 c1 f1 cap l k S) :
    ∃ (j : Nat) (g : Nat → List Value), leT (quTm l.length cap j) S.tmps ∧ S.V = quV n0 c0 f0 n1 c1 f1 (34 :: qbs (l.take j)).length g ∧ j + k = l.length ∧ RowB g (34 :: qbs (l.take j)) := by
  unfold quJ at hJ
  split at hJ
  · obtain ⟨h1, ⟨h2⟩, ⟨j, rfl, h3, rfl, rfl, h4⟩⟩ := hJ
    exact ⟨j, _, h1, (VSt.mk.inj h2).2, h3, h4⟩
  · exact hJ.elim

/-- the bytes of a row whose cells are told -/
structure IntB (h : Nat → Int) (l : List UInt8) : Prop where
  at_ : ∀ (j : Nat) (b : UInt8), l[j]? = some b → h j = (b.toNat : Int)

theorem RowB.same {f : Nat → List Value} {l l' : List UInt8} (h : RowB f l) (h' : RowB f l') (hn : l.length = l'.length) : l = l' := by
  apply List.ext_getElem hn
  intro j h1 h2
  have e1 := h j l[j] (by simp [h1])
  have e2 := h' j l'[j] (by simp [h2])
  rw [e1] at e2
  simp at e2
  exact UInt8.toNat_inj.1 (by omega)
theorem BByte.app {T : List UInt8} {g : Nat → List Value} {c : Int} {m : Nat} {g' : Nat → List Value} (h : BByte T.length g c m g') (hg : RowB g T) {b : UInt8} (hb : c = (b.toNat : Int)) : m = (T ++ [b]).length ∧ RowB g' (T ++ [b]) := by
  obtain ⟨l, b', h1, h2, h3, h4, h5⟩ := h
  have e := hg.same h2 h1
  subst e
  have : b' = b := UInt8.toNat_inj.1 (by omega)
  subst this
  exact ⟨by simp [h4], h5⟩
theorem BStr.app {T : List UInt8} {g : Nat → List Value} {s : ByteArray} {m : Nat} {g' : Nat → List Value} (h : BStr T.length g s m g') (hg : RowB g T) : m = (T ++ bytesL s).length ∧ RowB g' (T ++ bytesL s) := by
  obtain ⟨l, h1, h2, h3, h4⟩ := h
  have e := hg.same h2 h1
  subst e
  exact ⟨by rw [h3, List.length_append]; rfl, h4⟩
theorem BPre.of {T : List UInt8} {g : Nat → List Value} (hg : RowB g T) (hl : T.length < 4294967296) : BPre T.length T.length g := ⟨T, rfl, rfl, hg, hl⟩

def digS : ByteArray := ⟨#[48, 49, 50, 51, 52, 53, 54, 55, 56, 57, 97, 98, 99, 100, 101, 102]⟩
theorem hex_all : ∀ n : Fin 256, (0 ≤ ((n.val : Int)).fdiv ((2 : Int) ^ min (Int.toNat (4 : Int)) IntKind.u8.bits) ∧ ((n.val : Int)).fdiv ((2 : Int) ^ min (Int.toNat (4 : Int)) IntKind.u8.bits) + 1 ≤ ((digS.size : Nat) : Int)) ∧
    strAt digS (((n.val : Int)).fdiv ((2 : Int) ^ min (Int.toNat (4 : Int)) IntKind.u8.bits)).toNat = (hexD (n.val / 16)).toNat ∧
    (0 ≤ IntKind.u8.wrap (((BitVec.ofInt IntKind.u8.bits (n.val : Int) &&& BitVec.ofInt IntKind.u8.bits (15 : Int)).toNat : Nat) : Int) ∧ IntKind.u8.wrap (((BitVec.ofInt IntKind.u8.bits (n.val : Int) &&& BitVec.ofInt IntKind.u8.bits (15 : Int)).toNat : Nat) : Int) + 1 ≤ ((digS.size : Nat) : Int)) ∧
    strAt digS (IntKind.u8.wrap (((BitVec.ofInt IntKind.u8.bits (n.val : Int) &&& BitVec.ofInt IntKind.u8.bits (15 : Int)).toNat : Nat) : Int)).toNat = (hexD (n.val % 16)).toNat := by decide +kernel

theorem qu_round (n0 c0 : Nat) (f0 : Nat → List Value) (hf0 : ∀ r, r < n0 → ∀ v ∈ f0 r, Sc 0 v ∧ cellC v = true) (n1 c1 : Nat) (h : Nat → Int)
    (cap : Nat) (l : List UInt8) (hl : l.length ≤ 16777216) (h1 : IntB h l) (hln : l.length ≤ n1) (k : Nat) (S : VSt) (hJ : quJ n0 c0 f0 n1 c1 (fun j => [.int .u8 (h j)]) cap l k S) :
    Does Tryd.prog (roundOf Tryd.f11 0) S fun e S' => reshape 4 (quSel e S') (quKs e) [] quNc S' (roundR 0 (quJ n0 c0 f0 n1 c1 (fun j => [.int .u8 (h j)]) cap l) k (quK n0 c0 f0 n1 c1 (fun j => [.int .u8 (h j)]) l) e) := by
  obtain ⟨j, g, ht, hV, hj, hg⟩ := quJ_eq hJ
  refine Does.weaken (S' := ⟨quTm l.length cap j, quV n0 c0 f0 n1 c1 (fun j => [.int .u8 (h j)]) (34 :: qbs (l.take j)).length g⟩) ?_ ht hV.symm (.of rfl fun k o hk => ?_)
  · refine of_code (ctxG_ok (l := []) (cs := [(17, wbT), (18, wsT)]) (bs := []) .nil (.cons wb_ok (.cons ws_ok .nil))) (n := 200) .g ?_
    refine by_nf (B := bsplit (decide ((↑j : Int) < (↑l.length : Int))) (((0 : Int) ≤ (↑j : Int) ∧
      (↑j : Int) + (1 : Int) ≤ (↑l.length : Int)) ∧
      ((0 : Nat) + (↑j : Int).toNat).succ ≤ n1 ∧
      bsplit (h ((0 : Nat) + (↑j : Int).toNat) == (34 : Int)) (BPre ((34 : UInt8) :: qbs (List.take j l)).length ((34 : UInt8) :: qbs (List.take j l)).length g ∧
      IsByte (92 : Int) ∧
      ∀ (m : Nat) (g_1 : Nat → List Value), BByte ((34 : UInt8) :: qbs (List.take j l)).length g (92 : Int) m g_1 → BPre m m g_1 ∧
      IsByte (h ((0 : Nat) + (↑j : Int).toNat)) ∧
      ∀ (m_1 : Nat) (g : Nat → List Value), BByte m g_1 (h ((0 : Nat) + (↑j : Int).toNat)) m_1 g → (k = (0 : Nat) → False) ∧
      (Value.pointer (some { block := (2 : Nat), off := (0 : Nat) : Addr }) = Value.pointer (some { block := (2 : Nat), off := { block := (2 : Nat), off := (0 : Nat) : Addr }.off : Addr }) ∧
      Value.slice (some { block := (1 : Nat), off := (0 : Nat), spot := some (0 : Nat) : Addr }) l.length cap = Value.slice (some { block := (1 : Nat), off := { block := (1 : Nat), off := (0 : Nat), spot := some (0 : Nat) : Addr }.off, spot := some (0 : Nat) : Addr }) l.length cap ∧
      Value.int IntKind.i64 (↑l.length : Int) = Value.int IntKind.i64 (↑l.length : Int) ∧
      Value.int IntKind.i64 (IntKind.i64.wrap ((↑j : Int) + (1 : Int))) = Value.int IntKind.i64 (IntKind.i64.wrap ((↑j : Int) + (1 : Int))) ∧
      True) ∧
      QSt { tmps := [], V := [VObj.rows false (5 : TypeId) (1 : Nat) n0 c0 f0, VObj.rows true (5 : TypeId) (1 : Nat) n1 c1 fun j => [Value.int IntKind.u8 (h j)], VObj.cells (48 : TypeId) [Value.pointer (some { block := (2 : Nat), off := { block := (2 : Nat), off := (0 : Nat) : Addr }.off : Addr }), Value.slice (some { block := (4 : Nat), off := { block := (6 : Nat), off := (2 : Nat), spot := some (0 : Nat) : Addr }.off, spot := some (0 : Nat) : Addr }) m_1 (0 : Nat)], VObj.dead, VObj.vec (5 : TypeId) (1 : Nat) m_1 g] : VSt } { tmps := [], V := [VObj.rows false (5 : TypeId) (1 : Nat) n0 c0 f0, VObj.rows true (5 : TypeId) (1 : Nat) n1 c1 fun j => [Value.int IntKind.u8 (h j)], VObj.cells (48 : TypeId) [Value.pointer (some { block := (2 : Nat), off := (0 : Nat) : Addr }), Value.slice (some { block := (4 : Nat), off := (2 : Nat), spot := some (0 : Nat) : Addr }) m_1 (0 : Nat)], VObj.dead, VObj.vec (5 : TypeId) (1 : Nat) m_1 g] : VSt } ∧
      QuAt l (k - (1 : Nat)) (IntKind.i64.wrap ((↑j : Int) + (1 : Int))) m_1 m_1 g)
      (bsplit (h ((0 : Nat) + (↑j : Int).toNat) == (92 : Int)) (BPre ((34 : UInt8) :: qbs (List.take j l)).length ((34 : UInt8) :: qbs (List.take j l)).length g ∧
      IsByte (92 : Int) ∧
      ∀ (m : Nat) (g_1 : Nat → List Value), BByte ((34 : UInt8) :: qbs (List.take j l)).length g (92 : Int) m g_1 → BPre m m g_1 ∧
      IsByte (h ((0 : Nat) + (↑j : Int).toNat)) ∧
      ∀ (m_1 : Nat) (g : Nat → List Value), BByte m g_1 (h ((0 : Nat) + (↑j : Int).toNat)) m_1 g → (k = (0 : Nat) → False) ∧
      (Value.pointer (some { block := (2 : Nat), off := (0 : Nat) : Addr }) = Value.pointer (some { block := (2 : Nat), off := { block := (2 : Nat), off := (0 : Nat) : Addr }.off : Addr }) ∧
      Value.slice (some { block := (1 : Nat), off := (0 : Nat), spot := some (0 : Nat) : Addr }) l.length cap = Value.slice (some { block := (1 : Nat), off := { block := (1 : Nat), off := (0 : Nat), spot := some (0 : Nat) : Addr }.off, spot := some (0 : Nat) : Addr }) l.length cap ∧
      Value.int IntKind.i64 (↑l.length : Int) = Value.int IntKind.i64 (↑l.length : Int) ∧
      Value.int IntKind.i64 (IntKind.i64.wrap ((↑j : Int) + (1 : Int))) = Value.int IntKind.i64 (IntKind.i64.wrap ((↑j : Int) + (1 : Int))) ∧
      True) ∧
      QSt { tmps := [], V := [VObj.rows false (5 : TypeId) (1 : Nat) n0 c0 f0, VObj.rows true (5 : TypeId) (1 : Nat) n1 c1 fun j => [Value.int IntKind.u8 (h j)], VObj.cells (48 : TypeId) [Value.pointer (some { block := (2 : Nat), off := { block := (2 : Nat), off := (0 : Nat) : Addr }.off : Addr }), Value.slice (some { block := (4 : Nat), off := { block := (6 : Nat), off := (2 : Nat), spot := some (0 : Nat) : Addr }.off, spot := some (0 : Nat) : Addr }) m_1 (0 : Nat)], VObj.dead, VObj.vec (5 : TypeId) (1 : Nat) m_1 g] : VSt } { tmps := [], V := [VObj.rows false (5 : TypeId) (1 : Nat) n0 c0 f0, VObj.rows true (5 : TypeId) (1 : Nat) n1 c1 fun j => [Value.int IntKind.u8 (h j)], VObj.cells (48 : TypeId) [Value.pointer (some { block := (2 : Nat), off := (0 : Nat) : Addr }), Value.slice (some { block := (4 : Nat), off := (2 : Nat), spot := some (0 : Nat) : Addr }) m_1 (0 : Nat)], VObj.dead, VObj.vec (5 : TypeId) (1 : Nat) m_1 g] : VSt } ∧
      QuAt l (k - (1 : Nat)) (IntKind.i64.wrap ((↑j : Int) + (1 : Int))) m_1 m_1 g)
      (bsplit (h ((0 : Nat) + (↑j : Int).toNat) == (10 : Int)) (BPre ((34 : UInt8) :: qbs (List.take j l)).length ((34 : UInt8) :: qbs (List.take j l)).length g ∧
      (Nat.succ (0 : Nat) ≤ { data := #[(92 : UInt8), (110 : UInt8)] : ByteArray }.size ∧
      { data := #[(92 : UInt8), (110 : UInt8)] : ByteArray }.size.succ ≤ (4294967296 : Nat)) ∧
      ∀ (m : Nat) (g_1 : Nat → List Value), BStr ((34 : UInt8) :: qbs (List.take j l)).length g { data := #[(92 : UInt8), (110 : UInt8)] : ByteArray } m g_1 → (k = (0 : Nat) → False) ∧
      (Value.pointer (some { block := (2 : Nat), off := (0 : Nat) : Addr }) = Value.pointer (some { block := (2 : Nat), off := { block := (2 : Nat), off := (0 : Nat) : Addr }.off : Addr }) ∧
      Value.slice (some { block := (1 : Nat), off := (0 : Nat), spot := some (0 : Nat) : Addr }) l.length cap = Value.slice (some { block := (1 : Nat), off := { block := (1 : Nat), off := (0 : Nat), spot := some (0 : Nat) : Addr }.off, spot := some (0 : Nat) : Addr }) l.length cap ∧
      Value.int IntKind.i64 (↑l.length : Int) = Value.int IntKind.i64 (↑l.length : Int) ∧
      Value.int IntKind.i64 (IntKind.i64.wrap ((↑j : Int) + (1 : Int))) = Value.int IntKind.i64 (IntKind.i64.wrap ((↑j : Int) + (1 : Int))) ∧
      True) ∧
      QSt { tmps := [], V := [VObj.rows false (5 : TypeId) (1 : Nat) n0 c0 f0, VObj.rows true (5 : TypeId) (1 : Nat) n1 c1 fun j => [Value.int IntKind.u8 (h j)], VObj.cells (48 : TypeId) [Value.pointer (some { block := (2 : Nat), off := { block := (2 : Nat), off := (0 : Nat) : Addr }.off : Addr }), Value.slice (some { block := (4 : Nat), off := { block := (5 : Nat), off := (2 : Nat), spot := some (0 : Nat) : Addr }.off, spot := some (0 : Nat) : Addr }) m (0 : Nat)], VObj.dead, VObj.vec (5 : TypeId) (1 : Nat) m g_1] : VSt } { tmps := [], V := [VObj.rows false (5 : TypeId) (1 : Nat) n0 c0 f0, VObj.rows true (5 : TypeId) (1 : Nat) n1 c1 fun j => [Value.int IntKind.u8 (h j)], VObj.cells (48 : TypeId) [Value.pointer (some { block := (2 : Nat), off := (0 : Nat) : Addr }), Value.slice (some { block := (4 : Nat), off := (2 : Nat), spot := some (0 : Nat) : Addr }) m (0 : Nat)], VObj.dead, VObj.vec (5 : TypeId) (1 : Nat) m g_1] : VSt } ∧
      QuAt l (k - (1 : Nat)) (IntKind.i64.wrap ((↑j : Int) + (1 : Int))) m m g_1)
      (bsplit (h ((0 : Nat) + (↑j : Int).toNat) == (9 : Int)) (BPre ((34 : UInt8) :: qbs (List.take j l)).length ((34 : UInt8) :: qbs (List.take j l)).length g ∧
      (Nat.succ (0 : Nat) ≤ { data := #[(92 : UInt8), (116 : UInt8)] : ByteArray }.size ∧
      { data := #[(92 : UInt8), (116 : UInt8)] : ByteArray }.size.succ ≤ (4294967296 : Nat)) ∧
      ∀ (m : Nat) (g_1 : Nat → List Value), BStr ((34 : UInt8) :: qbs (List.take j l)).length g { data := #[(92 : UInt8), (116 : UInt8)] : ByteArray } m g_1 → (k = (0 : Nat) → False) ∧
      (Value.pointer (some { block := (2 : Nat), off := (0 : Nat) : Addr }) = Value.pointer (some { block := (2 : Nat), off := { block := (2 : Nat), off := (0 : Nat) : Addr }.off : Addr }) ∧
      Value.slice (some { block := (1 : Nat), off := (0 : Nat), spot := some (0 : Nat) : Addr }) l.length cap = Value.slice (some { block := (1 : Nat), off := { block := (1 : Nat), off := (0 : Nat), spot := some (0 : Nat) : Addr }.off, spot := some (0 : Nat) : Addr }) l.length cap ∧
      Value.int IntKind.i64 (↑l.length : Int) = Value.int IntKind.i64 (↑l.length : Int) ∧
      Value.int IntKind.i64 (IntKind.i64.wrap ((↑j : Int) + (1 : Int))) = Value.int IntKind.i64 (IntKind.i64.wrap ((↑j : Int) + (1 : Int))) ∧
      True) ∧
      QSt { tmps := [], V := [VObj.rows false (5 : TypeId) (1 : Nat) n0 c0 f0, VObj.rows true (5 : TypeId) (1 : Nat) n1 c1 fun j => [Value.int IntKind.u8 (h j)], VObj.cells (48 : TypeId) [Value.pointer (some { block := (2 : Nat), off := { block := (2 : Nat), off := (0 : Nat) : Addr }.off : Addr }), Value.slice (some { block := (4 : Nat), off := { block := (5 : Nat), off := (2 : Nat), spot := some (0 : Nat) : Addr }.off, spot := some (0 : Nat) : Addr }) m (0 : Nat)], VObj.dead, VObj.vec (5 : TypeId) (1 : Nat) m g_1] : VSt } { tmps := [], V := [VObj.rows false (5 : TypeId) (1 : Nat) n0 c0 f0, VObj.rows true (5 : TypeId) (1 : Nat) n1 c1 fun j => [Value.int IntKind.u8 (h j)], VObj.cells (48 : TypeId) [Value.pointer (some { block := (2 : Nat), off := (0 : Nat) : Addr }), Value.slice (some { block := (4 : Nat), off := (2 : Nat), spot := some (0 : Nat) : Addr }) m (0 : Nat)], VObj.dead, VObj.vec (5 : TypeId) (1 : Nat) m g_1] : VSt } ∧
      QuAt l (k - (1 : Nat)) (IntKind.i64.wrap ((↑j : Int) + (1 : Int))) m m g_1)
      (bsplit (decide (h ((0 : Nat) + (↑j : Int).toNat) < (32 : Int))) (BPre ((34 : UInt8) :: qbs (List.take j l)).length ((34 : UInt8) :: qbs (List.take j l)).length g ∧
      (Nat.succ (0 : Nat) ≤ { data := #[(92 : UInt8), (120 : UInt8)] : ByteArray }.size ∧
      { data := #[(92 : UInt8), (120 : UInt8)] : ByteArray }.size.succ ≤ (4294967296 : Nat)) ∧
      ∀ (m : Nat) (g_1 : Nat → List Value), BStr ((34 : UInt8) :: qbs (List.take j l)).length g { data := #[(92 : UInt8), (120 : UInt8)] : ByteArray } m g_1 → (0 : Int) ≤ (4 : Int) ∧
      ((0 : Int) ≤ (h ((0 : Nat) + (↑j : Int).toNat)).fdiv ((2 : Int) ^ min (Int.toNat (4 : Int)) IntKind.u8.bits) ∧
      (h ((0 : Nat) + (↑j : Int).toNat)).fdiv ((2 : Int) ^ min (Int.toNat (4 : Int)) IntKind.u8.bits) + (1 : Int) ≤ (↑{ data := #[(48 : UInt8), (49 : UInt8), (50 : UInt8), (51 : UInt8), (52 : UInt8), (53 : UInt8), (54 : UInt8), (55 : UInt8), (56 : UInt8), (57 : UInt8), (97 : UInt8), (98 : UInt8), (99 : UInt8), (100 : UInt8), (101 : UInt8), (102 : UInt8)] : ByteArray }.size : Int)) ∧
      BPre m m g_1 ∧
      IsByte (↑(strAt { data := #[(48 : UInt8), (49 : UInt8), (50 : UInt8), (51 : UInt8), (52 : UInt8), (53 : UInt8), (54 : UInt8), (55 : UInt8), (56 : UInt8), (57 : UInt8), (97 : UInt8), (98 : UInt8), (99 : UInt8), (100 : UInt8), (101 : UInt8), (102 : UInt8)] : ByteArray } ((h ((0 : Nat) + (↑j : Int).toNat)).fdiv ((2 : Int) ^ min (Int.toNat (4 : Int)) IntKind.u8.bits)).toNat) : Int) ∧
      ∀ (m_1 : Nat) (g : Nat → List Value), BByte m g_1 (↑(strAt { data := #[(48 : UInt8), (49 : UInt8), (50 : UInt8), (51 : UInt8), (52 : UInt8), (53 : UInt8), (54 : UInt8), (55 : UInt8), (56 : UInt8), (57 : UInt8), (97 : UInt8), (98 : UInt8), (99 : UInt8), (100 : UInt8), (101 : UInt8), (102 : UInt8)] : ByteArray } ((h ((0 : Nat) + (↑j : Int).toNat)).fdiv ((2 : Int) ^ min (Int.toNat (4 : Int)) IntKind.u8.bits)).toNat) : Int) m_1 g → ((0 : Int) ≤ IntKind.u8.wrap (↑(BitVec.ofInt IntKind.u8.bits (h ((0 : Nat) + (↑j : Int).toNat)) &&& BitVec.ofInt IntKind.u8.bits (15 : Int)).toNat : Int) ∧
      IntKind.u8.wrap (↑(BitVec.ofInt IntKind.u8.bits (h ((0 : Nat) + (↑j : Int).toNat)) &&& BitVec.ofInt IntKind.u8.bits (15 : Int)).toNat : Int) + (1 : Int) ≤ (↑{ data := #[(48 : UInt8), (49 : UInt8), (50 : UInt8), (51 : UInt8), (52 : UInt8), (53 : UInt8), (54 : UInt8), (55 : UInt8), (56 : UInt8), (57 : UInt8), (97 : UInt8), (98 : UInt8), (99 : UInt8), (100 : UInt8), (101 : UInt8), (102 : UInt8)] : ByteArray }.size : Int)) ∧
      BPre m_1 m_1 g ∧
      IsByte (↑(strAt { data := #[(48 : UInt8), (49 : UInt8), (50 : UInt8), (51 : UInt8), (52 : UInt8), (53 : UInt8), (54 : UInt8), (55 : UInt8), (56 : UInt8), (57 : UInt8), (97 : UInt8), (98 : UInt8), (99 : UInt8), (100 : UInt8), (101 : UInt8), (102 : UInt8)] : ByteArray } (IntKind.u8.wrap (↑(BitVec.ofInt IntKind.u8.bits (h ((0 : Nat) + (↑j : Int).toNat)) &&& BitVec.ofInt IntKind.u8.bits (15 : Int)).toNat : Int)).toNat) : Int) ∧
      ∀ (m : Nat) (g_2 : Nat → List Value), BByte m_1 g (↑(strAt { data := #[(48 : UInt8), (49 : UInt8), (50 : UInt8), (51 : UInt8), (52 : UInt8), (53 : UInt8), (54 : UInt8), (55 : UInt8), (56 : UInt8), (57 : UInt8), (97 : UInt8), (98 : UInt8), (99 : UInt8), (100 : UInt8), (101 : UInt8), (102 : UInt8)] : ByteArray } (IntKind.u8.wrap (↑(BitVec.ofInt IntKind.u8.bits (h ((0 : Nat) + (↑j : Int).toNat)) &&& BitVec.ofInt IntKind.u8.bits (15 : Int)).toNat : Int)).toNat) : Int) m g_2 → (k = (0 : Nat) → False) ∧
      (Value.pointer (some { block := (2 : Nat), off := (0 : Nat) : Addr }) = Value.pointer (some { block := (2 : Nat), off := { block := (2 : Nat), off := (0 : Nat) : Addr }.off : Addr }) ∧
      Value.slice (some { block := (1 : Nat), off := (0 : Nat), spot := some (0 : Nat) : Addr }) l.length cap = Value.slice (some { block := (1 : Nat), off := { block := (1 : Nat), off := (0 : Nat), spot := some (0 : Nat) : Addr }.off, spot := some (0 : Nat) : Addr }) l.length cap ∧
      Value.int IntKind.i64 (↑l.length : Int) = Value.int IntKind.i64 (↑l.length : Int) ∧
      Value.int IntKind.i64 (IntKind.i64.wrap ((↑j : Int) + (1 : Int))) = Value.int IntKind.i64 (IntKind.i64.wrap ((↑j : Int) + (1 : Int))) ∧
      True) ∧
      QSt { tmps := [], V := [VObj.rows false (5 : TypeId) (1 : Nat) n0 c0 f0, VObj.rows true (5 : TypeId) (1 : Nat) n1 c1 fun j => [Value.int IntKind.u8 (h j)], VObj.cells (48 : TypeId) [Value.pointer (some { block := (2 : Nat), off := { block := (2 : Nat), off := (0 : Nat) : Addr }.off : Addr }), Value.slice (some { block := (4 : Nat), off := { block := (7 : Nat), off := (2 : Nat), spot := some (0 : Nat) : Addr }.off, spot := some (0 : Nat) : Addr }) m (0 : Nat)], VObj.dead, VObj.vec (5 : TypeId) (1 : Nat) m g_2] : VSt } { tmps := [], V := [VObj.rows false (5 : TypeId) (1 : Nat) n0 c0 f0, VObj.rows true (5 : TypeId) (1 : Nat) n1 c1 fun j => [Value.int IntKind.u8 (h j)], VObj.cells (48 : TypeId) [Value.pointer (some { block := (2 : Nat), off := (0 : Nat) : Addr }), Value.slice (some { block := (4 : Nat), off := (2 : Nat), spot := some (0 : Nat) : Addr }) m (0 : Nat)], VObj.dead, VObj.vec (5 : TypeId) (1 : Nat) m g_2] : VSt } ∧
      QuAt l (k - (1 : Nat)) (IntKind.i64.wrap ((↑j : Int) + (1 : Int))) m m g_2)
      (bsplit (decide (h ((0 : Nat) + (↑j : Int).toNat) > (126 : Int))) (BPre ((34 : UInt8) :: qbs (List.take j l)).length ((34 : UInt8) :: qbs (List.take j l)).length g ∧
      (Nat.succ (0 : Nat) ≤ { data := #[(92 : UInt8), (120 : UInt8)] : ByteArray }.size ∧
      { data := #[(92 : UInt8), (120 : UInt8)] : ByteArray }.size.succ ≤ (4294967296 : Nat)) ∧
      ∀ (m : Nat) (g_1 : Nat → List Value), BStr ((34 : UInt8) :: qbs (List.take j l)).length g { data := #[(92 : UInt8), (120 : UInt8)] : ByteArray } m g_1 → (0 : Int) ≤ (4 : Int) ∧
      ((0 : Int) ≤ (h ((0 : Nat) + (↑j : Int).toNat)).fdiv ((2 : Int) ^ min (Int.toNat (4 : Int)) IntKind.u8.bits) ∧
      (h ((0 : Nat) + (↑j : Int).toNat)).fdiv ((2 : Int) ^ min (Int.toNat (4 : Int)) IntKind.u8.bits) + (1 : Int) ≤ (↑{ data := #[(48 : UInt8), (49 : UInt8), (50 : UInt8), (51 : UInt8), (52 : UInt8), (53 : UInt8), (54 : UInt8), (55 : UInt8), (56 : UInt8), (57 : UInt8), (97 : UInt8), (98 : UInt8), (99 : UInt8), (100 : UInt8), (101 : UInt8), (102 : UInt8)] : ByteArray }.size : Int)) ∧
      BPre m m g_1 ∧
      IsByte (↑(strAt { data := #[(48 : UInt8), (49 : UInt8), (50 : UInt8), (51 : UInt8), (52 : UInt8), (53 : UInt8), (54 : UInt8), (55 : UInt8), (56 : UInt8), (57 : UInt8), (97 : UInt8), (98 : UInt8), (99 : UInt8), (100 : UInt8), (101 : UInt8), (102 : UInt8)] : ByteArray } ((h ((0 : Nat) + (↑j : Int).toNat)).fdiv ((2 : Int) ^ min (Int.toNat (4 : Int)) IntKind.u8.bits)).toNat) : Int) ∧
      ∀ (m_1 : Nat) (g : Nat → List Value), BByte m g_1 (↑(strAt { data := #[(48 : UInt8), (49 : UInt8), (50 : UInt8), (51 : UInt8), (52 : UInt8), (53 : UInt8), (54 : UInt8), (55 : UInt8), (56 : UInt8), (57 : UInt8), (97 : UInt8), (98 : UInt8), (99 : UInt8), (100 : UInt8), (101 : UInt8), (102 : UInt8)] : ByteArray } ((h ((0 : Nat) + (↑j : Int).toNat)).fdiv ((2 : Int) ^ min (Int.toNat (4 : Int)) IntKind.u8.bits)).toNat) : Int) m_1 g → ((0 : Int) ≤ IntKind.u8.wrap (↑(BitVec.ofInt IntKind.u8.bits (h ((0 : Nat) + (↑j : Int).toNat)) &&& BitVec.ofInt IntKind.u8.bits (15 : Int)).toNat : Int) ∧
      IntKind.u8.wrap (↑(BitVec.ofInt IntKind.u8.bits (h ((0 : Nat) + (↑j : Int).toNat)) &&& BitVec.ofInt IntKind.u8.bits (15 : Int)).toNat : Int) + (1 : Int) ≤ (↑{ data := #[(48 : UInt8), (49 : UInt8), (50 : UInt8), (51 : UInt8), (52 : UInt8), (53 : UInt8), (54 : UInt8), (55 : UInt8), (56 : UInt8), (57 : UInt8), (97 : UInt8), (98 : UInt8), (99 : UInt8), (100 : UInt8), (101 : UInt8), (102 : UInt8)] : ByteArray }.size : Int)) ∧
      BPre m_1 m_1 g ∧
      IsByte (↑(strAt { data := #[(48 : UInt8), (49 : UInt8), (50 : UInt8), (51 : UInt8), (52 : UInt8), (53 : UInt8), (54 : UInt8), (55 : UInt8), (56 : UInt8), (57 : UInt8), (97 : UInt8), (98 : UInt8), (99 : UInt8), (100 : UInt8), (101 : UInt8), (102 : UInt8)] : ByteArray } (IntKind.u8.wrap (↑(BitVec.ofInt IntKind.u8.bits (h ((0 : Nat) + (↑j : Int).toNat)) &&& BitVec.ofInt IntKind.u8.bits (15 : Int)).toNat : Int)).toNat) : Int) ∧
      ∀ (m : Nat) (g_2 : Nat → List Value), BByte m_1 g (↑(strAt { data := #[(48 : UInt8), (49 : UInt8), (50 : UInt8), (51 : UInt8), (52 : UInt8), (53 : UInt8), (54 : UInt8), (55 : UInt8), (56 : UInt8), (57 : UInt8), (97 : UInt8), (98 : UInt8), (99 : UInt8), (100 : UInt8), (101 : UInt8), (102 : UInt8)] : ByteArray } (IntKind.u8.wrap (↑(BitVec.ofInt IntKind.u8.bits (h ((0 : Nat) + (↑j : Int).toNat)) &&& BitVec.ofInt IntKind.u8.bits (15 : Int)).toNat : Int)).toNat) : Int) m g_2 → (k = (0 : Nat) → False) ∧
      (Value.pointer (some { block := (2 : Nat), off := (0 : Nat) : Addr }) = Value.pointer (some { block := (2 : Nat), off := { block := (2 : Nat), off := (0 : Nat) : Addr }.off : Addr }) ∧
      Value.slice (some { block := (1 : Nat), off := (0 : Nat), spot := some (0 : Nat) : Addr }) l.length cap = Value.slice (some { block := (1 : Nat), off := { block := (1 : Nat), off := (0 : Nat), spot := some (0 : Nat) : Addr }.off, spot := some (0 : Nat) : Addr }) l.length cap ∧
      Value.int IntKind.i64 (↑l.length : Int) = Value.int IntKind.i64 (↑l.length : Int) ∧
      Value.int IntKind.i64 (IntKind.i64.wrap ((↑j : Int) + (1 : Int))) = Value.int IntKind.i64 (IntKind.i64.wrap ((↑j : Int) + (1 : Int))) ∧
      True) ∧
      QSt { tmps := [], V := [VObj.rows false (5 : TypeId) (1 : Nat) n0 c0 f0, VObj.rows true (5 : TypeId) (1 : Nat) n1 c1 fun j => [Value.int IntKind.u8 (h j)], VObj.cells (48 : TypeId) [Value.pointer (some { block := (2 : Nat), off := { block := (2 : Nat), off := (0 : Nat) : Addr }.off : Addr }), Value.slice (some { block := (4 : Nat), off := { block := (7 : Nat), off := (2 : Nat), spot := some (0 : Nat) : Addr }.off, spot := some (0 : Nat) : Addr }) m (0 : Nat)], VObj.dead, VObj.vec (5 : TypeId) (1 : Nat) m g_2] : VSt } { tmps := [], V := [VObj.rows false (5 : TypeId) (1 : Nat) n0 c0 f0, VObj.rows true (5 : TypeId) (1 : Nat) n1 c1 fun j => [Value.int IntKind.u8 (h j)], VObj.cells (48 : TypeId) [Value.pointer (some { block := (2 : Nat), off := (0 : Nat) : Addr }), Value.slice (some { block := (4 : Nat), off := (2 : Nat), spot := some (0 : Nat) : Addr }) m (0 : Nat)], VObj.dead, VObj.vec (5 : TypeId) (1 : Nat) m g_2] : VSt } ∧
      QuAt l (k - (1 : Nat)) (IntKind.i64.wrap ((↑j : Int) + (1 : Int))) m m g_2) (BPre ((34 : UInt8) :: qbs (List.take j l)).length ((34 : UInt8) :: qbs (List.take j l)).length g ∧
      IsByte (h ((0 : Nat) + (↑j : Int).toNat)) ∧
      ∀ (m : Nat) (g_1 : Nat → List Value), BByte ((34 : UInt8) :: qbs (List.take j l)).length g (h ((0 : Nat) + (↑j : Int).toNat)) m g_1 → (k = (0 : Nat) → False) ∧
      (Value.pointer (some { block := (2 : Nat), off := (0 : Nat) : Addr }) = Value.pointer (some { block := (2 : Nat), off := { block := (2 : Nat), off := (0 : Nat) : Addr }.off : Addr }) ∧
      Value.slice (some { block := (1 : Nat), off := (0 : Nat), spot := some (0 : Nat) : Addr }) l.length cap = Value.slice (some { block := (1 : Nat), off := { block := (1 : Nat), off := (0 : Nat), spot := some (0 : Nat) : Addr }.off, spot := some (0 : Nat) : Addr }) l.length cap ∧
      Value.int IntKind.i64 (↑l.length : Int) = Value.int IntKind.i64 (↑l.length : Int) ∧
      Value.int IntKind.i64 (IntKind.i64.wrap ((↑j : Int) + (1 : Int))) = Value.int IntKind.i64 (IntKind.i64.wrap ((↑j : Int) + (1 : Int))) ∧
      True) ∧
      QSt { tmps := [], V := [VObj.rows false (5 : TypeId) (1 : Nat) n0 c0 f0, VObj.rows true (5 : TypeId) (1 : Nat) n1 c1 fun j => [Value.int IntKind.u8 (h j)], VObj.cells (48 : TypeId) [Value.pointer (some { block := (2 : Nat), off := { block := (2 : Nat), off := (0 : Nat) : Addr }.off : Addr }), Value.slice (some { block := (4 : Nat), off := { block := (5 : Nat), off := (2 : Nat), spot := some (0 : Nat) : Addr }.off, spot := some (0 : Nat) : Addr }) m (0 : Nat)], VObj.dead, VObj.vec (5 : TypeId) (1 : Nat) m g_1] : VSt } { tmps := [], V := [VObj.rows false (5 : TypeId) (1 : Nat) n0 c0 f0, VObj.rows true (5 : TypeId) (1 : Nat) n1 c1 fun j => [Value.int IntKind.u8 (h j)], VObj.cells (48 : TypeId) [Value.pointer (some { block := (2 : Nat), off := (0 : Nat) : Addr }), Value.slice (some { block := (4 : Nat), off := (2 : Nat), spot := some (0 : Nat) : Addr }) m (0 : Nat)], VObj.dead, VObj.vec (5 : TypeId) (1 : Nat) m g_1] : VSt } ∧
      QuAt l (k - (1 : Nat)) (IntKind.i64.wrap ((↑j : Int) + (1 : Int))) m m g_1))))))) (QuEnd l ((34 : UInt8) :: qbs (List.take j l)).length ((34 : UInt8) :: qbs (List.take j l)).length g ∧
      QSt { tmps := [unk, unk, unk, Value.pointer (some { block := (2 : Nat), off := { block := (2 : Nat), off := (0 : Nat) : Addr }.off : Addr }), unk, unk, unk, unk, unk, unk, unk, unk, unk, unk, unk, unk, unk, unk, unk, unk, unk, unk, unk, unk, unk, unk, unk, unk, unk, unk, unk, unk, unk, unk, unk, unk, unk, unk, unk, unk, unk, unk, unk, unk, unk, unk, unk, unk, unk, unk, unk, unk], V := [VObj.rows false (5 : TypeId) (1 : Nat) n0 c0 f0, VObj.rows true (5 : TypeId) (1 : Nat) n1 c1 fun j => [Value.int IntKind.u8 (h j)], VObj.cells (48 : TypeId) [Value.pointer (some { block := (2 : Nat), off := { block := (2 : Nat), off := (0 : Nat) : Addr }.off : Addr }), Value.slice (some { block := (4 : Nat), off := { block := (4 : Nat), off := (2 : Nat), spot := some (0 : Nat) : Addr }.off, spot := some (0 : Nat) : Addr }) ((34 : UInt8) :: qbs (List.take j l)).length (0 : Nat)], VObj.dead, VObj.vec (5 : TypeId) (1 : Nat) ((34 : UInt8) :: qbs (List.take j l)).length g] : VSt } { tmps := [unk, unk, unk, Value.pointer (some { block := (2 : Nat), off := (0 : Nat) : Addr }), unk, unk, unk, unk, unk, unk, unk, unk, unk, unk, unk, unk, unk, unk, unk, unk, unk, unk, unk, unk, unk, unk, unk, unk, unk, unk, unk, unk, unk, unk, unk, unk, unk, unk, unk, unk, unk, unk, unk, unk, unk, unk, unk, unk, unk, unk, unk, unk], V := [VObj.rows false (5 : TypeId) (1 : Nat) n0 c0 f0, VObj.rows true (5 : TypeId) (1 : Nat) n1 c1 fun j => [Value.int IntKind.u8 (h j)], VObj.cells (48 : TypeId) [Value.pointer (some { block := (2 : Nat), off := (0 : Nat) : Addr }), Value.slice (some { block := (4 : Nat), off := (2 : Nat), spot := some (0 : Nat) : Addr }) ((34 : UInt8) :: qbs (List.take j l)).length (0 : Nat)], VObj.dead, VObj.vec (5 : TypeId) (1 : Nat) ((34 : UInt8) :: qbs (List.take j l)).length g] : VSt })) (by kernel_rfl) ?_
    refine bsplit_iff.2 ⟨fun hlt => ?_, fun hge => ?_⟩
    · have hlt : j < l.length := by simp only [decide_eq_true_eq] at hlt; omega
      have hc : h (0 + (j : Int).toNat) = ((l[j]).toNat : Int) := by rw [Int.toNat_natCast, Nat.zero_add]; exact h1.at_ j l[j] (by simp [hlt])
      have hw : IntKind.i64.wrap ((j : Int) + 1) = ((j + 1 : Nat) : Int) := by rw [w64 _ (by omega)]; rfl
      have htake : l.take (j + 1) = l.take j ++ [l[j]] := by rw [List.take_add_one]; simp [hlt]
      rw [hc, hw]
      have hT : (34 :: qbs (l.take j)).length ≤ 4 * j + 1 := by
        have := qbs_len (l.take j)
        simp only [List.length_take] at this
        simp only [List.length_cons]
        omega
      generalize hTe : (34 :: qbs (l.take j)) = T at *
      have fin : ∀ (m : Nat) (g' : Nat → List Value), m = (T ++ qb l[j]).length → RowB g' (T ++ qb l[j]) → QuAt l (k - 1) ((j + 1 : Nat) : Int) m m g' := by
        intro m g' hm hr
        have e : T ++ qb l[j] = 34 :: qbs (l.take (j + 1)) := by
          rw [htake, qbs_app, ← hTe]; simp [qbs]
        rw [e] at hm hr
        exact ⟨j + 1, rfl, by omega, hm, rfl, hr⟩
      generalize l[j] = c at *
      have hcl := c.toNat_lt
      refine ⟨⟨by omega, by omega⟩, by omega, bsplit_iff.2 ⟨fun e34 => ?_, fun n34 => bsplit_iff.2 ⟨fun e92 => ?_, fun n92 => bsplit_iff.2 ⟨fun e10 => ?_, fun n10 => bsplit_iff.2 ⟨fun e9 => ?_, fun n9 => bsplit_iff.2 ⟨fun e32 => ?_, fun n32 => bsplit_iff.2 ⟨fun e126 => ?_, fun n126 => ?_⟩⟩⟩⟩⟩⟩⟩
      · have hq : qb c = [92, c] := by unfold qb; rw [if_pos (.inl (UInt8.toNat_inj.1 (show c.toNat = 34 by have := beq_iff_eq.1 e34; omega)))]
        refine ⟨.of hg (by omega), ⟨92, rfl⟩, fun m g1 hb => ?_⟩
        obtain ⟨rfl, hr⟩ := hb.app hg (b := 92) rfl
        refine ⟨.of hr (by rw [List.length_append]; simp only [List.length_cons, List.length_nil]; omega), ⟨c, rfl⟩, fun m2 g2 hb2 => ?_⟩
        obtain ⟨rfl, hr2⟩ := hb2.app hr (b := c) rfl
        exact ⟨by omega, ⟨rfl, rfl, rfl, rfl, trivial⟩, ⟨rfl⟩, fin _ _ (by rw [hq]; simp) (by rw [hq]; simpa using hr2)⟩
      · have hq : qb c = [92, c] := by unfold qb; rw [if_pos (.inr (UInt8.toNat_inj.1 (show c.toNat = 92 by have := beq_iff_eq.1 e92; omega)))]
        refine ⟨.of hg (by omega), ⟨92, rfl⟩, fun m g1 hb => ?_⟩
        obtain ⟨rfl, hr⟩ := hb.app hg (b := 92) rfl
        refine ⟨.of hr (by rw [List.length_append]; simp only [List.length_cons, List.length_nil]; omega), ⟨c, rfl⟩, fun m2 g2 hb2 => ?_⟩
        obtain ⟨rfl, hr2⟩ := hb2.app hr (b := c) rfl
        exact ⟨by omega, ⟨rfl, rfl, rfl, rfl, trivial⟩, ⟨rfl⟩, fin _ _ (by rw [hq]; simp) (by rw [hq]; simpa using hr2)⟩
      · have k34 : ¬ c.toNat = 34 := fun e => by rw [e] at n34; exact absurd n34 (by decide)
        have k92 : ¬ c.toNat = 92 := fun e => by rw [e] at n92; exact absurd n92 (by decide)
        have m1 : ¬ (c = 34 ∨ c = 92) := fun e => e.elim (fun e => k34 (by rw [e]; rfl)) (fun e => k92 (by rw [e]; rfl))
        have hq : qb c = [92, 110] := by unfold qb; rw [if_neg m1, if_pos (UInt8.toNat_inj.1 (show c.toNat = 10 by have := beq_iff_eq.1 e10; omega))]
        refine ⟨.of hg (by omega), ⟨by decide, by decide⟩, fun m g1 hb => ?_⟩
        obtain ⟨rfl, hr⟩ := hb.app hg
        exact ⟨by omega, ⟨rfl, rfl, rfl, rfl, trivial⟩, ⟨rfl⟩, fin _ _ (by rw [hq]; rfl) (by rw [hq]; exact hr)⟩
      · have k34 : ¬ c.toNat = 34 := fun e => by rw [e] at n34; exact absurd n34 (by decide)
        have k92 : ¬ c.toNat = 92 := fun e => by rw [e] at n92; exact absurd n92 (by decide)
        have m1 : ¬ (c = 34 ∨ c = 92) := fun e => e.elim (fun e => k34 (by rw [e]; rfl)) (fun e => k92 (by rw [e]; rfl))
        have m10 : ¬ c = 10 := fun e => by rw [e] at n10; exact absurd n10 (by decide)
        have hq : qb c = [92, 116] := by unfold qb; rw [if_neg m1, if_neg m10, if_pos (UInt8.toNat_inj.1 (show c.toNat = 9 by have := beq_iff_eq.1 e9; omega))]
        refine ⟨.of hg (by omega), ⟨by decide, by decide⟩, fun m g1 hb => ?_⟩
        obtain ⟨rfl, hr⟩ := hb.app hg
        exact ⟨by omega, ⟨rfl, rfl, rfl, rfl, trivial⟩, ⟨rfl⟩, fin _ _ (by rw [hq]; rfl) (by rw [hq]; exact hr)⟩
      · have k34 : ¬ c.toNat = 34 := fun e => by rw [e] at n34; exact absurd n34 (by decide)
        have k92 : ¬ c.toNat = 92 := fun e => by rw [e] at n92; exact absurd n92 (by decide)
        have m1 : ¬ (c = 34 ∨ c = 92) := fun e => e.elim (fun e => k34 (by rw [e]; rfl)) (fun e => k92 (by rw [e]; rfl))
        have m10 : ¬ c = 10 := fun e => by rw [e] at n10; exact absurd n10 (by decide)
        have m9 : ¬ c = 9 := fun e => by rw [e] at n9; exact absurd n9 (by decide)
        have hq : qb c = [92, 120, hexD (c.toNat / 16), hexD (c.toNat % 16)] := by unfold qb; rw [if_neg m1, if_neg m10, if_neg m9, if_pos (.inl (by have := of_decide_eq_true e32; omega))]
        refine ⟨.of hg (by omega), ⟨by decide, by decide⟩, fun m g1 hb => ?_⟩
        obtain ⟨hm, hr⟩ := hb.app hg
        have hbx : bytesL (⟨#[92, 120]⟩ : ByteArray) = [92, 120] := rfl
        rw [hbx] at hm hr
        subst hm
        have hx := hex_all ⟨c.toNat, hcl⟩
        unfold digS at hx
        obtain ⟨b1, s1, b2, s2⟩ := hx
        refine ⟨by decide, b1, .of hr (by rw [List.length_append]; simp only [List.length_cons, List.length_nil]; omega), by rw [s1]; exact ⟨_, rfl⟩, fun m1 g2 hb2 => ?_⟩
        obtain ⟨rfl, hr2⟩ := hb2.app hr (b := hexD (c.toNat / 16)) (by rw [s1])
        refine ⟨b2, .of hr2 (by rw [List.length_append, List.length_append]; simp only [List.length_cons, List.length_nil]; omega), by rw [s2]; exact ⟨_, rfl⟩, fun m3 g3 hb3 => ?_⟩
        obtain ⟨rfl, hr3⟩ := hb3.app hr2 (b := hexD (c.toNat % 16)) (by rw [s2])
        exact ⟨by omega, ⟨rfl, rfl, rfl, rfl, trivial⟩, ⟨rfl⟩, fin _ _ (by rw [hq]; simp) (by rw [hq]; simpa using hr3)⟩
      · have k34 : ¬ c.toNat = 34 := fun e => by rw [e] at n34; exact absurd n34 (by decide)
        have k92 : ¬ c.toNat = 92 := fun e => by rw [e] at n92; exact absurd n92 (by decide)
        have m1 : ¬ (c = 34 ∨ c = 92) := fun e => e.elim (fun e => k34 (by rw [e]; rfl)) (fun e => k92 (by rw [e]; rfl))
        have m10 : ¬ c = 10 := fun e => by rw [e] at n10; exact absurd n10 (by decide)
        have m9 : ¬ c = 9 := fun e => by rw [e] at n9; exact absurd n9 (by decide)
        have hq : qb c = [92, 120, hexD (c.toNat / 16), hexD (c.toNat % 16)] := by unfold qb; rw [if_neg m1, if_neg m10, if_neg m9, if_pos (.inr (by have := of_decide_eq_true e126; omega))]
        refine ⟨.of hg (by omega), ⟨by decide, by decide⟩, fun m g1 hb => ?_⟩
        obtain ⟨hm, hr⟩ := hb.app hg
        have hbx : bytesL (⟨#[92, 120]⟩ : ByteArray) = [92, 120] := rfl
        rw [hbx] at hm hr
        subst hm
        have hx := hex_all ⟨c.toNat, hcl⟩
        unfold digS at hx
        obtain ⟨b1, s1, b2, s2⟩ := hx
        refine ⟨by decide, b1, .of hr (by rw [List.length_append]; simp only [List.length_cons, List.length_nil]; omega), by rw [s1]; exact ⟨_, rfl⟩, fun m1 g2 hb2 => ?_⟩
        obtain ⟨rfl, hr2⟩ := hb2.app hr (b := hexD (c.toNat / 16)) (by rw [s1])
        refine ⟨b2, .of hr2 (by rw [List.length_append, List.length_append]; simp only [List.length_cons, List.length_nil]; omega), by rw [s2]; exact ⟨_, rfl⟩, fun m3 g3 hb3 => ?_⟩
        obtain ⟨rfl, hr3⟩ := hb3.app hr2 (b := hexD (c.toNat % 16)) (by rw [s2])
        exact ⟨by omega, ⟨rfl, rfl, rfl, rfl, trivial⟩, ⟨rfl⟩, fin _ _ (by rw [hq]; simp) (by rw [hq]; simpa using hr3)⟩
      · have k34 : ¬ c.toNat = 34 := fun e => by rw [e] at n34; exact absurd n34 (by decide)
        have k92 : ¬ c.toNat = 92 := fun e => by rw [e] at n92; exact absurd n92 (by decide)
        have m1 : ¬ (c = 34 ∨ c = 92) := fun e => e.elim (fun e => k34 (by rw [e]; rfl)) (fun e => k92 (by rw [e]; rfl))
        have m10 : ¬ c = 10 := fun e => by rw [e] at n10; exact absurd n10 (by decide)
        have m9 : ¬ c = 9 := fun e => by rw [e] at n9; exact absurd n9 (by decide)
        have hq : qb c = [c] := by
          unfold qb
          rw [if_neg m1, if_neg m10, if_neg m9, if_neg]
          have := of_decide_eq_false n32
          have := of_decide_eq_false n126
          omega
        refine ⟨.of hg (by omega), ⟨c, rfl⟩, fun m g1 hb => ?_⟩
        obtain ⟨rfl, hr⟩ := hb.app hg (b := c) rfl
        exact ⟨by omega, ⟨rfl, rfl, rfl, rfl, trivial⟩, ⟨rfl⟩, fin _ _ (by rw [hq]) (by rw [hq]; exact hr)⟩
    · have hge : ¬ j < l.length := by simp only [decide_eq_false_iff_not] at hge; omega
      have hj2 : j = l.length := by omega
      have e : l.take j = l := by rw [hj2]; exact List.take_length
      rw [e] at hg ⊢
      exact ⟨⟨rfl, rfl, hg⟩, ⟨rfl⟩⟩
  · match k, hk with
    | 0, hk => cases hk; exact hf0
    | 1, hk => cases hk; intro r _ v hv; simp at hv; subst hv; exact ⟨.plain rfl, rfl⟩
    | 2, hk => cases hk; exact fun v hv => scB_ok 6 v (List.all_eq_true.1 (show ([Value.pointer (some ⟨2, 0, none⟩), .slice (some ⟨4, 2, some 0⟩) (34 :: qbs (l.take j)).length 0]).all (scB 5 6) = true from rfl) v hv)
    | 3, hk => cases hk; trivial
    | 4, hk => cases hk; exact hg.sc
end Go.Sh
