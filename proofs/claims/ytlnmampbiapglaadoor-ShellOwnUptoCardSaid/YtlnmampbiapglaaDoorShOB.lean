/- ShellOwn: the last loop's round: all is looked at. -/
import Derived.Test.YtlnmampbiapglaaDoorShOA
set_option linter.unusedSimpArgs false
set_option linter.unusedSectionVars false
set_option linter.unusedVariables false
set_option maxRecDepth 100000
namespace Go.Sh
open Go Go.X Go.Proofs
variable [WI]

def lkTm (n i m : Nat) (j : Int) : List Value := [unk, unk, unk, unk, unk, .slice (some ⟨1, 1, some 0⟩) n 0, s2 n, unk, unk, unk, unk, unk, unk, unk, unk, unk, unk, unk, unk, unk, .int .i64 i, .int .i64 m, .int .i64 j] ++ List.replicate 210 unk
def laTm (n : Nat) (i : Int) : List Value := [unk, unk, unk, unk, unk, .slice (some ⟨1, 1, some 0⟩) n 0, s2 n, unk, unk, unk, unk, unk, unk, unk, unk, unk, unk, unk, unk, unk, .int .i64 i] ++ List.replicate 212 unk
def vL (N n : Nat) (ls : Nat → ByteArray) (f g : Nat → List Value) (i m : Nat) (h1 h2 : Nat → ByteArray) : VW :=
  [a0 N ls, kh n f i (.slice (some ⟨3, 3, some 0⟩) m 0), kh n g i (.slice (some ⟨4, 3, some 0⟩) (m + 71) 0), .arg 9 1 m fun r => [.string (h1 r)], .arg 9 1 (m + 71) fun r => [.string (h2 r)]]

structure LkAt (m k : Nat) (j : Int) : Prop where
  ex : ∃ j' : Nat, j = j' ∧ j' + k = m + 71
def lkJ (N n : Nat) (ls : Nat → ByteArray) (f g : Nat → List Value) (i m : Nat) (h1 h2 : Nat → ByteArray) (k : Nat) (S : VSt) : Prop :=
  match nth undef S.tmps 22 with
  | .int .i64 j => leT (lkTm n i m j) S.tmps ∧ QSt ⟨[], S.V⟩ ⟨[], vL N n ls f g i m h1 h2⟩ ∧ LkAt m k j
  | _ => False
def lkE (n i : Nat) : List Value := laTm n i
def lkK (N n : Nat) (ls : Nat → ByteArray) (f g : Nat → List Value) (i m : Nat) (h1 h2 : Nat → ByteArray) (e : Exit) (S : VSt) : Prop :=
  match e with
  | .normal => QSt S ⟨laTm n i, vL N n ls f g i m h1 h2⟩
  | _ => False
def lkKs (e : Exit) : List Nat := match e with | .normal => [5, 6, 20, 21, 22] | .exit _ => [5, 6, 20] | _ => []

theorem lk_round (N n : Nat) (ls : Nat → ByteArray) (f g : Nat → List Value) (i m : Nat) (h1 h2 : Nat → ByteArray) (hi : i < n) (hn : n ≤ 10000) (hm : m ≤ 4294967296) (hk1 : ∀ r, r < m → h1 r = keptS i) (hk2 : LongAt m (m + 71) i h2) (k j : Nat) (hj : j + k = m + 71) :
    Does Tryd.prog (roundOf Tryd.f4 12) ⟨lkTm n i m j, vL N n ls f g i m h1 h2⟩ fun e S' => reshape 5 (sel5 e S') (lkKs e) [] [] S' (roundR 12 (lkJ N n ls f g i m h1 h2) k (lkK N n ls f g i m h1 h2) e) := by
  refine of_code own_marks (n := 200) .g ?_
  refine by_nf (B := ((0 : Int) ≤ (↑i : Int) ∧
    (↑i : Int) + (1 : Int) ≤ (↑n : Int)) ∧
    ((0 : Nat) + (↑i : Int).toNat = i ∧
    ((0 : Nat) + (↑i : Int).toNat).succ ≤ n) ∧
    bsplit (decide ((↑j : Int) < (↑(m + (71 : Nat)) : Int)))
    (bsplit (decide ((↑j : Int) < (↑m : Int))) (((0 : Int) ≤ (↑i : Int) ∧
    (↑i : Int) + (1 : Int) ≤ (↑n : Int)) ∧
    ((0 : Nat) + (↑i : Int).toNat = i ∧
    ((0 : Nat) + (↑i : Int).toNat).succ ≤ n) ∧
    ((0 : Int) ≤ (↑j : Int) ∧
    (↑j : Int) + (1 : Int) ≤ (↑m : Int) ∧
    (0 : Nat) + m ≤ m) ∧
    ((0 : Nat) + (↑j : Int).toNat).succ ≤ m ∧
    ((0 : Int) ≤ (↑i : Int) ∧
    (↑i : Int) + (1 : Int) ≤ (↑(1000000 : Nat) : Int)) ∧
    (↑({ data := #[(107 : UInt8), (101 : UInt8), (112 : UInt8), (116 : UInt8), (32 : UInt8)] : ByteArray }.size + (markS (↑i : Int).toNat).size) : Int) ≤ IntKind.i64.max ∧
    bsplit (!(h1 ((0 : Nat) + (↑j : Int).toNat)).data.toList == ({ data := #[(107 : UInt8), (101 : UInt8), (112 : UInt8), (116 : UInt8), (32 : UInt8)] : ByteArray } ++ markS (↑i : Int).toNat).data.toList) False (((0 : Int) ≤ (↑i : Int) ∧
    (↑i : Int) + (1 : Int) ≤ (↑n : Int)) ∧
    ((0 : Nat) + (↑i : Int).toNat = i ∧
    ((0 : Nat) + (↑i : Int).toNat).succ ≤ n) ∧
    ((0 : Int) ≤ (↑j : Int) ∧
    (↑j : Int) + (1 : Int) ≤ (↑(m + (71 : Nat)) : Int) ∧
    (0 : Nat) + (m + (71 : Nat)) ≤ m + (71 : Nat)) ∧
    ((0 : Nat) + (↑j : Int).toNat).succ ≤ m + (71 : Nat) ∧
    ((0 : Int) ≤ (↑i : Int) ∧
    (↑i : Int) + (1 : Int) ≤ (↑n : Int)) ∧
    ((0 : Nat) + (↑i : Int).toNat = i ∧
    ((0 : Nat) + (↑i : Int).toNat).succ ≤ n) ∧
    ((0 : Int) ≤ (↑j : Int) ∧
    (↑j : Int) + (1 : Int) ≤ (↑m : Int) ∧
    (0 : Nat) + m ≤ m) ∧
    ((0 : Nat) + (↑j : Int).toNat).succ ≤ m ∧
    bsplit (!(h2 ((0 : Nat) + (↑j : Int).toNat)).data.toList == (h1 ((0 : Nat) + (↑j : Int).toNat)).data.toList) False
    (bsplit (decide ((↑j : Int) ≥ (↑m : Int))) (((0 : Int) ≤ (↑i : Int) ∧
    (↑i : Int) + (1 : Int) ≤ (↑n : Int)) ∧
    ((0 : Nat) + (↑i : Int).toNat = i ∧
    ((0 : Nat) + (↑i : Int).toNat).succ ≤ n) ∧
    ((0 : Int) ≤ (↑j : Int) ∧
    (↑j : Int) + (1 : Int) ≤ (↑(m + (71 : Nat)) : Int) ∧
    (0 : Nat) + (m + (71 : Nat)) ≤ m + (71 : Nat)) ∧
    ((0 : Nat) + (↑j : Int).toNat).succ ≤ m + (71 : Nat) ∧
    ((0 : Int) ≤ (↑i : Int) ∧
    (↑i : Int) + (1 : Int) ≤ (↑(1000000 : Nat) : Int)) ∧
    (↑({ data := #[(109 : UInt8), (111 : UInt8), (114 : UInt8), (101 : UInt8), (32 : UInt8)] : ByteArray }.size + (markS (↑i : Int).toNat).size) : Int) ≤ IntKind.i64.max ∧
    bsplit (!(h2 ((0 : Nat) + (↑j : Int).toNat)).data.toList == ({ data := #[(109 : UInt8), (111 : UInt8), (114 : UInt8), (101 : UInt8), (32 : UInt8)] : ByteArray } ++ markS (↑i : Int).toNat).data.toList) False ((k = (0 : Nat) → False) ∧
    (Value.slice (some { block := (1 : Nat), off := (1 : Nat), spot := some (0 : Nat) : Addr }) n (0 : Nat) = Value.slice (some { block := (1 : Nat), off := { block := (1 : Nat), off := (1 : Nat), spot := some (0 : Nat) : Addr }.off, spot := some (0 : Nat) : Addr }) n (0 : Nat) ∧
    Value.slice (some { block := (2 : Nat), off := (1 : Nat), spot := some (0 : Nat) : Addr }) n (0 : Nat) = Value.slice (some { block := (2 : Nat), off := { block := (2 : Nat), off := (1 : Nat), spot := some (0 : Nat) : Addr }.off, spot := some (0 : Nat) : Addr }) n (0 : Nat) ∧
    Value.int IntKind.i64 (↑i : Int) = Value.int IntKind.i64 (↑i : Int) ∧
    Value.int IntKind.i64 (↑m : Int) = Value.int IntKind.i64 (↑m : Int) ∧
    Value.int IntKind.i64 (IntKind.i64.wrap ((↑j : Int) + (1 : Int))) = Value.int IntKind.i64 (IntKind.i64.wrap ((↑j : Int) + (1 : Int))) ∧
    True) ∧
    QSt { tmps := [], V := [VObj.arg (9 : TypeId) (1 : Nat) N fun i => [Value.string (ls i)], VObj.raw (22 : TypeId) (1 : Nat) n (0 : Nat) f [(i, [Value.slice (some { block := (3 : Nat), off := { block := (3 : Nat), off := (3 : Nat), spot := some (0 : Nat) : Addr }.off, spot := some (0 : Nat) : Addr }) m (0 : Nat)])], VObj.raw (22 : TypeId) (1 : Nat) n (0 : Nat) g [(i, [Value.slice (some { block := (4 : Nat), off := { block := (4 : Nat), off := (3 : Nat), spot := some (0 : Nat) : Addr }.off, spot := some (0 : Nat) : Addr }) (m + (71 : Nat)) (0 : Nat)])], VObj.arg (9 : TypeId) (1 : Nat) m fun r => [Value.string (h1 r)], VObj.arg (9 : TypeId) (1 : Nat) (m + (71 : Nat)) fun r => [Value.string (h2 r)]] : VSt } { tmps := [], V := [VObj.arg (9 : TypeId) (1 : Nat) N fun i => [Value.string (ls i)], VObj.raw (22 : TypeId) (1 : Nat) n (0 : Nat) f [(i, [Value.slice (some { block := (3 : Nat), off := (3 : Nat), spot := some (0 : Nat) : Addr }) m (0 : Nat)])], VObj.raw (22 : TypeId) (1 : Nat) n (0 : Nat) g [(i, [Value.slice (some { block := (4 : Nat), off := (3 : Nat), spot := some (0 : Nat) : Addr }) (m + (71 : Nat)) (0 : Nat)])], VObj.arg (9 : TypeId) (1 : Nat) m fun r => [Value.string (h1 r)], VObj.arg (9 : TypeId) (1 : Nat) (m + (71 : Nat)) fun r => [Value.string (h2 r)]] : VSt } ∧
    LkAt m (k - (1 : Nat)) (IntKind.i64.wrap ((↑j : Int) + (1 : Int))))) ((k = (0 : Nat) → False) ∧
    (Value.slice (some { block := (1 : Nat), off := (1 : Nat), spot := some (0 : Nat) : Addr }) n (0 : Nat) = Value.slice (some { block := (1 : Nat), off := { block := (1 : Nat), off := (1 : Nat), spot := some (0 : Nat) : Addr }.off, spot := some (0 : Nat) : Addr }) n (0 : Nat) ∧
    Value.slice (some { block := (2 : Nat), off := (1 : Nat), spot := some (0 : Nat) : Addr }) n (0 : Nat) = Value.slice (some { block := (2 : Nat), off := { block := (2 : Nat), off := (1 : Nat), spot := some (0 : Nat) : Addr }.off, spot := some (0 : Nat) : Addr }) n (0 : Nat) ∧
    Value.int IntKind.i64 (↑i : Int) = Value.int IntKind.i64 (↑i : Int) ∧
    Value.int IntKind.i64 (↑m : Int) = Value.int IntKind.i64 (↑m : Int) ∧
    Value.int IntKind.i64 (IntKind.i64.wrap ((↑j : Int) + (1 : Int))) = Value.int IntKind.i64 (IntKind.i64.wrap ((↑j : Int) + (1 : Int))) ∧
    True) ∧
    QSt { tmps := [], V := [VObj.arg (9 : TypeId) (1 : Nat) N fun i => [Value.string (ls i)], VObj.raw (22 : TypeId) (1 : Nat) n (0 : Nat) f [(i, [Value.slice (some { block := (3 : Nat), off := { block := (3 : Nat), off := (3 : Nat), spot := some (0 : Nat) : Addr }.off, spot := some (0 : Nat) : Addr }) m (0 : Nat)])], VObj.raw (22 : TypeId) (1 : Nat) n (0 : Nat) g [(i, [Value.slice (some { block := (4 : Nat), off := { block := (4 : Nat), off := (3 : Nat), spot := some (0 : Nat) : Addr }.off, spot := some (0 : Nat) : Addr }) (m + (71 : Nat)) (0 : Nat)])], VObj.arg (9 : TypeId) (1 : Nat) m fun r => [Value.string (h1 r)], VObj.arg (9 : TypeId) (1 : Nat) (m + (71 : Nat)) fun r => [Value.string (h2 r)]] : VSt } { tmps := [], V := [VObj.arg (9 : TypeId) (1 : Nat) N fun i => [Value.string (ls i)], VObj.raw (22 : TypeId) (1 : Nat) n (0 : Nat) f [(i, [Value.slice (some { block := (3 : Nat), off := (3 : Nat), spot := some (0 : Nat) : Addr }) m (0 : Nat)])], VObj.raw (22 : TypeId) (1 : Nat) n (0 : Nat) g [(i, [Value.slice (some { block := (4 : Nat), off := (3 : Nat), spot := some (0 : Nat) : Addr }) (m + (71 : Nat)) (0 : Nat)])], VObj.arg (9 : TypeId) (1 : Nat) m fun r => [Value.string (h1 r)], VObj.arg (9 : TypeId) (1 : Nat) (m + (71 : Nat)) fun r => [Value.string (h2 r)]] : VSt } ∧
    LkAt m (k - (1 : Nat)) (IntKind.i64.wrap ((↑j : Int) + (1 : Int)))))))
    (bsplit (decide ((↑j : Int) ≥ (↑m : Int))) (((0 : Int) ≤ (↑i : Int) ∧
    (↑i : Int) + (1 : Int) ≤ (↑n : Int)) ∧
    ((0 : Nat) + (↑i : Int).toNat = i ∧
    ((0 : Nat) + (↑i : Int).toNat).succ ≤ n) ∧
    ((0 : Int) ≤ (↑j : Int) ∧
    (↑j : Int) + (1 : Int) ≤ (↑(m + (71 : Nat)) : Int) ∧
    (0 : Nat) + (m + (71 : Nat)) ≤ m + (71 : Nat)) ∧
    ((0 : Nat) + (↑j : Int).toNat).succ ≤ m + (71 : Nat) ∧
    ((0 : Int) ≤ (↑i : Int) ∧
    (↑i : Int) + (1 : Int) ≤ (↑(1000000 : Nat) : Int)) ∧
    (↑({ data := #[(109 : UInt8), (111 : UInt8), (114 : UInt8), (101 : UInt8), (32 : UInt8)] : ByteArray }.size + (markS (↑i : Int).toNat).size) : Int) ≤ IntKind.i64.max ∧
    bsplit (!(h2 ((0 : Nat) + (↑j : Int).toNat)).data.toList == ({ data := #[(109 : UInt8), (111 : UInt8), (114 : UInt8), (101 : UInt8), (32 : UInt8)] : ByteArray } ++ markS (↑i : Int).toNat).data.toList) False ((k = (0 : Nat) → False) ∧
    (Value.slice (some { block := (1 : Nat), off := (1 : Nat), spot := some (0 : Nat) : Addr }) n (0 : Nat) = Value.slice (some { block := (1 : Nat), off := { block := (1 : Nat), off := (1 : Nat), spot := some (0 : Nat) : Addr }.off, spot := some (0 : Nat) : Addr }) n (0 : Nat) ∧
    Value.slice (some { block := (2 : Nat), off := (1 : Nat), spot := some (0 : Nat) : Addr }) n (0 : Nat) = Value.slice (some { block := (2 : Nat), off := { block := (2 : Nat), off := (1 : Nat), spot := some (0 : Nat) : Addr }.off, spot := some (0 : Nat) : Addr }) n (0 : Nat) ∧
    Value.int IntKind.i64 (↑i : Int) = Value.int IntKind.i64 (↑i : Int) ∧
    Value.int IntKind.i64 (↑m : Int) = Value.int IntKind.i64 (↑m : Int) ∧
    Value.int IntKind.i64 (IntKind.i64.wrap ((↑j : Int) + (1 : Int))) = Value.int IntKind.i64 (IntKind.i64.wrap ((↑j : Int) + (1 : Int))) ∧
    True) ∧
    QSt { tmps := [], V := [VObj.arg (9 : TypeId) (1 : Nat) N fun i => [Value.string (ls i)], VObj.raw (22 : TypeId) (1 : Nat) n (0 : Nat) f [(i, [Value.slice (some { block := (3 : Nat), off := { block := (3 : Nat), off := (3 : Nat), spot := some (0 : Nat) : Addr }.off, spot := some (0 : Nat) : Addr }) m (0 : Nat)])], VObj.raw (22 : TypeId) (1 : Nat) n (0 : Nat) g [(i, [Value.slice (some { block := (4 : Nat), off := { block := (4 : Nat), off := (3 : Nat), spot := some (0 : Nat) : Addr }.off, spot := some (0 : Nat) : Addr }) (m + (71 : Nat)) (0 : Nat)])], VObj.arg (9 : TypeId) (1 : Nat) m fun r => [Value.string (h1 r)], VObj.arg (9 : TypeId) (1 : Nat) (m + (71 : Nat)) fun r => [Value.string (h2 r)]] : VSt } { tmps := [], V := [VObj.arg (9 : TypeId) (1 : Nat) N fun i => [Value.string (ls i)], VObj.raw (22 : TypeId) (1 : Nat) n (0 : Nat) f [(i, [Value.slice (some { block := (3 : Nat), off := (3 : Nat), spot := some (0 : Nat) : Addr }) m (0 : Nat)])], VObj.raw (22 : TypeId) (1 : Nat) n (0 : Nat) g [(i, [Value.slice (some { block := (4 : Nat), off := (3 : Nat), spot := some (0 : Nat) : Addr }) (m + (71 : Nat)) (0 : Nat)])], VObj.arg (9 : TypeId) (1 : Nat) m fun r => [Value.string (h1 r)], VObj.arg (9 : TypeId) (1 : Nat) (m + (71 : Nat)) fun r => [Value.string (h2 r)]] : VSt } ∧
    LkAt m (k - (1 : Nat)) (IntKind.i64.wrap ((↑j : Int) + (1 : Int))))) ((k = (0 : Nat) → False) ∧
    (Value.slice (some { block := (1 : Nat), off := (1 : Nat), spot := some (0 : Nat) : Addr }) n (0 : Nat) = Value.slice (some { block := (1 : Nat), off := { block := (1 : Nat), off := (1 : Nat), spot := some (0 : Nat) : Addr }.off, spot := some (0 : Nat) : Addr }) n (0 : Nat) ∧
    Value.slice (some { block := (2 : Nat), off := (1 : Nat), spot := some (0 : Nat) : Addr }) n (0 : Nat) = Value.slice (some { block := (2 : Nat), off := { block := (2 : Nat), off := (1 : Nat), spot := some (0 : Nat) : Addr }.off, spot := some (0 : Nat) : Addr }) n (0 : Nat) ∧
    Value.int IntKind.i64 (↑i : Int) = Value.int IntKind.i64 (↑i : Int) ∧
    Value.int IntKind.i64 (↑m : Int) = Value.int IntKind.i64 (↑m : Int) ∧
    Value.int IntKind.i64 (IntKind.i64.wrap ((↑j : Int) + (1 : Int))) = Value.int IntKind.i64 (IntKind.i64.wrap ((↑j : Int) + (1 : Int))) ∧
    True) ∧
    QSt { tmps := [], V := [VObj.arg (9 : TypeId) (1 : Nat) N fun i => [Value.string (ls i)], VObj.raw (22 : TypeId) (1 : Nat) n (0 : Nat) f [(i, [Value.slice (some { block := (3 : Nat), off := { block := (3 : Nat), off := (3 : Nat), spot := some (0 : Nat) : Addr }.off, spot := some (0 : Nat) : Addr }) m (0 : Nat)])], VObj.raw (22 : TypeId) (1 : Nat) n (0 : Nat) g [(i, [Value.slice (some { block := (4 : Nat), off := { block := (4 : Nat), off := (3 : Nat), spot := some (0 : Nat) : Addr }.off, spot := some (0 : Nat) : Addr }) (m + (71 : Nat)) (0 : Nat)])], VObj.arg (9 : TypeId) (1 : Nat) m fun r => [Value.string (h1 r)], VObj.arg (9 : TypeId) (1 : Nat) (m + (71 : Nat)) fun r => [Value.string (h2 r)]] : VSt } { tmps := [], V := [VObj.arg (9 : TypeId) (1 : Nat) N fun i => [Value.string (ls i)], VObj.raw (22 : TypeId) (1 : Nat) n (0 : Nat) f [(i, [Value.slice (some { block := (3 : Nat), off := (3 : Nat), spot := some (0 : Nat) : Addr }) m (0 : Nat)])], VObj.raw (22 : TypeId) (1 : Nat) n (0 : Nat) g [(i, [Value.slice (some { block := (4 : Nat), off := (3 : Nat), spot := some (0 : Nat) : Addr }) (m + (71 : Nat)) (0 : Nat)])], VObj.arg (9 : TypeId) (1 : Nat) m fun r => [Value.string (h1 r)], VObj.arg (9 : TypeId) (1 : Nat) (m + (71 : Nat)) fun r => [Value.string (h2 r)]] : VSt } ∧
    LkAt m (k - (1 : Nat)) (IntKind.i64.wrap ((↑j : Int) + (1 : Int)))))) (QSt { tmps := [unk, unk, unk, unk, unk, Value.slice (some { block := (1 : Nat), off := { block := (1 : Nat), off := (1 : Nat), spot := some (0 : Nat) : Addr }.off, spot := some (0 : Nat) : Addr }) n (0 : Nat), Value.slice (some { block := (2 : Nat), off := { block := (2 : Nat), off := (1 : Nat), spot := some (0 : Nat) : Addr }.off, spot := some (0 : Nat) : Addr }) n (0 : Nat), unk, unk, unk, unk, unk, unk, unk, unk, unk, unk, unk, unk, unk, Value.int IntKind.i64 (↑i : Int)] ++ List.replicate 212 unk, V := [VObj.arg (9 : TypeId) (1 : Nat) N fun i => [Value.string (ls i)], VObj.raw (22 : TypeId) (1 : Nat) n (0 : Nat) f [(i, [Value.slice (some { block := (3 : Nat), off := { block := (3 : Nat), off := (3 : Nat), spot := some (0 : Nat) : Addr }.off, spot := some (0 : Nat) : Addr }) m (0 : Nat)])], VObj.raw (22 : TypeId) (1 : Nat) n (0 : Nat) g [(i, [Value.slice (some { block := (4 : Nat), off := { block := (4 : Nat), off := (3 : Nat), spot := some (0 : Nat) : Addr }.off, spot := some (0 : Nat) : Addr }) (m + (71 : Nat)) (0 : Nat)])], VObj.arg (9 : TypeId) (1 : Nat) m fun r => [Value.string (h1 r)], VObj.arg (9 : TypeId) (1 : Nat) (m + (71 : Nat)) fun r => [Value.string (h2 r)]] : VSt } { tmps := [unk, unk, unk, unk, unk, Value.slice (some { block := (1 : Nat), off := (1 : Nat), spot := some (0 : Nat) : Addr }) n (0 : Nat), Value.slice (some { block := (2 : Nat), off := (1 : Nat), spot := some (0 : Nat) : Addr }) n (0 : Nat), unk, unk, unk, unk, unk, unk, unk, unk, unk, unk, unk, unk, unk, Value.int IntKind.i64 (↑i : Int)] ++ List.replicate 212 unk, V := [VObj.arg (9 : TypeId) (1 : Nat) N fun i => [Value.string (ls i)], VObj.raw (22 : TypeId) (1 : Nat) n (0 : Nat) f [(i, [Value.slice (some { block := (3 : Nat), off := (3 : Nat), spot := some (0 : Nat) : Addr }) m (0 : Nat)])], VObj.raw (22 : TypeId) (1 : Nat) n (0 : Nat) g [(i, [Value.slice (some { block := (4 : Nat), off := (3 : Nat), spot := some (0 : Nat) : Addr }) (m + (71 : Nat)) (0 : Nat)])], VObj.arg (9 : TypeId) (1 : Nat) m fun r => [Value.string (h1 r)], VObj.arg (9 : TypeId) (1 : Nat) (m + (71 : Nat)) fun r => [Value.string (h2 r)]] : VSt })) (by kernel_rfl) ?_
  have idx : ((0 : Int) ≤ (↑i : Int) ∧ (↑i : Int) + (1 : Int) ≤ (↑n : Int)) := ⟨by omega, by omega⟩
  have hol : ((0 : Nat) + (↑i : Int).toNat = i ∧ ((0 : Nat) + (↑i : Int).toNat).succ ≤ n) := ⟨by omega, by omega⟩
  have mar : ((0 : Int) ≤ (↑i : Int) ∧ (↑i : Int) + (1 : Int) ≤ (↑(1000000 : Nat) : Int)) := ⟨by omega, by omega⟩
  have hw : j < m + 71 → IntKind.i64.wrap ((j : Int) + 1) = ((j + 1 : Nat) : Int) := fun h => by rw [w64 _ (by omega)]; rfl
  have e0 : (0 : Nat) + (↑j : Int).toNat = j := by omega
  refine ⟨idx, hol, bsplit_iff.2 ⟨fun hlt => ?_, fun hge => ?_⟩⟩
  · have hlt : j < m + 71 := by simp at hlt; omega
    have q2 := hk2.at_ j hlt
    rw [hw hlt, e0]
    have fin : (k = 0 → False) ∧ LkAt m (k - 1) ((j + 1 : Nat) : Int) := ⟨fun h => by omega, ⟨j + 1, rfl, by omega⟩⟩
    refine bsplit_iff.2 ⟨fun hjm => ?_, fun hjm => ?_⟩
    · have hjm : j < m := by simp at hjm; omega
      have q1 := hk1 j hjm
      rw [if_pos hjm] at q2
      refine ⟨idx, hol, ⟨by omega, by omega, by omega⟩, by omega, mar, five_size i _ (by decide) (by omega), bsplit_iff.2 ⟨fun h => ?_, fun _ => ⟨idx, hol, ⟨by omega, by omega, by omega⟩, by omega, idx, hol, ⟨by omega, by omega, by omega⟩, by omega, bsplit_iff.2 ⟨fun h => ?_, fun _ => bsplit_iff.2 ⟨fun h => ?_, fun _ => ⟨fin.1, ⟨rfl, rfl, rfl, rfl, rfl, trivial⟩, ⟨rfl⟩, fin.2⟩⟩⟩⟩⟩⟩
      · rw [q1] at h; simp [keptS] at h
      · rw [q1, q2] at h; simp at h
      · simp at h; omega
    · have hjm : ¬ j < m := by simp at hjm; omega
      rw [if_neg hjm] at q2
      refine bsplit_iff.2 ⟨fun _ => ⟨idx, hol, ⟨by omega, by omega, by omega⟩, by omega, mar, five_size i _ (by decide) (by omega), bsplit_iff.2 ⟨fun h => ?_, fun _ => ⟨fin.1, ⟨rfl, rfl, rfl, rfl, rfl, trivial⟩, ⟨rfl⟩, fin.2⟩⟩⟩, fun h => ?_⟩
      · rw [q2] at h; simp [moreS] at h
      · simp at h; omega
  · exact ⟨rfl⟩

theorem lkJ_eq {N n : Nat} {ls : Nat → ByteArray} {f g : Nat → List Value} {i m : Nat} {h1 h2 : Nat → ByteArray} {k : Nat} {S : VSt} (hJ : lkJ N n ls f g i m h1 h2 k S) :
    ∃ j : Nat, leT (lkTm n i m j) S.tmps ∧ S.V = vL N n ls f g i m h1 h2 ∧ j + k = m + 71 := by
  unfold lkJ at hJ
  split at hJ
  · obtain ⟨h1, ⟨h2⟩, ⟨j, rfl, h3⟩⟩ := hJ
    exact ⟨j, h1, (VSt.mk.inj h2).2, h3⟩
  · exact hJ.elim
theorem vL_sc (N n : Nat) (ls : Nat → ByteArray) (f g : Nat → List Value) (i m : Nat) (h1 h2 : Nat → ByteArray) (k : Nat) (o : VObj) (hk : (vL N n ls f g i m h1 h2)[k]? = some o) : ScO (vL N n ls f g i m h1 h2).length o := by
  match k, hk with
  | 0, hk => cases hk; trivial
  | 1, hk =>
    cases hk
    intro x hx v hv
    rw [List.mem_singleton] at hx; subst hx
    rw [List.mem_singleton] at hv; subst hv
    exact ⟨.slice (by show 3 < 5; omega), rfl⟩
  | 2, hk =>
    cases hk
    intro x hx v hv
    rw [List.mem_singleton] at hx; subst hx
    rw [List.mem_singleton] at hv; subst hv
    exact ⟨.slice (by show 4 < 5; omega), rfl⟩
  | 3, hk => cases hk; trivial
  | 4, hk => cases hk; trivial
def lkB (N n : Nat) (ls : Nat → ByteArray) (f g : Nat → List Value) (i m : Nat) (h1 h2 : Nat → ByteArray) : BlkS := fun S K =>
  reshape S.V.length (sel5 .normal S) [5, 6, 20, 21, 22] [] [] S (lkJ N n ls f g i m h1 h2 (m + 71)) ∧ S.V.length = 5 ∧ K .normal ⟨laTm n i, vL N n ls f g i m h1 h2⟩
theorem lk_loop (N n : Nat) (ls : Nat → ByteArray) (f g : Nat → List Value) (i m : Nat) (h1 h2 : Nat → ByteArray) (hi : i < n) (hn : n ≤ 10000) (hm : m ≤ 4294967296) (hk1 : ∀ r, r < m → h1 r = keptS i) (hk2 : LongAt m (m + 71) i h2) (S : VSt) (K : Exit → VSt → Prop)
    (hB : lkB N n ls f g i m h1 h2 S K) : Does Tryd.prog (.block 12 (.loop (roundOf Tryd.f4 12))) S K := by
  obtain ⟨g1, g2, g3⟩ := hB
  refine Does.mono (Does.loopR (K := lkK N n ls f g i m h1 h2) lkKs sel5 [] [] (lkJ N n ls f g i m h1 h2) S (reshape_mono (fun S hS => ⟨_, hS⟩) g1) fun k S' hJ => ?_) fun e S' hK => ?_
  · obtain ⟨j, ht, hV, hj⟩ := lkJ_eq hJ
    rw [g2]
    exact Does.weaken (S' := ⟨lkTm n i m j, vL N n ls f g i m h1 h2⟩) (lk_round N n ls f g i m h1 h2 hi hn hm hk1 hk2 k j hj) ht hV.symm (.of rfl (vL_sc N n ls f g i m h1 h2))
  · unfold lkK at hK
    split at hK
    · obtain ⟨rfl⟩ := hK; exact g3
    · exact hK.elim

/-! ### The round -/
def laLeaf (N n : Nat) (ls : Nat → ByteArray) (f g : Nat → List Value) (i m : Nat) (h1 h2 : Nat → ByteArray) (e : Exit) (S : VSt) : Prop :=
  match e with
  | .normal => QSt S ⟨laTm n ((i + 1 : Nat) : Int), vL N n ls f g i m h1 h2⟩
  | _ => False
def laLeafE (N n : Nat) (ls : Nat → ByteArray) (f g : Nat → List Value) (e : Exit) (S : VSt) : Prop :=
  match e with
  | .exit j => match Nat.beq j 10 with | true => QSt S ⟨laTm n n, vH false N n ls f g n⟩ | false => False
  | _ => False
def k10 (_ : Exit) : List Nat := [5, 6, 20]
theorem la_open (N n : Nat) (ls : Nat → ByteArray) (f g : Nat → List Value) (i m : Nat) (h1 h2 : Nat → ByteArray) (hi : i < n) (hn : n ≤ 10000) (hm : m ≤ 4294967296) (hk1 : ∀ r, r < m → h1 r = keptS i) (hk2 : LongAt m (m + 71) i h2) :
    Does Tryd.prog (roundOf Tryd.f4 10) ⟨laTm n i, vL N n ls f g i m h1 h2⟩ fun e S' => reshape 5 (sel5 e S') (k10 e) [] [] S' (laLeaf N n ls f g i m h1 h2 e) := by
  refine of_code (ctxG_ok (l := [mark10]) (cs := []) (bs := [(12, lkB N n ls f g i m h1 h2)]) (.cons mark_ok .nil) .nil) (n := 200) (.one rfl rfl (lk_loop N n ls f g i m h1 h2 hi hn hm hk1 hk2)) ?_
  refine by_nf (B := bsplit (decide ((↑i : Int) < (↑n : Int))) (((0 : Int) ≤ (↑i : Int) ∧
    (↑i : Int) + (1 : Int) ≤ (↑n : Int)) ∧
    ((0 : Nat) + (↑i : Int).toNat = i ∧
    ((0 : Nat) + (↑i : Int).toNat).succ ≤ n) ∧
    ((Value.slice (some { block := (1 : Nat), off := (1 : Nat), spot := some (0 : Nat) : Addr }) n (0 : Nat) = Value.slice (some { block := (1 : Nat), off := { block := (1 : Nat), off := (1 : Nat), spot := some (0 : Nat) : Addr }.off, spot := some (0 : Nat) : Addr }) n (0 : Nat) ∧
    Value.slice (some { block := (2 : Nat), off := (1 : Nat), spot := some (0 : Nat) : Addr }) n (0 : Nat) = Value.slice (some { block := (2 : Nat), off := { block := (2 : Nat), off := (1 : Nat), spot := some (0 : Nat) : Addr }.off, spot := some (0 : Nat) : Addr }) n (0 : Nat) ∧
    Value.int IntKind.i64 (↑i : Int) = Value.int IntKind.i64 (↑i : Int) ∧
    Value.int IntKind.i64 (↑m : Int) = Value.int IntKind.i64 (↑m : Int) ∧
    Value.int IntKind.i64 (0 : Int) = Value.int IntKind.i64 (0 : Int) ∧
    True) ∧
    QSt { tmps := [], V := [VObj.arg (9 : TypeId) (1 : Nat) N fun i => [Value.string (ls i)], VObj.raw (22 : TypeId) (1 : Nat) n (0 : Nat) f [(i, [Value.slice (some { block := (3 : Nat), off := { block := (3 : Nat), off := (3 : Nat), spot := some (0 : Nat) : Addr }.off, spot := some (0 : Nat) : Addr }) m (0 : Nat)])], VObj.raw (22 : TypeId) (1 : Nat) n (0 : Nat) g [(i, [Value.slice (some { block := (4 : Nat), off := { block := (4 : Nat), off := (3 : Nat), spot := some (0 : Nat) : Addr }.off, spot := some (0 : Nat) : Addr }) (m + (71 : Nat)) (0 : Nat)])], VObj.arg (9 : TypeId) (1 : Nat) m fun r => [Value.string (h1 r)], VObj.arg (9 : TypeId) (1 : Nat) (m + (71 : Nat)) fun r => [Value.string (h2 r)]] : VSt } { tmps := [], V := [VObj.arg (9 : TypeId) (1 : Nat) N fun i => [Value.string (ls i)], VObj.raw (22 : TypeId) (1 : Nat) n (0 : Nat) f [(i, [Value.slice (some { block := (3 : Nat), off := (3 : Nat), spot := some (0 : Nat) : Addr }) m (0 : Nat)])], VObj.raw (22 : TypeId) (1 : Nat) n (0 : Nat) g [(i, [Value.slice (some { block := (4 : Nat), off := (3 : Nat), spot := some (0 : Nat) : Addr }) (m + (71 : Nat)) (0 : Nat)])], VObj.arg (9 : TypeId) (1 : Nat) m fun r => [Value.string (h1 r)], VObj.arg (9 : TypeId) (1 : Nat) (m + (71 : Nat)) fun r => [Value.string (h2 r)]] : VSt } ∧
    LkAt m (m + (71 : Nat)) (0 : Int)) ∧
    (5 : Nat) = (5 : Nat) ∧
    QSt { tmps := [unk, unk, unk, unk, unk, Value.slice (some { block := (1 : Nat), off := { block := (1 : Nat), off := (1 : Nat), spot := some (0 : Nat) : Addr }.off, spot := some (0 : Nat) : Addr }) n (0 : Nat), Value.slice (some { block := (2 : Nat), off := { block := (2 : Nat), off := (1 : Nat), spot := some (0 : Nat) : Addr }.off, spot := some (0 : Nat) : Addr }) n (0 : Nat), unk, unk, unk, unk, unk, unk, unk, unk, unk, unk, unk, unk, unk, Value.int IntKind.i64 (IntKind.i64.wrap ((↑i : Int) + (1 : Int)))] ++ List.replicate 212 unk, V := [VObj.arg (9 : TypeId) (1 : Nat) N fun i => [Value.string (ls i)], VObj.raw (22 : TypeId) (1 : Nat) n (0 : Nat) f [(i, [Value.slice (some { block := (3 : Nat), off := { block := (3 : Nat), off := (3 : Nat), spot := some (0 : Nat) : Addr }.off, spot := some (0 : Nat) : Addr }) m (0 : Nat)])], VObj.raw (22 : TypeId) (1 : Nat) n (0 : Nat) g [(i, [Value.slice (some { block := (4 : Nat), off := { block := (4 : Nat), off := (3 : Nat), spot := some (0 : Nat) : Addr }.off, spot := some (0 : Nat) : Addr }) (m + (71 : Nat)) (0 : Nat)])], VObj.arg (9 : TypeId) (1 : Nat) m fun r => [Value.string (h1 r)], VObj.arg (9 : TypeId) (1 : Nat) (m + (71 : Nat)) fun r => [Value.string (h2 r)]] : VSt } { tmps := [unk, unk, unk, unk, unk, Value.slice (some { block := (1 : Nat), off := (1 : Nat), spot := some (0 : Nat) : Addr }) n (0 : Nat), Value.slice (some { block := (2 : Nat), off := (1 : Nat), spot := some (0 : Nat) : Addr }) n (0 : Nat), unk, unk, unk, unk, unk, unk, unk, unk, unk, unk, unk, unk, unk, Value.int IntKind.i64 (↑(i + (1 : Nat)) : Int)] ++ List.replicate 212 unk, V := [VObj.arg (9 : TypeId) (1 : Nat) N fun i => [Value.string (ls i)], VObj.raw (22 : TypeId) (1 : Nat) n (0 : Nat) f [(i, [Value.slice (some { block := (3 : Nat), off := (3 : Nat), spot := some (0 : Nat) : Addr }) m (0 : Nat)])], VObj.raw (22 : TypeId) (1 : Nat) n (0 : Nat) g [(i, [Value.slice (some { block := (4 : Nat), off := (3 : Nat), spot := some (0 : Nat) : Addr }) (m + (71 : Nat)) (0 : Nat)])], VObj.arg (9 : TypeId) (1 : Nat) m fun r => [Value.string (h1 r)], VObj.arg (9 : TypeId) (1 : Nat) (m + (71 : Nat)) fun r => [Value.string (h2 r)]] : VSt }) False) (by kernel_rfl) ?_
  have hw : IntKind.i64.wrap ((i : Int) + 1) = ((i + 1 : Nat) : Int) := by rw [w64 _ (by omega)]; rfl
  rw [hw]
  refine bsplit_iff.2 ⟨fun hlt => ?_, fun hge => ?_⟩
  · exact ⟨⟨by omega, by omega⟩, ⟨by omega, by omega⟩, ⟨⟨rfl, rfl, rfl, rfl, rfl, trivial⟩, ⟨rfl⟩, ⟨0, rfl, by omega⟩⟩, rfl, ⟨rfl⟩⟩
  · simp at hge; omega
theorem la_end (N n : Nat) (ls : Nat → ByteArray) (f g : Nat → List Value) :
    Does Tryd.prog (roundOf Tryd.f4 10) ⟨laTm n n, vH false N n ls f g n⟩ fun e S' => reshape 3 (sel3 e S') (k10 e) [] [] S' (laLeafE N n ls f g e) := by
  refine of_code (ctxG_ok (l := [mark10]) (cs := []) (bs := [(11, noB)]) (.cons mark_ok .nil) .nil) (n := 200) (.list (l := [(11, cB (cL (cR (roundOf Tryd.f4 10))))]) rfl fun x hx T hT S K hTS => by
    rw [List.mem_singleton] at hx; subst hx
    cases hT; exact hTS.elim) ?_
  refine by_nf (B := bsplit (decide ((↑n : Int) < (↑n : Int))) False (QSt { tmps := [unk, unk, unk, unk, unk, Value.slice (some { block := (1 : Nat), off := { block := (1 : Nat), off := (1 : Nat), spot := some (0 : Nat) : Addr }.off, spot := some (0 : Nat) : Addr }) n (0 : Nat), Value.slice (some { block := (2 : Nat), off := { block := (2 : Nat), off := (1 : Nat), spot := some (0 : Nat) : Addr }.off, spot := some (0 : Nat) : Addr }) n (0 : Nat), unk, unk, unk, unk, unk, unk, unk, unk, unk, unk, unk, unk, unk, Value.int IntKind.i64 (↑n : Int)] ++ List.replicate 212 unk, V := [VObj.arg (9 : TypeId) (1 : Nat) N fun i => [Value.string (ls i)], VObj.raw (22 : TypeId) (1 : Nat) n (0 : Nat) f [], VObj.raw (22 : TypeId) (1 : Nat) n (0 : Nat) g []] : VSt } { tmps := [unk, unk, unk, unk, unk, Value.slice (some { block := (1 : Nat), off := (1 : Nat), spot := some (0 : Nat) : Addr }) n (0 : Nat), Value.slice (some { block := (2 : Nat), off := (1 : Nat), spot := some (0 : Nat) : Addr }) n (0 : Nat), unk, unk, unk, unk, unk, unk, unk, unk, unk, unk, unk, unk, unk, Value.int IntKind.i64 (↑n : Int)] ++ List.replicate 212 unk, V := [VObj.arg (9 : TypeId) (1 : Nat) N fun i => [Value.string (ls i)], VObj.raw (22 : TypeId) (1 : Nat) n (0 : Nat) f [], VObj.raw (22 : TypeId) (1 : Nat) n (0 : Nat) g []] : VSt })) (by kernel_rfl) ?_
  refine bsplit_iff.2 ⟨fun hlt => ?_, fun hge => ?_⟩
  · simp at hlt
  · exact ⟨rfl⟩
end Go.Sh
