/- FileParts: is an operation refused? -/
import Derived.Test.YtmbkfaongfmieaaGreatFP1
import Derived.Test.YtmbkfaongfmieaaGreatXSL
set_option linter.unusedSimpArgs false
set_option linter.unusedVariables false
set_option linter.unusedSectionVars false
set_option maxRecDepth 100000
namespace Go.Fil
open Go Go.X Go.Proofs
variable [WI]
noncomputable def c0 : Ctx := ctxG [] [] []
noncomputable def c1 : Ctx := ctxG [] [(51, nmT), (99, inl Tryz.prog c0 300 Tryz.f99), (20, inl Tryz.prog c0 300 Tryz.f20)] []
noncomputable def c2 : Ctx := ctxG [] [(51, nmT), (50, inl Tryz.prog c1 600 Tryz.f50), (52, inl Tryz.prog c1 600 Tryz.f52)] []
structure Rf (k a n L b r : Int) : Prop where
  kk : r = 0 → 1 ≤ k ∧ k ≤ 13
  k10 : r = 0 → k = 10 → 0 ≤ a ∧ 0 ≤ n ∧ a + n ≤ 1048576 * b
  k11 : r = 0 → k = 11 → 0 ≤ a ∧ a + L ≤ 1048576 * b
  k12 : r = 0 → k = 12 → 0 ≤ n ∧ n ≤ 1048576 * b
structure RfV (k a n L b : Int) (v : Value) : Prop where
  ex : ∃ r, v = .int .i64 r ∧ Rf k a n L b r
theorem RfV.triv {k a n L b r : Int} (hk : 1 ≤ k ∧ k ≤ 13) (h : k ≠ 10 ∧ k ≠ 11 ∧ k ≠ 12) : RfV k a n L b (.int .i64 r) := ⟨r, rfl, ⟨fun _ => hk, fun _ h' => absurd h' h.1, fun _ h' => absurd h' h.2.1, fun _ h' => absurd h' h.2.2⟩⟩
theorem RfV.no {k a n L b r : Int} (h : r ≠ 0) : RfV k a n L b (.int .i64 r) := ⟨r, rfl, ⟨fun h' => absurd h' h, fun h' => absurd h' h, fun h' => absurd h' h, fun h' => absurd h' h⟩⟩
def rfArgs (k f1 f2 n1 n2 a n x1 x2 x3 b x5 : Int) (nm ot : ByteArray) (L cl cc : Nat) : List Value := [.agg ⟨[.int .i64 k, .string nm, .string ot, .int .i64 f1, .int .i64 f2, .int .i64 n1, .int .i64 n2, .int .i64 a, .int .i64 n, .slice (some ⟨0, 3, some 0⟩) L 0]⟩,
      .agg ⟨[.slice (some ⟨1, 0, some 0⟩) cl cc, .int .i64 x1, .int .i64 x2, .int .i64 x3, .int .i64 b, .int .i64 x5]⟩]
theorem rf1 (f1 f2 n1 n2 a n x1 x2 x3 b x5 : Int) (nm ot : ByteArray) (L cl cc : Nat) : Hold (XF Tryz.prog c2 900 Tryz.f16 (rfArgs 1 f1 f2 n1 n2 a n x1 x2 x3 b x5 nm ot L cl cc) [.dead, .dead] fun v _ => RfV 1 a n L b v) := by
  refine by_nf (B := bsplit (!ot.data.toList == { data := #[] : ByteArray }.data.toList) (RfV (1 : Int) a n (↑L : Int) b (Value.int IntKind.i64 (135 : Int)))
    (bsplit (!(f1 == (0 : Int) && (f2 == (0 : Int) && true))) (RfV (1 : Int) a n (↑L : Int) b (Value.int IntKind.i64 (135 : Int)))
    (bsplit (!(n1 == (0 : Int) && (n2 == (0 : Int) && true))) (RfV (1 : Int) a n (↑L : Int) b (Value.int IntKind.i64 (135 : Int)))
    (bsplit (a == (0 : Int))
    (bsplit (n == (0 : Int))
    (bsplit (!(↑L : Int) == (0 : Int)) (RfV (1 : Int) a n (↑L : Int) b (Value.int IntKind.i64 (135 : Int))) (∀ (b_1 : Bool), bsplit (!b_1) (RfV (1 : Int) a n (↑L : Int) b (Value.int IntKind.i64 (100 : Int))) (RfV (1 : Int) a n (↑L : Int) b (Value.int IntKind.i64 (0 : Int))))) (RfV (1 : Int) a n (↑L : Int) b (Value.int IntKind.i64 (135 : Int)))) (RfV (1 : Int) a n (↑L : Int) b (Value.int IntKind.i64 (135 : Int))))))) (by kernel_rfl) ?_
  have ht : ∀ r, RfV 1 a n L b (.int .i64 r) := fun r => RfV.triv (by omega) (by omega)
  repeat' (first | exact ht _ | refine bsplit_iff.2 ⟨fun _ => ?_, fun _ => ?_⟩ | refine ⟨?_, ?_⟩ | intro _)
theorem rf2 (f1 f2 n1 n2 a n x1 x2 x3 b x5 : Int) (nm ot : ByteArray) (L cl cc : Nat) : Hold (XF Tryz.prog c2 900 Tryz.f16 (rfArgs 2 f1 f2 n1 n2 a n x1 x2 x3 b x5 nm ot L cl cc) [.dead, .dead] fun v _ => RfV 2 a n L b v) := by
  refine by_nf (B := bsplit (!ot.data.toList == { data := #[] : ByteArray }.data.toList) (RfV (2 : Int) a n (↑L : Int) b (Value.int IntKind.i64 (135 : Int)))
    (bsplit (!(f1 == (0 : Int) && (f2 == (0 : Int) && true))) (RfV (2 : Int) a n (↑L : Int) b (Value.int IntKind.i64 (135 : Int)))
    (bsplit (!(n1 == (0 : Int) && (n2 == (0 : Int) && true))) (RfV (2 : Int) a n (↑L : Int) b (Value.int IntKind.i64 (135 : Int)))
    (bsplit (a == (0 : Int))
    (bsplit (n == (0 : Int))
    (bsplit (!(↑L : Int) == (0 : Int)) (RfV (2 : Int) a n (↑L : Int) b (Value.int IntKind.i64 (135 : Int))) (∀ (b_1 : Bool), bsplit (!b_1) (RfV (2 : Int) a n (↑L : Int) b (Value.int IntKind.i64 (100 : Int))) (RfV (2 : Int) a n (↑L : Int) b (Value.int IntKind.i64 (0 : Int))))) (RfV (2 : Int) a n (↑L : Int) b (Value.int IntKind.i64 (135 : Int)))) (RfV (2 : Int) a n (↑L : Int) b (Value.int IntKind.i64 (135 : Int))))))) (by kernel_rfl) ?_
  have ht : ∀ r, RfV 2 a n L b (.int .i64 r) := fun r => RfV.triv (by omega) (by omega)
  repeat' (first | exact ht _ | refine bsplit_iff.2 ⟨fun _ => ?_, fun _ => ?_⟩ | refine ⟨?_, ?_⟩ | intro _)
theorem rf3 (f1 f2 n1 n2 a n x1 x2 x3 b x5 : Int) (nm ot : ByteArray) (L cl cc : Nat) : Hold (XF Tryz.prog c2 900 Tryz.f16 (rfArgs 3 f1 f2 n1 n2 a n x1 x2 x3 b x5 nm ot L cl cc) [.dead, .dead] fun v _ => RfV 3 a n L b v) := by
  refine by_nf (B := bsplit (!ot.data.toList == { data := #[] : ByteArray }.data.toList) (RfV (3 : Int) a n (↑L : Int) b (Value.int IntKind.i64 (135 : Int)))
    (bsplit (!(f1 == (0 : Int) && (f2 == (0 : Int) && true))) (RfV (3 : Int) a n (↑L : Int) b (Value.int IntKind.i64 (135 : Int)))
    (bsplit (!(n1 == (0 : Int) && (n2 == (0 : Int) && true))) (RfV (3 : Int) a n (↑L : Int) b (Value.int IntKind.i64 (135 : Int)))
    (bsplit (a == (0 : Int))
    (bsplit (n == (0 : Int))
    (bsplit (!(↑L : Int) == (0 : Int)) (RfV (3 : Int) a n (↑L : Int) b (Value.int IntKind.i64 (135 : Int))) (∀ (b_1 : Bool), bsplit (!b_1) (RfV (3 : Int) a n (↑L : Int) b (Value.int IntKind.i64 (100 : Int))) (RfV (3 : Int) a n (↑L : Int) b (Value.int IntKind.i64 (0 : Int))))) (RfV (3 : Int) a n (↑L : Int) b (Value.int IntKind.i64 (135 : Int)))) (RfV (3 : Int) a n (↑L : Int) b (Value.int IntKind.i64 (135 : Int))))))) (by kernel_rfl) ?_
  have ht : ∀ r, RfV 3 a n L b (.int .i64 r) := fun r => RfV.triv (by omega) (by omega)
  repeat' (first | exact ht _ | refine bsplit_iff.2 ⟨fun _ => ?_, fun _ => ?_⟩ | refine ⟨?_, ?_⟩ | intro _)
theorem rf4 (f1 f2 n1 n2 a n x1 x2 x3 b x5 : Int) (nm ot : ByteArray) (L cl cc : Nat) : Hold (XF Tryz.prog c2 900 Tryz.f16 (rfArgs 4 f1 f2 n1 n2 a n x1 x2 x3 b x5 nm ot L cl cc) [.dead, .dead] fun v _ => RfV 4 a n L b v) := by
  refine by_nf (B := bsplit (!nm.data.toList == { data := #[] : ByteArray }.data.toList) (RfV (4 : Int) a n (↑L : Int) b (Value.int IntKind.i64 (135 : Int)))
    (bsplit (!ot.data.toList == { data := #[] : ByteArray }.data.toList) (RfV (4 : Int) a n (↑L : Int) b (Value.int IntKind.i64 (135 : Int)))
    (bsplit (!(f1 == (0 : Int) && (f2 == (0 : Int) && true))) (RfV (4 : Int) a n (↑L : Int) b (Value.int IntKind.i64 (135 : Int)))
    (bsplit (!(n1 == (0 : Int) && (n2 == (0 : Int) && true))) (RfV (4 : Int) a n (↑L : Int) b (Value.int IntKind.i64 (135 : Int)))
    (bsplit (a == (0 : Int))
    (bsplit (!(↑L : Int) == (0 : Int)) (RfV (4 : Int) a n (↑L : Int) b (Value.int IntKind.i64 (135 : Int)))
    (bsplit (decide (n < (0 : Int))) (RfV (4 : Int) a n (↑L : Int) b (Value.int IntKind.i64 (134 : Int)))
    (bsplit (decide (n ≥ x3)) (RfV (4 : Int) a n (↑L : Int) b (Value.int IntKind.i64 (134 : Int))) (RfV (4 : Int) a n (↑L : Int) b (Value.int IntKind.i64 (0 : Int)))))) (RfV (4 : Int) a n (↑L : Int) b (Value.int IntKind.i64 (135 : Int)))))))) (by kernel_rfl) ?_
  have ht : ∀ r, RfV 4 a n L b (.int .i64 r) := fun r => RfV.triv (by omega) (by omega)
  repeat' (first | exact ht _ | refine bsplit_iff.2 ⟨fun _ => ?_, fun _ => ?_⟩ | refine ⟨?_, ?_⟩ | intro _)
theorem rf5 (f1 f2 n1 n2 a n x1 x2 x3 b x5 : Int) (nm ot : ByteArray) (L cl cc : Nat) : Hold (XF Tryz.prog c2 900 Tryz.f16 (rfArgs 5 f1 f2 n1 n2 a n x1 x2 x3 b x5 nm ot L cl cc) [.dead, .dead] fun v _ => RfV 5 a n L b v) := by
  refine by_nf (B := bsplit (!ot.data.toList == { data := #[] : ByteArray }.data.toList) (RfV (5 : Int) a n (↑L : Int) b (Value.int IntKind.i64 (135 : Int)))
    (bsplit (!(n1 == (0 : Int) && (n2 == (0 : Int) && true))) (RfV (5 : Int) a n (↑L : Int) b (Value.int IntKind.i64 (135 : Int)))
    (bsplit (a == (0 : Int))
    (bsplit (!(↑L : Int) == (0 : Int)) (RfV (5 : Int) a n (↑L : Int) b (Value.int IntKind.i64 (135 : Int))) (∀ (b_1 : Bool), bsplit (!b_1) (RfV (5 : Int) a n (↑L : Int) b (Value.int IntKind.i64 (100 : Int)))
    (bsplit (decide (f1 ≥ (1 : Int)))
    (bsplit (decide (f1 ≤ (255 : Int)))
    (bsplit (decide (f2 ≥ (1 : Int)))
    (bsplit (!decide (f2 ≤ (1099511627776 : Int))) (RfV (5 : Int) a n (↑L : Int) b (Value.int IntKind.i64 (1 : Int)))
    (bsplit (decide (n < (0 : Int))) (RfV (5 : Int) a n (↑L : Int) b (Value.int IntKind.i64 (132 : Int)))
    (bsplit (decide (n > IntKind.i64.wrap ((1048576 : Int) * b))) (RfV (5 : Int) a n (↑L : Int) b (Value.int IntKind.i64 (132 : Int))) (RfV (5 : Int) a n (↑L : Int) b (Value.int IntKind.i64 (0 : Int)))))) (RfV (5 : Int) a n (↑L : Int) b (Value.int IntKind.i64 (1 : Int)))) (RfV (5 : Int) a n (↑L : Int) b (Value.int IntKind.i64 (1 : Int)))) (RfV (5 : Int) a n (↑L : Int) b (Value.int IntKind.i64 (1 : Int)))))) (RfV (5 : Int) a n (↑L : Int) b (Value.int IntKind.i64 (135 : Int)))))) (by kernel_rfl) ?_
  have ht : ∀ r, RfV 5 a n L b (.int .i64 r) := fun r => RfV.triv (by omega) (by omega)
  repeat' (first | exact ht _ | refine bsplit_iff.2 ⟨fun _ => ?_, fun _ => ?_⟩ | refine ⟨?_, ?_⟩ | intro _)
theorem rf6 (f1 f2 n1 n2 a n x1 x2 x3 b x5 : Int) (nm ot : ByteArray) (L cl cc : Nat) : Hold (XF Tryz.prog c2 900 Tryz.f16 (rfArgs 6 f1 f2 n1 n2 a n x1 x2 x3 b x5 nm ot L cl cc) [.dead, .dead] fun v _ => RfV 6 a n L b v) := by
  refine by_nf (B := bsplit (!ot.data.toList == { data := #[] : ByteArray }.data.toList) (RfV (6 : Int) a n (↑L : Int) b (Value.int IntKind.i64 (135 : Int)))
    (bsplit (!(n1 == (0 : Int) && (n2 == (0 : Int) && true))) (RfV (6 : Int) a n (↑L : Int) b (Value.int IntKind.i64 (135 : Int)))
    (bsplit (a == (0 : Int))
    (bsplit (!(↑L : Int) == (0 : Int)) (RfV (6 : Int) a n (↑L : Int) b (Value.int IntKind.i64 (135 : Int))) (∀ (b_1 : Bool), bsplit (!b_1) (RfV (6 : Int) a n (↑L : Int) b (Value.int IntKind.i64 (100 : Int)))
    (bsplit (decide (f1 ≥ (1 : Int)))
    (bsplit (decide (f1 ≤ (255 : Int)))
    (bsplit (decide (f2 ≥ (1 : Int)))
    (bsplit (!decide (f2 ≤ (1099511627776 : Int))) (RfV (6 : Int) a n (↑L : Int) b (Value.int IntKind.i64 (1 : Int)))
    (bsplit (decide (n < (0 : Int))) (RfV (6 : Int) a n (↑L : Int) b (Value.int IntKind.i64 (132 : Int)))
    (bsplit (decide (n > IntKind.i64.wrap ((1048576 : Int) * b))) (RfV (6 : Int) a n (↑L : Int) b (Value.int IntKind.i64 (132 : Int))) (RfV (6 : Int) a n (↑L : Int) b (Value.int IntKind.i64 (0 : Int)))))) (RfV (6 : Int) a n (↑L : Int) b (Value.int IntKind.i64 (1 : Int)))) (RfV (6 : Int) a n (↑L : Int) b (Value.int IntKind.i64 (1 : Int)))) (RfV (6 : Int) a n (↑L : Int) b (Value.int IntKind.i64 (1 : Int)))))) (RfV (6 : Int) a n (↑L : Int) b (Value.int IntKind.i64 (135 : Int)))))) (by kernel_rfl) ?_
  have ht : ∀ r, RfV 6 a n L b (.int .i64 r) := fun r => RfV.triv (by omega) (by omega)
  repeat' (first | exact ht _ | refine bsplit_iff.2 ⟨fun _ => ?_, fun _ => ?_⟩ | refine ⟨?_, ?_⟩ | intro _)
theorem rf7 (f1 f2 n1 n2 a n x1 x2 x3 b x5 : Int) (nm ot : ByteArray) (L cl cc : Nat) : Hold (XF Tryz.prog c2 900 Tryz.f16 (rfArgs 7 f1 f2 n1 n2 a n x1 x2 x3 b x5 nm ot L cl cc) [.dead, .dead] fun v _ => RfV 7 a n L b v) := by
  refine by_nf (B := bsplit (!ot.data.toList == { data := #[] : ByteArray }.data.toList) (RfV (7 : Int) a n (↑L : Int) b (Value.int IntKind.i64 (135 : Int)))
    (bsplit (a == (0 : Int))
    (bsplit (!(↑L : Int) == (0 : Int)) (RfV (7 : Int) a n (↑L : Int) b (Value.int IntKind.i64 (135 : Int))) (∀ (b_1 : Bool), bsplit (!b_1) (RfV (7 : Int) a n (↑L : Int) b (Value.int IntKind.i64 (100 : Int)))
    (bsplit (decide (f1 ≥ (1 : Int)))
    (bsplit (decide (f1 ≤ (255 : Int)))
    (bsplit (decide (f2 ≥ (1 : Int)))
    (bsplit (!decide (f2 ≤ (1099511627776 : Int))) (RfV (7 : Int) a n (↑L : Int) b (Value.int IntKind.i64 (1 : Int)))
    (bsplit (decide (n1 ≥ (1 : Int)))
    (bsplit (decide (n1 ≤ (255 : Int)))
    (bsplit (decide (n2 ≥ (1 : Int)))
    (bsplit (!decide (n2 ≤ (1099511627776 : Int))) (RfV (7 : Int) a n (↑L : Int) b (Value.int IntKind.i64 (1 : Int)))
    (bsplit (decide (n < (0 : Int))) (RfV (7 : Int) a n (↑L : Int) b (Value.int IntKind.i64 (132 : Int)))
    (bsplit (decide (n > IntKind.i64.wrap ((1048576 : Int) * b))) (RfV (7 : Int) a n (↑L : Int) b (Value.int IntKind.i64 (132 : Int))) (RfV (7 : Int) a n (↑L : Int) b (Value.int IntKind.i64 (0 : Int)))))) (RfV (7 : Int) a n (↑L : Int) b (Value.int IntKind.i64 (1 : Int)))) (RfV (7 : Int) a n (↑L : Int) b (Value.int IntKind.i64 (1 : Int)))) (RfV (7 : Int) a n (↑L : Int) b (Value.int IntKind.i64 (1 : Int))))) (RfV (7 : Int) a n (↑L : Int) b (Value.int IntKind.i64 (1 : Int)))) (RfV (7 : Int) a n (↑L : Int) b (Value.int IntKind.i64 (1 : Int)))) (RfV (7 : Int) a n (↑L : Int) b (Value.int IntKind.i64 (1 : Int)))))) (RfV (7 : Int) a n (↑L : Int) b (Value.int IntKind.i64 (135 : Int))))) (by kernel_rfl) ?_
  have ht : ∀ r, RfV 7 a n L b (.int .i64 r) := fun r => RfV.triv (by omega) (by omega)
  repeat' (first | exact ht _ | refine bsplit_iff.2 ⟨fun _ => ?_, fun _ => ?_⟩ | refine ⟨?_, ?_⟩ | intro _)
theorem rf8 (f1 f2 n1 n2 a n x1 x2 x3 b x5 : Int) (nm ot : ByteArray) (L cl cc : Nat) : Hold (XF Tryz.prog c2 900 Tryz.f16 (rfArgs 8 f1 f2 n1 n2 a n x1 x2 x3 b x5 nm ot L cl cc) [.dead, .dead] fun v _ => RfV 8 a n L b v) := by
  refine by_nf (B := bsplit (!nm.data.toList == { data := #[] : ByteArray }.data.toList) (RfV (8 : Int) a n (↑L : Int) b (Value.int IntKind.i64 (135 : Int)))
    (bsplit (!ot.data.toList == { data := #[] : ByteArray }.data.toList) (RfV (8 : Int) a n (↑L : Int) b (Value.int IntKind.i64 (135 : Int)))
    (bsplit (!(n1 == (0 : Int) && (n2 == (0 : Int) && true))) (RfV (8 : Int) a n (↑L : Int) b (Value.int IntKind.i64 (135 : Int)))
    (bsplit (a == (0 : Int))
    (bsplit (!(↑L : Int) == (0 : Int)) (RfV (8 : Int) a n (↑L : Int) b (Value.int IntKind.i64 (135 : Int)))
    (bsplit (decide (f1 ≥ (1 : Int)))
    (bsplit (decide (f1 ≤ (255 : Int)))
    (bsplit (decide (f2 ≥ (1 : Int)))
    (bsplit (!decide (f2 ≤ (1099511627776 : Int))) (RfV (8 : Int) a n (↑L : Int) b (Value.int IntKind.i64 (1 : Int)))
    (bsplit (decide (n < (0 : Int))) (RfV (8 : Int) a n (↑L : Int) b (Value.int IntKind.i64 (130 : Int)))
    (bsplit (decide (n ≥ (1048576 : Int))) (RfV (8 : Int) a n (↑L : Int) b (Value.int IntKind.i64 (130 : Int))) (RfV (8 : Int) a n (↑L : Int) b (Value.int IntKind.i64 (0 : Int)))))) (RfV (8 : Int) a n (↑L : Int) b (Value.int IntKind.i64 (1 : Int)))) (RfV (8 : Int) a n (↑L : Int) b (Value.int IntKind.i64 (1 : Int)))) (RfV (8 : Int) a n (↑L : Int) b (Value.int IntKind.i64 (1 : Int))))) (RfV (8 : Int) a n (↑L : Int) b (Value.int IntKind.i64 (135 : Int))))))) (by kernel_rfl) ?_
  have ht : ∀ r, RfV 8 a n L b (.int .i64 r) := fun r => RfV.triv (by omega) (by omega)
  repeat' (first | exact ht _ | refine bsplit_iff.2 ⟨fun _ => ?_, fun _ => ?_⟩ | refine ⟨?_, ?_⟩ | intro _)
theorem rf9 (f1 f2 n1 n2 a n x1 x2 x3 b x5 : Int) (nm ot : ByteArray) (L cl cc : Nat) : Hold (XF Tryz.prog c2 900 Tryz.f16 (rfArgs 9 f1 f2 n1 n2 a n x1 x2 x3 b x5 nm ot L cl cc) [.dead, .dead] fun v _ => RfV 9 a n L b v) := by
  refine by_nf (B := bsplit (!nm.data.toList == { data := #[] : ByteArray }.data.toList) (RfV (9 : Int) a n (↑L : Int) b (Value.int IntKind.i64 (135 : Int)))
    (bsplit (!ot.data.toList == { data := #[] : ByteArray }.data.toList) (RfV (9 : Int) a n (↑L : Int) b (Value.int IntKind.i64 (135 : Int)))
    (bsplit (!(n1 == (0 : Int) && (n2 == (0 : Int) && true))) (RfV (9 : Int) a n (↑L : Int) b (Value.int IntKind.i64 (135 : Int)))
    (bsplit (a == (0 : Int))
    (bsplit (decide (f1 ≥ (1 : Int)))
    (bsplit (decide (f1 ≤ (255 : Int)))
    (bsplit (decide (f2 ≥ (1 : Int)))
    (bsplit (!decide (f2 ≤ (1099511627776 : Int))) (RfV (9 : Int) a n (↑L : Int) b (Value.int IntKind.i64 (1 : Int)))
    (bsplit (decide (n < (0 : Int))) (RfV (9 : Int) a n (↑L : Int) b (Value.int IntKind.i64 (130 : Int)))
    (bsplit (decide (n ≥ (1048576 : Int))) (RfV (9 : Int) a n (↑L : Int) b (Value.int IntKind.i64 (130 : Int)))
    (bsplit ((↑L : Int) != b) (RfV (9 : Int) a n (↑L : Int) b (Value.int IntKind.i64 (131 : Int))) (RfV (9 : Int) a n (↑L : Int) b (Value.int IntKind.i64 (0 : Int))))))) (RfV (9 : Int) a n (↑L : Int) b (Value.int IntKind.i64 (1 : Int)))) (RfV (9 : Int) a n (↑L : Int) b (Value.int IntKind.i64 (1 : Int)))) (RfV (9 : Int) a n (↑L : Int) b (Value.int IntKind.i64 (1 : Int)))) (RfV (9 : Int) a n (↑L : Int) b (Value.int IntKind.i64 (135 : Int))))))) (by kernel_rfl) ?_
  have ht : ∀ r, RfV 9 a n L b (.int .i64 r) := fun r => RfV.triv (by omega) (by omega)
  repeat' (first | exact ht _ | refine bsplit_iff.2 ⟨fun _ => ?_, fun _ => ?_⟩ | refine ⟨?_, ?_⟩ | intro _)
theorem rf10 (f1 f2 n1 n2 a n x1 x2 x3 b x5 : Int) (nm ot : ByteArray) (L cl cc : Nat) (hb : 1 ≤ b ∧ b ≤ 4096) : Hold (XF Tryz.prog c2 900 Tryz.f16 (rfArgs 10 f1 f2 n1 n2 a n x1 x2 x3 b x5 nm ot L cl cc) [.dead, .dead] fun v _ => RfV 10 a n L b v) := by
  refine by_nf (B := bsplit (!ot.data.toList == { data := #[] : ByteArray }.data.toList) (RfV (10 : Int) a n (↑L : Int) b (Value.int IntKind.i64 (135 : Int)))
    (bsplit (!(f1 == (0 : Int) && (f2 == (0 : Int) && true))) (RfV (10 : Int) a n (↑L : Int) b (Value.int IntKind.i64 (135 : Int)))
    (bsplit (!(n1 == (0 : Int) && (n2 == (0 : Int) && true))) (RfV (10 : Int) a n (↑L : Int) b (Value.int IntKind.i64 (135 : Int)))
    (bsplit (!(↑L : Int) == (0 : Int)) (RfV (10 : Int) a n (↑L : Int) b (Value.int IntKind.i64 (135 : Int))) (∀ (b_1 : Bool), bsplit (!b_1) (RfV (10 : Int) a n (↑L : Int) b (Value.int IntKind.i64 (100 : Int)))
    (bsplit (decide (a < (0 : Int))) (RfV (10 : Int) a n (↑L : Int) b (Value.int IntKind.i64 (132 : Int)))
    (bsplit (decide (n < (0 : Int))) (RfV (10 : Int) a n (↑L : Int) b (Value.int IntKind.i64 (132 : Int)))
    (bsplit (decide (a > IntKind.i64.wrap ((1048576 : Int) * b))) (RfV (10 : Int) a n (↑L : Int) b (Value.int IntKind.i64 (132 : Int)))
    (bsplit (decide (n > IntKind.i64.wrap (IntKind.i64.wrap ((1048576 : Int) * b) - a))) (RfV (10 : Int) a n (↑L : Int) b (Value.int IntKind.i64 (132 : Int))) (RfV (10 : Int) a n (↑L : Int) b (Value.int IntKind.i64 (0 : Int)))))))))))) (by kernel_rfl) ?_
  have hn : ∀ r, r ≠ 0 → RfV 10 a n L b (.int .i64 r) := fun r h => RfV.no h
  rw [w64 (1048576 * b) (by omega)]
  refine bsplit_iff.2 ⟨fun _ => hn _ (by decide), fun _ => bsplit_iff.2 ⟨fun _ => hn _ (by decide), fun _ => bsplit_iff.2 ⟨fun _ => hn _ (by decide), fun _ => bsplit_iff.2 ⟨fun _ => hn _ (by decide), fun _ bb => bsplit_iff.2 ⟨fun _ => hn _ (by decide), fun _ => bsplit_iff.2 ⟨fun _ => hn _ (by decide), fun h1 => bsplit_iff.2 ⟨fun _ => hn _ (by decide), fun h2 => bsplit_iff.2 ⟨fun _ => hn _ (by decide), fun h3 => ?_⟩⟩⟩⟩⟩⟩⟩⟩
  have h1 := of_decide_eq_false h1
  have h2 := of_decide_eq_false h2
  have h3 := of_decide_eq_false h3
  rw [w64 (1048576 * b - a) (by omega)]
  refine bsplit_iff.2 ⟨fun _ => hn _ (by decide), fun h4 => ?_⟩
  have h4 := of_decide_eq_false h4
  exact ⟨0, rfl, ⟨fun _ => by omega, fun _ _ => by omega, fun _ h => absurd h (by decide), fun _ h => absurd h (by decide)⟩⟩
theorem rf11 (f1 f2 n1 n2 a n x1 x2 x3 b x5 : Int) (nm ot : ByteArray) (L cl cc : Nat) (hb : 1 ≤ b ∧ b ≤ 4096) : Hold (XF Tryz.prog c2 900 Tryz.f16 (rfArgs 11 f1 f2 n1 n2 a n x1 x2 x3 b x5 nm ot L cl cc) [.dead, .dead] fun v _ => RfV 11 a n L b v) := by
  refine by_nf (B := bsplit (!ot.data.toList == { data := #[] : ByteArray }.data.toList) (RfV (11 : Int) a n (↑L : Int) b (Value.int IntKind.i64 (135 : Int)))
    (bsplit (!(f1 == (0 : Int) && (f2 == (0 : Int) && true))) (RfV (11 : Int) a n (↑L : Int) b (Value.int IntKind.i64 (135 : Int)))
    (bsplit (!(n1 == (0 : Int) && (n2 == (0 : Int) && true))) (RfV (11 : Int) a n (↑L : Int) b (Value.int IntKind.i64 (135 : Int)))
    (bsplit (n == (0 : Int)) (∀ (b_1 : Bool), bsplit (!b_1) (RfV (11 : Int) a n (↑L : Int) b (Value.int IntKind.i64 (100 : Int)))
    (bsplit (decide (a < (0 : Int))) (RfV (11 : Int) a n (↑L : Int) b (Value.int IntKind.i64 (132 : Int)))
    (bsplit (decide (a > IntKind.i64.wrap ((1048576 : Int) * b))) (RfV (11 : Int) a n (↑L : Int) b (Value.int IntKind.i64 (132 : Int)))
    (bsplit (decide ((↑L : Int) > IntKind.i64.wrap (IntKind.i64.wrap ((1048576 : Int) * b) - a))) (RfV (11 : Int) a n (↑L : Int) b (Value.int IntKind.i64 (132 : Int))) (RfV (11 : Int) a n (↑L : Int) b (Value.int IntKind.i64 (0 : Int))))))) (RfV (11 : Int) a n (↑L : Int) b (Value.int IntKind.i64 (135 : Int))))))) (by kernel_rfl) ?_
  have hn : ∀ r, r ≠ 0 → RfV 11 a n L b (.int .i64 r) := fun r h => RfV.no h
  rw [w64 (1048576 * b) (by omega)]
  refine bsplit_iff.2 ⟨fun _ => hn _ (by decide), fun _ => bsplit_iff.2 ⟨fun _ => hn _ (by decide), fun _ => bsplit_iff.2 ⟨fun _ => hn _ (by decide), fun _ => bsplit_iff.2 ⟨fun _ bb => bsplit_iff.2 ⟨fun _ => hn _ (by decide), fun _ => bsplit_iff.2 ⟨fun _ => hn _ (by decide), fun h1 => bsplit_iff.2 ⟨fun _ => hn _ (by decide), fun h2 => ?_⟩⟩⟩, fun _ => hn _ (by decide)⟩⟩⟩⟩
  have h1 := of_decide_eq_false h1
  have h2 := of_decide_eq_false h2
  rw [w64 (1048576 * b - a) (by omega)]
  refine bsplit_iff.2 ⟨fun _ => hn _ (by decide), fun h4 => ?_⟩
  have h4 := of_decide_eq_false h4
  exact ⟨0, rfl, ⟨fun _ => by omega, fun _ h => absurd h (by decide), fun _ _ => by omega, fun _ h => absurd h (by decide)⟩⟩
theorem rf12 (f1 f2 n1 n2 a n x1 x2 x3 b x5 : Int) (nm ot : ByteArray) (L cl cc : Nat) (hb : 1 ≤ b ∧ b ≤ 4096) : Hold (XF Tryz.prog c2 900 Tryz.f16 (rfArgs 12 f1 f2 n1 n2 a n x1 x2 x3 b x5 nm ot L cl cc) [.dead, .dead] fun v _ => RfV 12 a n L b v) := by
  refine by_nf (B := bsplit (!ot.data.toList == { data := #[] : ByteArray }.data.toList) (RfV (12 : Int) a n (↑L : Int) b (Value.int IntKind.i64 (135 : Int)))
    (bsplit (!(f1 == (0 : Int) && (f2 == (0 : Int) && true))) (RfV (12 : Int) a n (↑L : Int) b (Value.int IntKind.i64 (135 : Int)))
    (bsplit (!(n1 == (0 : Int) && (n2 == (0 : Int) && true))) (RfV (12 : Int) a n (↑L : Int) b (Value.int IntKind.i64 (135 : Int)))
    (bsplit (a == (0 : Int))
    (bsplit (!(↑L : Int) == (0 : Int)) (RfV (12 : Int) a n (↑L : Int) b (Value.int IntKind.i64 (135 : Int))) (∀ (b_1 : Bool), bsplit (!b_1) (RfV (12 : Int) a n (↑L : Int) b (Value.int IntKind.i64 (100 : Int)))
    (bsplit (decide (n < (0 : Int))) (RfV (12 : Int) a n (↑L : Int) b (Value.int IntKind.i64 (132 : Int)))
    (bsplit (decide (n > IntKind.i64.wrap ((1048576 : Int) * b))) (RfV (12 : Int) a n (↑L : Int) b (Value.int IntKind.i64 (132 : Int))) (RfV (12 : Int) a n (↑L : Int) b (Value.int IntKind.i64 (0 : Int))))))) (RfV (12 : Int) a n (↑L : Int) b (Value.int IntKind.i64 (135 : Int))))))) (by kernel_rfl) ?_
  have hn : ∀ r, r ≠ 0 → RfV 12 a n L b (.int .i64 r) := fun r h => RfV.no h
  rw [w64 (1048576 * b) (by omega)]
  refine bsplit_iff.2 ⟨fun _ => hn _ (by decide), fun _ => bsplit_iff.2 ⟨fun _ => hn _ (by decide), fun _ => bsplit_iff.2 ⟨fun _ => hn _ (by decide), fun _ => bsplit_iff.2 ⟨fun _ => bsplit_iff.2 ⟨fun _ => hn _ (by decide), fun _ bb => bsplit_iff.2 ⟨fun _ => hn _ (by decide), fun _ => bsplit_iff.2 ⟨fun _ => hn _ (by decide), fun h1 => bsplit_iff.2 ⟨fun _ => hn _ (by decide), fun h2 => ?_⟩⟩⟩⟩, fun _ => hn _ (by decide)⟩⟩⟩⟩
  have h1 := of_decide_eq_false h1
  have h2 := of_decide_eq_false h2
  exact ⟨0, rfl, ⟨fun _ => by omega, fun _ h => absurd h (by decide), fun _ h => absurd h (by decide), fun _ _ => by omega⟩⟩
theorem rf13 (f1 f2 n1 n2 a n x1 x2 x3 b x5 : Int) (nm ot : ByteArray) (L cl cc : Nat) : Hold (XF Tryz.prog c2 900 Tryz.f16 (rfArgs 13 f1 f2 n1 n2 a n x1 x2 x3 b x5 nm ot L cl cc) [.dead, .dead] fun v _ => RfV 13 a n L b v) := by
  refine by_nf (B := bsplit (!(f1 == (0 : Int) && (f2 == (0 : Int) && true))) (RfV (13 : Int) a n (↑L : Int) b (Value.int IntKind.i64 (135 : Int)))
    (bsplit (!(n1 == (0 : Int) && (n2 == (0 : Int) && true))) (RfV (13 : Int) a n (↑L : Int) b (Value.int IntKind.i64 (135 : Int)))
    (bsplit (a == (0 : Int))
    (bsplit (n == (0 : Int))
    (bsplit (!(↑L : Int) == (0 : Int)) (RfV (13 : Int) a n (↑L : Int) b (Value.int IntKind.i64 (135 : Int))) (∀ (b_1 : Bool), bsplit (!b_1) (RfV (13 : Int) a n (↑L : Int) b (Value.int IntKind.i64 (100 : Int))) (∀ (b_2 : Bool), bsplit (!b_2) (RfV (13 : Int) a n (↑L : Int) b (Value.int IntKind.i64 (100 : Int))) (RfV (13 : Int) a n (↑L : Int) b (Value.int IntKind.i64 (0 : Int)))))) (RfV (13 : Int) a n (↑L : Int) b (Value.int IntKind.i64 (135 : Int)))) (RfV (13 : Int) a n (↑L : Int) b (Value.int IntKind.i64 (135 : Int)))))) (by kernel_rfl) ?_
  have ht : ∀ r, RfV 13 a n L b (.int .i64 r) := fun r => RfV.triv (by omega) (by omega)
  repeat' (first | exact ht _ | refine bsplit_iff.2 ⟨fun _ => ?_, fun _ => ?_⟩ | refine ⟨?_, ?_⟩ | intro _)
noncomputable def cF : Ctx := ctxG [] [(50, fun _ _ _ => False)] []
theorem rfo (k f1 f2 n1 n2 a n x1 x2 x3 b x5 : Int) (nm ot : ByteArray) (L cl cc : Nat) (hk : k < 1 ∨ 13 < k) : Hold (XF Tryz.prog cF 900 Tryz.f16 (rfArgs k f1 f2 n1 n2 a n x1 x2 x3 b x5 nm ot L cl cc) [.dead, .dead] fun v _ => RfV k a n L b v) := by
  refine by_nf (B := bsplit (decide (k < (1 : Int))) (RfV k a n (↑L : Int) b (Value.int IntKind.i64 (135 : Int)))
    (bsplit (decide (k > (13 : Int))) (RfV k a n (↑L : Int) b (Value.int IntKind.i64 (135 : Int))) False)) (by kernel_rfl) ?_
  refine bsplit_iff.2 ⟨fun _ => RfV.no (by decide), fun h1 => bsplit_iff.2 ⟨fun _ => RfV.no (by decide), fun h2 => ?_⟩⟩
  have h1 := of_decide_eq_false h1
  have h2 := of_decide_eq_false h2
  omega
end Go.Fil
