/- FileParts: how many parts, by the program and by the reference. -/
import Derived.Test.YtmbkfaongfmieaaGreatFR
set_option linter.unusedSimpArgs false
set_option linter.unusedVariables false
set_option linter.unusedSectionVars false
set_option maxRecDepth 100000
namespace Go.Fil
open Go Go.X Go.Proofs
variable [WI]

/-- how many parts: reading, writing, cutting, copying -/
def cnt (k a n L sz b : Int) : Int :=
  if k = 10 then (let e := if sz < a + n then sz else a + n; if a < e then (e - 1) / b - a / b + 1 else 0)
  else if k = 11 then (if L = 0 then 0 else (a + L - 1) / b - a / b + 1 + (if a % b ≠ 0 ∨ (a / b = (a + L - 1) / b ∧ (a + L) % b ≠ 0) then 1 else 0) + (if a / b ≠ (a + L - 1) / b ∧ (a + L) % b ≠ 0 then 1 else 0) + (if sz < a + L then 1 else 0))
  else if k = 12 then (if n < sz then (sz - 1) / b - n / b + 1 + (if n % b ≠ 0 then 1 else 0) + 1 else if n ≠ sz then 1 else 0)
  else if k = 13 then (if sz = 0 then 1 else 2 + 2 * ((sz - 1) / b + 1))
  else 0
structure Fx (k a n L sz b : Int) : Prop where
  kk : 1 ≤ k ∧ k ≤ 13
  b1 : 1 ≤ b
  b2 : b ≤ 4096
  s1 : 0 ≤ sz
  s2 : sz ≤ 1048576 * b
  k10 : k = 10 → 0 ≤ a ∧ 0 ≤ n ∧ a + n ≤ 1048576 * b
  k11 : k = 11 → 0 ≤ a ∧ a + L ≤ 1048576 * b
  k12 : k = 12 → 0 ≤ n ∧ n ≤ 1048576 * b
structure CntV (k a n L sz b : Int) (v : Value) : Prop where
  ex : v = .int .i64 (cnt k a n L sz b)
theorem tdq {x b m : Int} (h1 : 0 ≤ x) (h2 : x ≤ m * b) (hb : 1 ≤ b) : x.tdiv b = x / b ∧ 0 ≤ x / b ∧ x / b ≤ m := by
  refine ⟨Int.tdiv_eq_ediv_of_nonneg h1, Int.ediv_nonneg h1 (by omega), ?_⟩
  have := Int.ediv_le_ediv (show 0 < b by omega) h2
  rwa [Int.mul_ediv_cancel _ (by omega)] at this
theorem divle {x y b : Int} (hb : 1 ≤ b) (h : x ≤ y) : x / b ≤ y / b := Int.ediv_le_ediv (by omega) h
theorem wr11 {a E b : Int} (ha : 0 ≤ a) (hE : a < E) (hb : 1 ≤ b) : a / b ≤ (E - 1) / b ∧ (a > a / b * b ↔ a % b ≠ 0) ∧ (E < ((E - 1) / b + 1) * b ↔ E % b ≠ 0) ∧ (E < (a / b + 1) * b ↔ (a / b = (E - 1) / b ∧ E % b ≠ 0)) ∧
    (0 ≤ a / b * b ∧ a / b * b ≤ a) ∧ (0 ≤ ((E - 1) / b + 1) * b ∧ ((E - 1) / b + 1) * b ≤ E - 1 + b) ∧ (0 ≤ (a / b + 1) * b ∧ (a / b + 1) * b ≤ a + b) := by
  have h1 := divle hb (show a ≤ E - 1 by omega)
  have h2 : a = b * (a / b) + a % b := (Int.mul_ediv_add_emod a b).symm
  have h3 := Int.emod_nonneg a (show b ≠ 0 by omega)
  have h4 := Int.emod_lt_of_pos a (show 0 < b by omega)
  have h5 : E - 1 = b * ((E - 1) / b) + (E - 1) % b := (Int.mul_ediv_add_emod (E - 1) b).symm
  have h6 := Int.emod_nonneg (E - 1) (show b ≠ 0 by omega)
  have h7 := Int.emod_lt_of_pos (E - 1) (show 0 < b by omega)
  have h8 : E % b = (if (E - 1) % b + 1 = b then 0 else (E - 1) % b + 1) := by
    have : E = b * ((E - 1) / b) + ((E - 1) % b + 1) := by omega
    conv => lhs; rw [this]
    rw [Int.add_comm (b * _), Int.add_mul_emod_self_left]
    split
    · rename_i h; rw [h, Int.emod_self]
    · exact Int.emod_eq_of_lt (by omega) (by omega)
  have ha0 : 0 ≤ a / b := Int.ediv_nonneg ha (by omega)
  have he0 : 0 ≤ (E - 1) / b := Int.ediv_nonneg (by omega) (by omega)
  have m1 : 0 ≤ b * (a / b) := Int.mul_nonneg (by omega) ha0
  have m2 : 0 ≤ b * ((E - 1) / b) := Int.mul_nonneg (by omega) he0
  have d1 : E < (a / b + 1) * b → a / b = (E - 1) / b := fun h => by
    have := Int.ediv_lt_of_lt_mul (show 0 < b by omega) (show E - 1 < (a / b + 1) * b by omega)
    omega
  have e1 : a / b * b = b * (a / b) := Int.mul_comm _ _
  have e2 : (a / b + 1) * b = b * (a / b) + b := by rw [Int.add_mul, Int.mul_comm]; omega
  have e3 : ((E - 1) / b + 1) * b = b * ((E - 1) / b) + b := by rw [Int.add_mul, Int.mul_comm]; omega
  refine ⟨h1, ?_, ?_, ?_, by omega, by omega, by omega⟩
  · omega
  · split at h8 <;> omega
  · constructor
    · intro h
      have h9 := d1 h
      rw [e2, h9] at h
      refine ⟨h9, ?_⟩
      split at h8 <;> omega
    · rintro ⟨h9, h⟩
      rw [e2, h9]
      split at h8 <;> omega
noncomputable def c3 : Ctx := ctxG [] [(53, inl Tryz.prog c0 600 Tryz.f53)] []
def ptArgs (k f1 f2 n1 n2 a n g1 g2 sz b : Int) (nm ot e0 : ByteArray) (L : Nat) : List Value := [.agg ⟨[.int .i64 k, .string nm, .string ot, .int .i64 f1, .int .i64 f2, .int .i64 n1, .int .i64 n2, .int .i64 a, .int .i64 n, .slice (some ⟨0, 3, some 0⟩) L 0]⟩,
  .agg ⟨[.string e0, .int .i64 g1, .int .i64 g2, .int .i64 sz]⟩, .int .i64 b]
theorem p1 (f1 f2 n1 n2 a n g1 g2 sz b : Int) (nm ot e0 : ByteArray) (L : Nat) (h : Fx 1 a n L sz b) : Hold (XF Tryz.prog c3 900 Tryz.f17 (ptArgs 1 f1 f2 n1 n2 a n g1 g2 sz b nm ot e0 L) [.dead] fun v _ => CntV 1 a n L sz b v) := by
  refine by_nf (B := bsplit (decide (b < (1 : Int))) (CntV (1 : Int) a n (↑L : Int) sz b (Value.int IntKind.i64 (0 : Int))) (CntV (1 : Int) a n (↑L : Int) sz b (Value.int IntKind.i64 (0 : Int)))) (by kernel_rfl) ?_
  exact bsplit_iff.2 ⟨fun _ => ⟨rfl⟩, fun _ => ⟨rfl⟩⟩
theorem q1 (f1 f2 n1 n2 a n g1 g2 sz b : Int) (nm ot e0 : ByteArray) (L : Nat) (h : Fx 1 a n L sz b) : Hold (XF Tryz.prog c0 900 Tryz.f18 (ptArgs 1 f1 f2 n1 n2 a n g1 g2 sz b nm ot e0 L) [.dead] fun v _ => CntV 1 a n L sz b v) := by
  refine by_nf (B := CntV (1 : Int) a n (↑L : Int) sz b (Value.int IntKind.i64 (0 : Int))) (by kernel_rfl) ?_
  exact ⟨rfl⟩
theorem p2 (f1 f2 n1 n2 a n g1 g2 sz b : Int) (nm ot e0 : ByteArray) (L : Nat) (h : Fx 2 a n L sz b) : Hold (XF Tryz.prog c3 900 Tryz.f17 (ptArgs 2 f1 f2 n1 n2 a n g1 g2 sz b nm ot e0 L) [.dead] fun v _ => CntV 2 a n L sz b v) := by
  refine by_nf (B := bsplit (decide (b < (1 : Int))) (CntV (2 : Int) a n (↑L : Int) sz b (Value.int IntKind.i64 (0 : Int))) (CntV (2 : Int) a n (↑L : Int) sz b (Value.int IntKind.i64 (0 : Int)))) (by kernel_rfl) ?_
  exact bsplit_iff.2 ⟨fun _ => ⟨rfl⟩, fun _ => ⟨rfl⟩⟩
theorem q2 (f1 f2 n1 n2 a n g1 g2 sz b : Int) (nm ot e0 : ByteArray) (L : Nat) (h : Fx 2 a n L sz b) : Hold (XF Tryz.prog c0 900 Tryz.f18 (ptArgs 2 f1 f2 n1 n2 a n g1 g2 sz b nm ot e0 L) [.dead] fun v _ => CntV 2 a n L sz b v) := by
  refine by_nf (B := CntV (2 : Int) a n (↑L : Int) sz b (Value.int IntKind.i64 (0 : Int))) (by kernel_rfl) ?_
  exact ⟨rfl⟩
theorem p3 (f1 f2 n1 n2 a n g1 g2 sz b : Int) (nm ot e0 : ByteArray) (L : Nat) (h : Fx 3 a n L sz b) : Hold (XF Tryz.prog c3 900 Tryz.f17 (ptArgs 3 f1 f2 n1 n2 a n g1 g2 sz b nm ot e0 L) [.dead] fun v _ => CntV 3 a n L sz b v) := by
  refine by_nf (B := bsplit (decide (b < (1 : Int))) (CntV (3 : Int) a n (↑L : Int) sz b (Value.int IntKind.i64 (0 : Int))) (CntV (3 : Int) a n (↑L : Int) sz b (Value.int IntKind.i64 (0 : Int)))) (by kernel_rfl) ?_
  exact bsplit_iff.2 ⟨fun _ => ⟨rfl⟩, fun _ => ⟨rfl⟩⟩
theorem q3 (f1 f2 n1 n2 a n g1 g2 sz b : Int) (nm ot e0 : ByteArray) (L : Nat) (h : Fx 3 a n L sz b) : Hold (XF Tryz.prog c0 900 Tryz.f18 (ptArgs 3 f1 f2 n1 n2 a n g1 g2 sz b nm ot e0 L) [.dead] fun v _ => CntV 3 a n L sz b v) := by
  refine by_nf (B := CntV (3 : Int) a n (↑L : Int) sz b (Value.int IntKind.i64 (0 : Int))) (by kernel_rfl) ?_
  exact ⟨rfl⟩
theorem p4 (f1 f2 n1 n2 a n g1 g2 sz b : Int) (nm ot e0 : ByteArray) (L : Nat) (h : Fx 4 a n L sz b) : Hold (XF Tryz.prog c3 900 Tryz.f17 (ptArgs 4 f1 f2 n1 n2 a n g1 g2 sz b nm ot e0 L) [.dead] fun v _ => CntV 4 a n L sz b v) := by
  refine by_nf (B := bsplit (decide (b < (1 : Int))) (CntV (4 : Int) a n (↑L : Int) sz b (Value.int IntKind.i64 (0 : Int))) (CntV (4 : Int) a n (↑L : Int) sz b (Value.int IntKind.i64 (0 : Int)))) (by kernel_rfl) ?_
  exact bsplit_iff.2 ⟨fun _ => ⟨rfl⟩, fun _ => ⟨rfl⟩⟩
theorem q4 (f1 f2 n1 n2 a n g1 g2 sz b : Int) (nm ot e0 : ByteArray) (L : Nat) (h : Fx 4 a n L sz b) : Hold (XF Tryz.prog c0 900 Tryz.f18 (ptArgs 4 f1 f2 n1 n2 a n g1 g2 sz b nm ot e0 L) [.dead] fun v _ => CntV 4 a n L sz b v) := by
  refine by_nf (B := CntV (4 : Int) a n (↑L : Int) sz b (Value.int IntKind.i64 (0 : Int))) (by kernel_rfl) ?_
  exact ⟨rfl⟩
theorem p5 (f1 f2 n1 n2 a n g1 g2 sz b : Int) (nm ot e0 : ByteArray) (L : Nat) (h : Fx 5 a n L sz b) : Hold (XF Tryz.prog c3 900 Tryz.f17 (ptArgs 5 f1 f2 n1 n2 a n g1 g2 sz b nm ot e0 L) [.dead] fun v _ => CntV 5 a n L sz b v) := by
  refine by_nf (B := bsplit (decide (b < (1 : Int))) (CntV (5 : Int) a n (↑L : Int) sz b (Value.int IntKind.i64 (0 : Int))) (CntV (5 : Int) a n (↑L : Int) sz b (Value.int IntKind.i64 (0 : Int)))) (by kernel_rfl) ?_
  exact bsplit_iff.2 ⟨fun _ => ⟨rfl⟩, fun _ => ⟨rfl⟩⟩
theorem q5 (f1 f2 n1 n2 a n g1 g2 sz b : Int) (nm ot e0 : ByteArray) (L : Nat) (h : Fx 5 a n L sz b) : Hold (XF Tryz.prog c0 900 Tryz.f18 (ptArgs 5 f1 f2 n1 n2 a n g1 g2 sz b nm ot e0 L) [.dead] fun v _ => CntV 5 a n L sz b v) := by
  refine by_nf (B := CntV (5 : Int) a n (↑L : Int) sz b (Value.int IntKind.i64 (0 : Int))) (by kernel_rfl) ?_
  exact ⟨rfl⟩
theorem p6 (f1 f2 n1 n2 a n g1 g2 sz b : Int) (nm ot e0 : ByteArray) (L : Nat) (h : Fx 6 a n L sz b) : Hold (XF Tryz.prog c3 900 Tryz.f17 (ptArgs 6 f1 f2 n1 n2 a n g1 g2 sz b nm ot e0 L) [.dead] fun v _ => CntV 6 a n L sz b v) := by
  refine by_nf (B := bsplit (decide (b < (1 : Int))) (CntV (6 : Int) a n (↑L : Int) sz b (Value.int IntKind.i64 (0 : Int))) (CntV (6 : Int) a n (↑L : Int) sz b (Value.int IntKind.i64 (0 : Int)))) (by kernel_rfl) ?_
  exact bsplit_iff.2 ⟨fun _ => ⟨rfl⟩, fun _ => ⟨rfl⟩⟩
theorem q6 (f1 f2 n1 n2 a n g1 g2 sz b : Int) (nm ot e0 : ByteArray) (L : Nat) (h : Fx 6 a n L sz b) : Hold (XF Tryz.prog c0 900 Tryz.f18 (ptArgs 6 f1 f2 n1 n2 a n g1 g2 sz b nm ot e0 L) [.dead] fun v _ => CntV 6 a n L sz b v) := by
  refine by_nf (B := CntV (6 : Int) a n (↑L : Int) sz b (Value.int IntKind.i64 (0 : Int))) (by kernel_rfl) ?_
  exact ⟨rfl⟩
theorem p7 (f1 f2 n1 n2 a n g1 g2 sz b : Int) (nm ot e0 : ByteArray) (L : Nat) (h : Fx 7 a n L sz b) : Hold (XF Tryz.prog c3 900 Tryz.f17 (ptArgs 7 f1 f2 n1 n2 a n g1 g2 sz b nm ot e0 L) [.dead] fun v _ => CntV 7 a n L sz b v) := by
  refine by_nf (B := bsplit (decide (b < (1 : Int))) (CntV (7 : Int) a n (↑L : Int) sz b (Value.int IntKind.i64 (0 : Int))) (CntV (7 : Int) a n (↑L : Int) sz b (Value.int IntKind.i64 (0 : Int)))) (by kernel_rfl) ?_
  exact bsplit_iff.2 ⟨fun _ => ⟨rfl⟩, fun _ => ⟨rfl⟩⟩
theorem q7 (f1 f2 n1 n2 a n g1 g2 sz b : Int) (nm ot e0 : ByteArray) (L : Nat) (h : Fx 7 a n L sz b) : Hold (XF Tryz.prog c0 900 Tryz.f18 (ptArgs 7 f1 f2 n1 n2 a n g1 g2 sz b nm ot e0 L) [.dead] fun v _ => CntV 7 a n L sz b v) := by
  refine by_nf (B := CntV (7 : Int) a n (↑L : Int) sz b (Value.int IntKind.i64 (0 : Int))) (by kernel_rfl) ?_
  exact ⟨rfl⟩
theorem p8 (f1 f2 n1 n2 a n g1 g2 sz b : Int) (nm ot e0 : ByteArray) (L : Nat) (h : Fx 8 a n L sz b) : Hold (XF Tryz.prog c3 900 Tryz.f17 (ptArgs 8 f1 f2 n1 n2 a n g1 g2 sz b nm ot e0 L) [.dead] fun v _ => CntV 8 a n L sz b v) := by
  refine by_nf (B := bsplit (decide (b < (1 : Int))) (CntV (8 : Int) a n (↑L : Int) sz b (Value.int IntKind.i64 (0 : Int))) (CntV (8 : Int) a n (↑L : Int) sz b (Value.int IntKind.i64 (0 : Int)))) (by kernel_rfl) ?_
  exact bsplit_iff.2 ⟨fun _ => ⟨rfl⟩, fun _ => ⟨rfl⟩⟩
theorem q8 (f1 f2 n1 n2 a n g1 g2 sz b : Int) (nm ot e0 : ByteArray) (L : Nat) (h : Fx 8 a n L sz b) : Hold (XF Tryz.prog c0 900 Tryz.f18 (ptArgs 8 f1 f2 n1 n2 a n g1 g2 sz b nm ot e0 L) [.dead] fun v _ => CntV 8 a n L sz b v) := by
  refine by_nf (B := CntV (8 : Int) a n (↑L : Int) sz b (Value.int IntKind.i64 (0 : Int))) (by kernel_rfl) ?_
  exact ⟨rfl⟩
theorem p9 (f1 f2 n1 n2 a n g1 g2 sz b : Int) (nm ot e0 : ByteArray) (L : Nat) (h : Fx 9 a n L sz b) : Hold (XF Tryz.prog c3 900 Tryz.f17 (ptArgs 9 f1 f2 n1 n2 a n g1 g2 sz b nm ot e0 L) [.dead] fun v _ => CntV 9 a n L sz b v) := by
  refine by_nf (B := bsplit (decide (b < (1 : Int))) (CntV (9 : Int) a n (↑L : Int) sz b (Value.int IntKind.i64 (0 : Int))) (CntV (9 : Int) a n (↑L : Int) sz b (Value.int IntKind.i64 (0 : Int)))) (by kernel_rfl) ?_
  exact bsplit_iff.2 ⟨fun _ => ⟨rfl⟩, fun _ => ⟨rfl⟩⟩
theorem q9 (f1 f2 n1 n2 a n g1 g2 sz b : Int) (nm ot e0 : ByteArray) (L : Nat) (h : Fx 9 a n L sz b) : Hold (XF Tryz.prog c0 900 Tryz.f18 (ptArgs 9 f1 f2 n1 n2 a n g1 g2 sz b nm ot e0 L) [.dead] fun v _ => CntV 9 a n L sz b v) := by
  refine by_nf (B := CntV (9 : Int) a n (↑L : Int) sz b (Value.int IntKind.i64 (0 : Int))) (by kernel_rfl) ?_
  exact ⟨rfl⟩
theorem p10 (f1 f2 n1 n2 a n g1 g2 sz b : Int) (nm ot e0 : ByteArray) (L : Nat) (h : Fx 10 a n L sz b) : Hold (XF Tryz.prog c3 900 Tryz.f17 (ptArgs 10 f1 f2 n1 n2 a n g1 g2 sz b nm ot e0 L) [.dead] fun v _ => CntV 10 a n L sz b v) := by
  refine by_nf (B := bsplit (decide (b < (1 : Int))) (CntV (10 : Int) a n (↑L : Int) sz b (Value.int IntKind.i64 (0 : Int)))
    (bsplit (decide (a < if sz < IntKind.i64.wrap (a + n) then sz else IntKind.i64.wrap (a + n))) ((b = (0 : Int) → False) ∧
    (b = (0 : Int) → False) ∧
    CntV (10 : Int) a n (↑L : Int) sz b (Value.int IntKind.i64 (IntKind.i64.wrap (IntKind.i64.wrap (IntKind.i64.wrap ((IntKind.i64.wrap ((if sz < IntKind.i64.wrap (a + n) then sz else IntKind.i64.wrap (a + n)) - (1 : Int))).tdiv b) - IntKind.i64.wrap (a.tdiv b)) + (1 : Int))))) (CntV (10 : Int) a n (↑L : Int) sz b (Value.int IntKind.i64 (0 : Int))))) (by kernel_rfl) ?_
  obtain ⟨kk, b1, b2, s1, s2, h10, h11, h12⟩ := h
  have b0 : ¬ b = 0 := by omega
  have key : ∀ v : Int, v = cnt 10 a n L sz b → CntV 10 a n L sz b (Value.int .i64 v) := fun v h => ⟨by rw [h]⟩
  obtain ⟨a1, n1', an⟩ := h10 rfl
  have hc : cnt 10 a n L sz b = (if a < (if sz < a + n then sz else a + n) then ((if sz < a + n then sz else a + n) - 1) / b - a / b + 1 else 0) := by unfold cnt; rw [if_pos rfl]
  rw [w64 (a + n) (by omega)]
  obtain ⟨p1, p2, p3⟩ := tdq (x := a) (m := 1048576) a1 (by omega) b1
  generalize hE : (if sz < a + n then sz else a + n) = E at *
  have hE2 : 0 ≤ E ∧ E ≤ 1048576 * b := by rw [← hE]; split <;> omega
  refine bsplit_iff.2 ⟨fun h => absurd (of_decide_eq_true h) (by omega), fun _ => bsplit_iff.2 ⟨fun h => ?_, fun h => ⟨by rw [hc, if_neg (of_decide_eq_false h)]⟩⟩⟩
  have h := of_decide_eq_true h
  obtain ⟨q1, q2, q3⟩ := tdq (x := E - 1) (b := b) (m := 1048576) (by omega) (by omega) b1
  rw [w64 (E - 1) (by omega), q1, p1, w64 ((E - 1) / b) (by omega), w64 (a / b) (by omega), w64 ((E - 1) / b - a / b) (by omega), w64 ((E - 1) / b - a / b + 1) (by omega)]
  exact ⟨fun h => b0 h, fun h => b0 h, key _ (by rw [hc, if_pos h])⟩
theorem q10 (f1 f2 n1 n2 a n g1 g2 sz b : Int) (nm ot e0 : ByteArray) (L : Nat) (h : Fx 10 a n L sz b) : Hold (XF Tryz.prog c0 900 Tryz.f18 (ptArgs 10 f1 f2 n1 n2 a n g1 g2 sz b nm ot e0 L) [.dead] fun v _ => CntV 10 a n L sz b v) := by
  refine by_nf (B := bsplit (decide (sz < IntKind.i64.wrap (a + n)))
    (bsplit (decide (a ≥ sz)) (CntV (10 : Int) a n (↑L : Int) sz b (Value.int IntKind.i64 (0 : Int))) ((b = (0 : Int) → False) ∧
    (b = (0 : Int) → False) ∧
    CntV (10 : Int) a n (↑L : Int) sz b (Value.int IntKind.i64 (IntKind.i64.wrap (IntKind.i64.wrap (IntKind.i64.wrap ((IntKind.i64.wrap (sz - (1 : Int))).tdiv b) - IntKind.i64.wrap (a.tdiv b)) + (1 : Int))))))
    (bsplit (decide (a ≥ IntKind.i64.wrap (a + n))) (CntV (10 : Int) a n (↑L : Int) sz b (Value.int IntKind.i64 (0 : Int))) ((b = (0 : Int) → False) ∧
    (b = (0 : Int) → False) ∧
    CntV (10 : Int) a n (↑L : Int) sz b (Value.int IntKind.i64 (IntKind.i64.wrap (IntKind.i64.wrap (IntKind.i64.wrap ((IntKind.i64.wrap (IntKind.i64.wrap (a + n) - (1 : Int))).tdiv b) - IntKind.i64.wrap (a.tdiv b)) + (1 : Int))))))) (by kernel_rfl) ?_
  obtain ⟨kk, b1, b2, s1, s2, h10, h11, h12⟩ := h
  have b0 : ¬ b = 0 := by omega
  have key : ∀ v : Int, v = cnt 10 a n L sz b → CntV 10 a n L sz b (Value.int .i64 v) := fun v h => ⟨by rw [h]⟩
  obtain ⟨a1, n1', an⟩ := h10 rfl
  have hc : cnt 10 a n L sz b = (if a < (if sz < a + n then sz else a + n) then ((if sz < a + n then sz else a + n) - 1) / b - a / b + 1 else 0) := by unfold cnt; rw [if_pos rfl]
  rw [w64 (a + n) (by omega)]
  obtain ⟨p1, p2, p3⟩ := tdq (x := a) (m := 1048576) a1 (by omega) b1
  have step : ∀ E, 0 ≤ E → E ≤ 1048576 * b → (if sz < a + n then sz else a + n) = E → bsplit (decide (a ≥ E)) (CntV (10 : Int) a n (↑L : Int) sz b (Value.int IntKind.i64 (0 : Int))) ((b = (0 : Int) → False) ∧ (b = (0 : Int) → False) ∧
      CntV (10 : Int) a n (↑L : Int) sz b (Value.int IntKind.i64 (IntKind.i64.wrap (IntKind.i64.wrap (IntKind.i64.wrap ((IntKind.i64.wrap (E - (1 : Int))).tdiv b) - IntKind.i64.wrap (a.tdiv b)) + (1 : Int))))) := by
    intro E e1 e2 hE
    rw [hE] at hc
    refine bsplit_iff.2 ⟨fun h => ?_, fun h => ?_⟩
    · have h := of_decide_eq_true h
      exact ⟨by rw [hc, if_neg (by omega)]⟩
    · have h := of_decide_eq_false h
      obtain ⟨q1, q2, q3⟩ := tdq (x := E - 1) (b := b) (m := 1048576) (by omega) (by omega) b1
      rw [w64 (E - 1) (by omega), q1, p1, w64 ((E - 1) / b) (by omega), w64 (a / b) (by omega), w64 ((E - 1) / b - a / b) (by omega), w64 ((E - 1) / b - a / b + 1) (by omega)]
      exact ⟨fun h => b0 h, fun h => b0 h, key _ (by rw [hc, if_pos (by omega)])⟩
  exact bsplit_iff.2 ⟨fun h => step _ s1 (by omega) (if_pos (of_decide_eq_true h)), fun h => step _ (by omega) (by omega) (if_neg (of_decide_eq_false h))⟩
theorem p11 (f1 f2 n1 n2 a n g1 g2 sz b : Int) (nm ot e0 : ByteArray) (L : Nat) (h : Fx 11 a n L sz b) : Hold (XF Tryz.prog c3 900 Tryz.f17 (ptArgs 11 f1 f2 n1 n2 a n g1 g2 sz b nm ot e0 L) [.dead] fun v _ => CntV 11 a n L sz b v) := by
  refine by_nf (B := bsplit (decide (b < (1 : Int))) (CntV (11 : Int) a n (↑L : Int) sz b (Value.int IntKind.i64 (0 : Int)))
    (bsplit (decide (a ≥ IntKind.i64.wrap (a + (↑L : Int)))) (CntV (11 : Int) a n (↑L : Int) sz b (Value.int IntKind.i64 (0 : Int))) ((b = (0 : Int) → False) ∧
    (b = (0 : Int) → False) ∧
    bsplit (decide (a > IntKind.i64.wrap (IntKind.i64.wrap (a.tdiv b) * b)))
    (bsplit (decide (IntKind.i64.wrap ((IntKind.i64.wrap (IntKind.i64.wrap (a + (↑L : Int)) - (1 : Int))).tdiv b) > IntKind.i64.wrap (a.tdiv b)))
    (bsplit (decide (IntKind.i64.wrap (a + (↑L : Int)) < IntKind.i64.wrap (IntKind.i64.wrap (IntKind.i64.wrap ((IntKind.i64.wrap (IntKind.i64.wrap (a + (↑L : Int)) - (1 : Int))).tdiv b) + (1 : Int)) * b)))
    (bsplit (decide (IntKind.i64.wrap (a + (↑L : Int)) > sz)) (CntV (11 : Int) a n (↑L : Int) sz b (Value.int IntKind.i64 (IntKind.i64.wrap (IntKind.i64.wrap (IntKind.i64.wrap (IntKind.i64.wrap (IntKind.i64.wrap (IntKind.i64.wrap ((IntKind.i64.wrap (IntKind.i64.wrap (a + (↑L : Int)) - (1 : Int))).tdiv b) - IntKind.i64.wrap (a.tdiv b)) + (1 : Int)) + (1 : Int)) + (1 : Int)) + (1 : Int))))) (CntV (11 : Int) a n (↑L : Int) sz b (Value.int IntKind.i64 (IntKind.i64.wrap (IntKind.i64.wrap (IntKind.i64.wrap (IntKind.i64.wrap (IntKind.i64.wrap ((IntKind.i64.wrap (IntKind.i64.wrap (a + (↑L : Int)) - (1 : Int))).tdiv b) - IntKind.i64.wrap (a.tdiv b)) + (1 : Int)) + (1 : Int)) + (1 : Int))))))
    (bsplit (decide (IntKind.i64.wrap (a + (↑L : Int)) > sz)) (CntV (11 : Int) a n (↑L : Int) sz b (Value.int IntKind.i64 (IntKind.i64.wrap (IntKind.i64.wrap (IntKind.i64.wrap (IntKind.i64.wrap (IntKind.i64.wrap ((IntKind.i64.wrap (IntKind.i64.wrap (a + (↑L : Int)) - (1 : Int))).tdiv b) - IntKind.i64.wrap (a.tdiv b)) + (1 : Int)) + (1 : Int)) + (1 : Int))))) (CntV (11 : Int) a n (↑L : Int) sz b (Value.int IntKind.i64 (IntKind.i64.wrap (IntKind.i64.wrap (IntKind.i64.wrap (IntKind.i64.wrap ((IntKind.i64.wrap (IntKind.i64.wrap (a + (↑L : Int)) - (1 : Int))).tdiv b) - IntKind.i64.wrap (a.tdiv b)) + (1 : Int)) + (1 : Int)))))))
    (bsplit (decide (IntKind.i64.wrap (a + (↑L : Int)) > sz)) (CntV (11 : Int) a n (↑L : Int) sz b (Value.int IntKind.i64 (IntKind.i64.wrap (IntKind.i64.wrap (IntKind.i64.wrap (IntKind.i64.wrap (IntKind.i64.wrap ((IntKind.i64.wrap (IntKind.i64.wrap (a + (↑L : Int)) - (1 : Int))).tdiv b) - IntKind.i64.wrap (a.tdiv b)) + (1 : Int)) + (1 : Int)) + (1 : Int))))) (CntV (11 : Int) a n (↑L : Int) sz b (Value.int IntKind.i64 (IntKind.i64.wrap (IntKind.i64.wrap (IntKind.i64.wrap (IntKind.i64.wrap ((IntKind.i64.wrap (IntKind.i64.wrap (a + (↑L : Int)) - (1 : Int))).tdiv b) - IntKind.i64.wrap (a.tdiv b)) + (1 : Int)) + (1 : Int)))))))
    (bsplit (decide (IntKind.i64.wrap (a + (↑L : Int)) < IntKind.i64.wrap (IntKind.i64.wrap (IntKind.i64.wrap (a.tdiv b) + (1 : Int)) * b)))
    (bsplit (decide (IntKind.i64.wrap ((IntKind.i64.wrap (IntKind.i64.wrap (a + (↑L : Int)) - (1 : Int))).tdiv b) > IntKind.i64.wrap (a.tdiv b)))
    (bsplit (decide (IntKind.i64.wrap (a + (↑L : Int)) < IntKind.i64.wrap (IntKind.i64.wrap (IntKind.i64.wrap ((IntKind.i64.wrap (IntKind.i64.wrap (a + (↑L : Int)) - (1 : Int))).tdiv b) + (1 : Int)) * b)))
    (bsplit (decide (IntKind.i64.wrap (a + (↑L : Int)) > sz)) (CntV (11 : Int) a n (↑L : Int) sz b (Value.int IntKind.i64 (IntKind.i64.wrap (IntKind.i64.wrap (IntKind.i64.wrap (IntKind.i64.wrap (IntKind.i64.wrap (IntKind.i64.wrap ((IntKind.i64.wrap (IntKind.i64.wrap (a + (↑L : Int)) - (1 : Int))).tdiv b) - IntKind.i64.wrap (a.tdiv b)) + (1 : Int)) + (1 : Int)) + (1 : Int)) + (1 : Int))))) (CntV (11 : Int) a n (↑L : Int) sz b (Value.int IntKind.i64 (IntKind.i64.wrap (IntKind.i64.wrap (IntKind.i64.wrap (IntKind.i64.wrap (IntKind.i64.wrap ((IntKind.i64.wrap (IntKind.i64.wrap (a + (↑L : Int)) - (1 : Int))).tdiv b) - IntKind.i64.wrap (a.tdiv b)) + (1 : Int)) + (1 : Int)) + (1 : Int))))))
    (bsplit (decide (IntKind.i64.wrap (a + (↑L : Int)) > sz)) (CntV (11 : Int) a n (↑L : Int) sz b (Value.int IntKind.i64 (IntKind.i64.wrap (IntKind.i64.wrap (IntKind.i64.wrap (IntKind.i64.wrap (IntKind.i64.wrap ((IntKind.i64.wrap (IntKind.i64.wrap (a + (↑L : Int)) - (1 : Int))).tdiv b) - IntKind.i64.wrap (a.tdiv b)) + (1 : Int)) + (1 : Int)) + (1 : Int))))) (CntV (11 : Int) a n (↑L : Int) sz b (Value.int IntKind.i64 (IntKind.i64.wrap (IntKind.i64.wrap (IntKind.i64.wrap (IntKind.i64.wrap ((IntKind.i64.wrap (IntKind.i64.wrap (a + (↑L : Int)) - (1 : Int))).tdiv b) - IntKind.i64.wrap (a.tdiv b)) + (1 : Int)) + (1 : Int)))))))
    (bsplit (decide (IntKind.i64.wrap (a + (↑L : Int)) > sz)) (CntV (11 : Int) a n (↑L : Int) sz b (Value.int IntKind.i64 (IntKind.i64.wrap (IntKind.i64.wrap (IntKind.i64.wrap (IntKind.i64.wrap (IntKind.i64.wrap ((IntKind.i64.wrap (IntKind.i64.wrap (a + (↑L : Int)) - (1 : Int))).tdiv b) - IntKind.i64.wrap (a.tdiv b)) + (1 : Int)) + (1 : Int)) + (1 : Int))))) (CntV (11 : Int) a n (↑L : Int) sz b (Value.int IntKind.i64 (IntKind.i64.wrap (IntKind.i64.wrap (IntKind.i64.wrap (IntKind.i64.wrap ((IntKind.i64.wrap (IntKind.i64.wrap (a + (↑L : Int)) - (1 : Int))).tdiv b) - IntKind.i64.wrap (a.tdiv b)) + (1 : Int)) + (1 : Int)))))))
    (bsplit (decide (IntKind.i64.wrap ((IntKind.i64.wrap (IntKind.i64.wrap (a + (↑L : Int)) - (1 : Int))).tdiv b) > IntKind.i64.wrap (a.tdiv b)))
    (bsplit (decide (IntKind.i64.wrap (a + (↑L : Int)) < IntKind.i64.wrap (IntKind.i64.wrap (IntKind.i64.wrap ((IntKind.i64.wrap (IntKind.i64.wrap (a + (↑L : Int)) - (1 : Int))).tdiv b) + (1 : Int)) * b)))
    (bsplit (decide (IntKind.i64.wrap (a + (↑L : Int)) > sz)) (CntV (11 : Int) a n (↑L : Int) sz b (Value.int IntKind.i64 (IntKind.i64.wrap (IntKind.i64.wrap (IntKind.i64.wrap (IntKind.i64.wrap (IntKind.i64.wrap ((IntKind.i64.wrap (IntKind.i64.wrap (a + (↑L : Int)) - (1 : Int))).tdiv b) - IntKind.i64.wrap (a.tdiv b)) + (1 : Int)) + (1 : Int)) + (1 : Int))))) (CntV (11 : Int) a n (↑L : Int) sz b (Value.int IntKind.i64 (IntKind.i64.wrap (IntKind.i64.wrap (IntKind.i64.wrap (IntKind.i64.wrap ((IntKind.i64.wrap (IntKind.i64.wrap (a + (↑L : Int)) - (1 : Int))).tdiv b) - IntKind.i64.wrap (a.tdiv b)) + (1 : Int)) + (1 : Int))))))
    (bsplit (decide (IntKind.i64.wrap (a + (↑L : Int)) > sz)) (CntV (11 : Int) a n (↑L : Int) sz b (Value.int IntKind.i64 (IntKind.i64.wrap (IntKind.i64.wrap (IntKind.i64.wrap (IntKind.i64.wrap ((IntKind.i64.wrap (IntKind.i64.wrap (a + (↑L : Int)) - (1 : Int))).tdiv b) - IntKind.i64.wrap (a.tdiv b)) + (1 : Int)) + (1 : Int))))) (CntV (11 : Int) a n (↑L : Int) sz b (Value.int IntKind.i64 (IntKind.i64.wrap (IntKind.i64.wrap (IntKind.i64.wrap ((IntKind.i64.wrap (IntKind.i64.wrap (a + (↑L : Int)) - (1 : Int))).tdiv b) - IntKind.i64.wrap (a.tdiv b)) + (1 : Int)))))))
    (bsplit (decide (IntKind.i64.wrap (a + (↑L : Int)) > sz)) (CntV (11 : Int) a n (↑L : Int) sz b (Value.int IntKind.i64 (IntKind.i64.wrap (IntKind.i64.wrap (IntKind.i64.wrap (IntKind.i64.wrap ((IntKind.i64.wrap (IntKind.i64.wrap (a + (↑L : Int)) - (1 : Int))).tdiv b) - IntKind.i64.wrap (a.tdiv b)) + (1 : Int)) + (1 : Int))))) (CntV (11 : Int) a n (↑L : Int) sz b (Value.int IntKind.i64 (IntKind.i64.wrap (IntKind.i64.wrap (IntKind.i64.wrap ((IntKind.i64.wrap (IntKind.i64.wrap (a + (↑L : Int)) - (1 : Int))).tdiv b) - IntKind.i64.wrap (a.tdiv b)) + (1 : Int))))))))))) (by kernel_rfl) ?_
  obtain ⟨kk, b1, b2, s1, s2, h10, h11, h12⟩ := h
  have b0 : ¬ b = 0 := by omega
  have key : ∀ v : Int, v = cnt 11 a n L sz b → CntV 11 a n L sz b (Value.int .i64 v) := fun v h => ⟨by rw [h]⟩
  obtain ⟨a1, an⟩ := h11 rfl
  have hc : cnt 11 a n L sz b = (if (L : Int) = 0 then 0 else (a + L - 1) / b - a / b + 1 + (if a % b ≠ 0 ∨ (a / b = (a + L - 1) / b ∧ (a + L) % b ≠ 0) then 1 else 0) + (if a / b ≠ (a + L - 1) / b ∧ (a + L) % b ≠ 0 then 1 else 0) + (if sz < a + L then 1 else 0)) := by unfold cnt; rw [if_neg (by decide), if_pos rfl]
  obtain ⟨p1, p2, p3⟩ := tdq (x := a) (m := 1048576) a1 (by omega) b1
  rw [w64 (a + L) (by omega)]
  by_cases hL : (L : Int) = 0
  · rw [if_pos hL] at hc
    exact bsplit_iff.2 ⟨fun h => absurd (of_decide_eq_true h) (by omega), fun _ => bsplit_iff.2 ⟨fun _ => key _ hc.symm, fun h => absurd (of_decide_eq_false h) (by omega)⟩⟩
  obtain ⟨F0, F1, F2, F3, F4, F5, F6⟩ := wr11 a1 (show a < a + L by omega) b1
  obtain ⟨q1, q2, q3⟩ := tdq (x := a + L - 1) (b := b) (m := 1048576) (by omega) (by omega) b1
  rw [if_neg hL] at hc
  refine bsplit_iff.2 ⟨fun h => absurd (of_decide_eq_true h) (by omega), fun _ => bsplit_iff.2 ⟨fun h => absurd (of_decide_eq_true h) (by omega), fun _ => ⟨fun h => b0 h, fun h => b0 h, ?_⟩⟩⟩
  rw [w64 (a + L - 1) (by omega), q1, p1]
  generalize (a + (L : Int) - 1) / b = Z at *
  generalize a / b = A at *
  rw [w64 A (by omega), w64 Z (by omega), w64 (A * b) (by omega), w64 (A + 1) (by omega), w64 (Z + 1) (by omega), w64 ((A + 1) * b) (by omega), w64 ((Z + 1) * b) (by omega), w64 (Z - A) (by omega), w64 (Z - A + 1) (by omega), w64 (Z - A + 1 + 1) (by omega), w64 (Z - A + 1 + 1 + 1) (by omega), w64 (Z - A + 1 + 1 + 1 + 1) (by omega)]
  repeat' (first | refine bsplit_iff.2 ⟨fun hx => ?_, fun hx => ?_⟩ | refine And.intro (fun h => b0 h) ?_)
  all_goals (refine key _ ?_; rw [hc]; simp only [decide_eq_true_eq, decide_eq_false_iff_not, bne_iff_ne, beq_iff_eq, bne_eq_false_iff_eq, beq_eq_false_iff_ne] at *; (repeat' split) <;> omega)
theorem q11 (f1 f2 n1 n2 a n g1 g2 sz b : Int) (nm ot e0 : ByteArray) (L : Nat) (h : Fx 11 a n L sz b) : Hold (XF Tryz.prog c0 900 Tryz.f18 (ptArgs 11 f1 f2 n1 n2 a n g1 g2 sz b nm ot e0 L) [.dead] fun v _ => CntV 11 a n L sz b v) := by
  refine by_nf (B := bsplit ((↑L : Int) == (0 : Int)) (CntV (11 : Int) a n (↑L : Int) sz b (Value.int IntKind.i64 (0 : Int))) ((b = (0 : Int) → False) ∧
    (b = (0 : Int) → False) ∧
    (b = (0 : Int) → False) ∧
    bsplit (a.tmod b != (0 : Int))
    (bsplit (IntKind.i64.wrap (a.tdiv b) != IntKind.i64.wrap ((IntKind.i64.wrap (IntKind.i64.wrap (a + (↑L : Int)) - (1 : Int))).tdiv b)) ((b = (0 : Int) → False) ∧
    bsplit ((IntKind.i64.wrap (a + (↑L : Int))).tmod b != (0 : Int))
    (bsplit (decide (IntKind.i64.wrap (a + (↑L : Int)) > sz)) (CntV (11 : Int) a n (↑L : Int) sz b (Value.int IntKind.i64 (IntKind.i64.wrap (IntKind.i64.wrap (IntKind.i64.wrap (IntKind.i64.wrap (IntKind.i64.wrap (IntKind.i64.wrap ((IntKind.i64.wrap (IntKind.i64.wrap (a + (↑L : Int)) - (1 : Int))).tdiv b) - IntKind.i64.wrap (a.tdiv b)) + (1 : Int)) + (1 : Int)) + (1 : Int)) + (1 : Int))))) (CntV (11 : Int) a n (↑L : Int) sz b (Value.int IntKind.i64 (IntKind.i64.wrap (IntKind.i64.wrap (IntKind.i64.wrap (IntKind.i64.wrap (IntKind.i64.wrap ((IntKind.i64.wrap (IntKind.i64.wrap (a + (↑L : Int)) - (1 : Int))).tdiv b) - IntKind.i64.wrap (a.tdiv b)) + (1 : Int)) + (1 : Int)) + (1 : Int))))))
    (bsplit (decide (IntKind.i64.wrap (a + (↑L : Int)) > sz)) (CntV (11 : Int) a n (↑L : Int) sz b (Value.int IntKind.i64 (IntKind.i64.wrap (IntKind.i64.wrap (IntKind.i64.wrap (IntKind.i64.wrap (IntKind.i64.wrap ((IntKind.i64.wrap (IntKind.i64.wrap (a + (↑L : Int)) - (1 : Int))).tdiv b) - IntKind.i64.wrap (a.tdiv b)) + (1 : Int)) + (1 : Int)) + (1 : Int))))) (CntV (11 : Int) a n (↑L : Int) sz b (Value.int IntKind.i64 (IntKind.i64.wrap (IntKind.i64.wrap (IntKind.i64.wrap (IntKind.i64.wrap ((IntKind.i64.wrap (IntKind.i64.wrap (a + (↑L : Int)) - (1 : Int))).tdiv b) - IntKind.i64.wrap (a.tdiv b)) + (1 : Int)) + (1 : Int)))))))
    (bsplit (decide (IntKind.i64.wrap (a + (↑L : Int)) > sz)) (CntV (11 : Int) a n (↑L : Int) sz b (Value.int IntKind.i64 (IntKind.i64.wrap (IntKind.i64.wrap (IntKind.i64.wrap (IntKind.i64.wrap (IntKind.i64.wrap ((IntKind.i64.wrap (IntKind.i64.wrap (a + (↑L : Int)) - (1 : Int))).tdiv b) - IntKind.i64.wrap (a.tdiv b)) + (1 : Int)) + (1 : Int)) + (1 : Int))))) (CntV (11 : Int) a n (↑L : Int) sz b (Value.int IntKind.i64 (IntKind.i64.wrap (IntKind.i64.wrap (IntKind.i64.wrap (IntKind.i64.wrap ((IntKind.i64.wrap (IntKind.i64.wrap (a + (↑L : Int)) - (1 : Int))).tdiv b) - IntKind.i64.wrap (a.tdiv b)) + (1 : Int)) + (1 : Int)))))))
    (bsplit (IntKind.i64.wrap (a.tdiv b) == IntKind.i64.wrap ((IntKind.i64.wrap (IntKind.i64.wrap (a + (↑L : Int)) - (1 : Int))).tdiv b)) ((b = (0 : Int) → False) ∧
    bsplit ((IntKind.i64.wrap (a + (↑L : Int))).tmod b != (0 : Int))
    (bsplit (IntKind.i64.wrap (a.tdiv b) != IntKind.i64.wrap ((IntKind.i64.wrap (IntKind.i64.wrap (a + (↑L : Int)) - (1 : Int))).tdiv b)) ((b = (0 : Int) → False) ∧
    bsplit ((IntKind.i64.wrap (a + (↑L : Int))).tmod b != (0 : Int))
    (bsplit (decide (IntKind.i64.wrap (a + (↑L : Int)) > sz)) (CntV (11 : Int) a n (↑L : Int) sz b (Value.int IntKind.i64 (IntKind.i64.wrap (IntKind.i64.wrap (IntKind.i64.wrap (IntKind.i64.wrap (IntKind.i64.wrap (IntKind.i64.wrap ((IntKind.i64.wrap (IntKind.i64.wrap (a + (↑L : Int)) - (1 : Int))).tdiv b) - IntKind.i64.wrap (a.tdiv b)) + (1 : Int)) + (1 : Int)) + (1 : Int)) + (1 : Int))))) (CntV (11 : Int) a n (↑L : Int) sz b (Value.int IntKind.i64 (IntKind.i64.wrap (IntKind.i64.wrap (IntKind.i64.wrap (IntKind.i64.wrap (IntKind.i64.wrap ((IntKind.i64.wrap (IntKind.i64.wrap (a + (↑L : Int)) - (1 : Int))).tdiv b) - IntKind.i64.wrap (a.tdiv b)) + (1 : Int)) + (1 : Int)) + (1 : Int))))))
    (bsplit (decide (IntKind.i64.wrap (a + (↑L : Int)) > sz)) (CntV (11 : Int) a n (↑L : Int) sz b (Value.int IntKind.i64 (IntKind.i64.wrap (IntKind.i64.wrap (IntKind.i64.wrap (IntKind.i64.wrap (IntKind.i64.wrap ((IntKind.i64.wrap (IntKind.i64.wrap (a + (↑L : Int)) - (1 : Int))).tdiv b) - IntKind.i64.wrap (a.tdiv b)) + (1 : Int)) + (1 : Int)) + (1 : Int))))) (CntV (11 : Int) a n (↑L : Int) sz b (Value.int IntKind.i64 (IntKind.i64.wrap (IntKind.i64.wrap (IntKind.i64.wrap (IntKind.i64.wrap ((IntKind.i64.wrap (IntKind.i64.wrap (a + (↑L : Int)) - (1 : Int))).tdiv b) - IntKind.i64.wrap (a.tdiv b)) + (1 : Int)) + (1 : Int)))))))
    (bsplit (decide (IntKind.i64.wrap (a + (↑L : Int)) > sz)) (CntV (11 : Int) a n (↑L : Int) sz b (Value.int IntKind.i64 (IntKind.i64.wrap (IntKind.i64.wrap (IntKind.i64.wrap (IntKind.i64.wrap (IntKind.i64.wrap ((IntKind.i64.wrap (IntKind.i64.wrap (a + (↑L : Int)) - (1 : Int))).tdiv b) - IntKind.i64.wrap (a.tdiv b)) + (1 : Int)) + (1 : Int)) + (1 : Int))))) (CntV (11 : Int) a n (↑L : Int) sz b (Value.int IntKind.i64 (IntKind.i64.wrap (IntKind.i64.wrap (IntKind.i64.wrap (IntKind.i64.wrap ((IntKind.i64.wrap (IntKind.i64.wrap (a + (↑L : Int)) - (1 : Int))).tdiv b) - IntKind.i64.wrap (a.tdiv b)) + (1 : Int)) + (1 : Int)))))))
    (bsplit (IntKind.i64.wrap (a.tdiv b) != IntKind.i64.wrap ((IntKind.i64.wrap (IntKind.i64.wrap (a + (↑L : Int)) - (1 : Int))).tdiv b)) ((b = (0 : Int) → False) ∧
    bsplit ((IntKind.i64.wrap (a + (↑L : Int))).tmod b != (0 : Int))
    (bsplit (decide (IntKind.i64.wrap (a + (↑L : Int)) > sz)) (CntV (11 : Int) a n (↑L : Int) sz b (Value.int IntKind.i64 (IntKind.i64.wrap (IntKind.i64.wrap (IntKind.i64.wrap (IntKind.i64.wrap (IntKind.i64.wrap ((IntKind.i64.wrap (IntKind.i64.wrap (a + (↑L : Int)) - (1 : Int))).tdiv b) - IntKind.i64.wrap (a.tdiv b)) + (1 : Int)) + (1 : Int)) + (1 : Int))))) (CntV (11 : Int) a n (↑L : Int) sz b (Value.int IntKind.i64 (IntKind.i64.wrap (IntKind.i64.wrap (IntKind.i64.wrap (IntKind.i64.wrap ((IntKind.i64.wrap (IntKind.i64.wrap (a + (↑L : Int)) - (1 : Int))).tdiv b) - IntKind.i64.wrap (a.tdiv b)) + (1 : Int)) + (1 : Int))))))
    (bsplit (decide (IntKind.i64.wrap (a + (↑L : Int)) > sz)) (CntV (11 : Int) a n (↑L : Int) sz b (Value.int IntKind.i64 (IntKind.i64.wrap (IntKind.i64.wrap (IntKind.i64.wrap (IntKind.i64.wrap ((IntKind.i64.wrap (IntKind.i64.wrap (a + (↑L : Int)) - (1 : Int))).tdiv b) - IntKind.i64.wrap (a.tdiv b)) + (1 : Int)) + (1 : Int))))) (CntV (11 : Int) a n (↑L : Int) sz b (Value.int IntKind.i64 (IntKind.i64.wrap (IntKind.i64.wrap (IntKind.i64.wrap ((IntKind.i64.wrap (IntKind.i64.wrap (a + (↑L : Int)) - (1 : Int))).tdiv b) - IntKind.i64.wrap (a.tdiv b)) + (1 : Int)))))))
    (bsplit (decide (IntKind.i64.wrap (a + (↑L : Int)) > sz)) (CntV (11 : Int) a n (↑L : Int) sz b (Value.int IntKind.i64 (IntKind.i64.wrap (IntKind.i64.wrap (IntKind.i64.wrap (IntKind.i64.wrap ((IntKind.i64.wrap (IntKind.i64.wrap (a + (↑L : Int)) - (1 : Int))).tdiv b) - IntKind.i64.wrap (a.tdiv b)) + (1 : Int)) + (1 : Int))))) (CntV (11 : Int) a n (↑L : Int) sz b (Value.int IntKind.i64 (IntKind.i64.wrap (IntKind.i64.wrap (IntKind.i64.wrap ((IntKind.i64.wrap (IntKind.i64.wrap (a + (↑L : Int)) - (1 : Int))).tdiv b) - IntKind.i64.wrap (a.tdiv b)) + (1 : Int))))))))
    (bsplit (IntKind.i64.wrap (a.tdiv b) != IntKind.i64.wrap ((IntKind.i64.wrap (IntKind.i64.wrap (a + (↑L : Int)) - (1 : Int))).tdiv b)) ((b = (0 : Int) → False) ∧
    bsplit ((IntKind.i64.wrap (a + (↑L : Int))).tmod b != (0 : Int))
    (bsplit (decide (IntKind.i64.wrap (a + (↑L : Int)) > sz)) (CntV (11 : Int) a n (↑L : Int) sz b (Value.int IntKind.i64 (IntKind.i64.wrap (IntKind.i64.wrap (IntKind.i64.wrap (IntKind.i64.wrap (IntKind.i64.wrap ((IntKind.i64.wrap (IntKind.i64.wrap (a + (↑L : Int)) - (1 : Int))).tdiv b) - IntKind.i64.wrap (a.tdiv b)) + (1 : Int)) + (1 : Int)) + (1 : Int))))) (CntV (11 : Int) a n (↑L : Int) sz b (Value.int IntKind.i64 (IntKind.i64.wrap (IntKind.i64.wrap (IntKind.i64.wrap (IntKind.i64.wrap ((IntKind.i64.wrap (IntKind.i64.wrap (a + (↑L : Int)) - (1 : Int))).tdiv b) - IntKind.i64.wrap (a.tdiv b)) + (1 : Int)) + (1 : Int))))))
    (bsplit (decide (IntKind.i64.wrap (a + (↑L : Int)) > sz)) (CntV (11 : Int) a n (↑L : Int) sz b (Value.int IntKind.i64 (IntKind.i64.wrap (IntKind.i64.wrap (IntKind.i64.wrap (IntKind.i64.wrap ((IntKind.i64.wrap (IntKind.i64.wrap (a + (↑L : Int)) - (1 : Int))).tdiv b) - IntKind.i64.wrap (a.tdiv b)) + (1 : Int)) + (1 : Int))))) (CntV (11 : Int) a n (↑L : Int) sz b (Value.int IntKind.i64 (IntKind.i64.wrap (IntKind.i64.wrap (IntKind.i64.wrap ((IntKind.i64.wrap (IntKind.i64.wrap (a + (↑L : Int)) - (1 : Int))).tdiv b) - IntKind.i64.wrap (a.tdiv b)) + (1 : Int)))))))
    (bsplit (decide (IntKind.i64.wrap (a + (↑L : Int)) > sz)) (CntV (11 : Int) a n (↑L : Int) sz b (Value.int IntKind.i64 (IntKind.i64.wrap (IntKind.i64.wrap (IntKind.i64.wrap (IntKind.i64.wrap ((IntKind.i64.wrap (IntKind.i64.wrap (a + (↑L : Int)) - (1 : Int))).tdiv b) - IntKind.i64.wrap (a.tdiv b)) + (1 : Int)) + (1 : Int))))) (CntV (11 : Int) a n (↑L : Int) sz b (Value.int IntKind.i64 (IntKind.i64.wrap (IntKind.i64.wrap (IntKind.i64.wrap ((IntKind.i64.wrap (IntKind.i64.wrap (a + (↑L : Int)) - (1 : Int))).tdiv b) - IntKind.i64.wrap (a.tdiv b)) + (1 : Int)))))))))) (by kernel_rfl) ?_
  obtain ⟨kk, b1, b2, s1, s2, h10, h11, h12⟩ := h
  have b0 : ¬ b = 0 := by omega
  have key : ∀ v : Int, v = cnt 11 a n L sz b → CntV 11 a n L sz b (Value.int .i64 v) := fun v h => ⟨by rw [h]⟩
  obtain ⟨a1, an⟩ := h11 rfl
  have hc : cnt 11 a n L sz b = (if (L : Int) = 0 then 0 else (a + L - 1) / b - a / b + 1 + (if a % b ≠ 0 ∨ (a / b = (a + L - 1) / b ∧ (a + L) % b ≠ 0) then 1 else 0) + (if a / b ≠ (a + L - 1) / b ∧ (a + L) % b ≠ 0 then 1 else 0) + (if sz < a + L then 1 else 0)) := by unfold cnt; rw [if_neg (by decide), if_pos rfl]
  obtain ⟨p1, p2, p3⟩ := tdq (x := a) (m := 1048576) a1 (by omega) b1
  rw [w64 (a + L) (by omega)]
  by_cases hL : (L : Int) = 0
  · rw [if_pos hL] at hc
    exact bsplit_iff.2 ⟨fun _ => key _ hc.symm, fun h => absurd hL (by simpa using h)⟩
  obtain ⟨F0, F1, F2, F3, F4, F5, F6⟩ := wr11 a1 (show a < a + L by omega) b1
  obtain ⟨q1, q2, q3⟩ := tdq (x := a + L - 1) (b := b) (m := 1048576) (by omega) (by omega) b1
  rw [if_neg hL] at hc
  refine bsplit_iff.2 ⟨fun h => absurd (by simpa using h) hL, fun _ => ⟨fun h => b0 h, fun h => b0 h, fun h => b0 h, ?_⟩⟩
  have t1 : a.tmod b = a % b := Int.tmod_eq_emod_of_nonneg a1
  have t2 : (a + (L : Int)).tmod b = (a + L) % b := Int.tmod_eq_emod_of_nonneg (by omega)
  rw [w64 (a + L - 1) (by omega), q1, p1, t1, t2]
  generalize (a + (L : Int) - 1) / b = Z at *
  generalize a / b = A at *
  rw [w64 A (by omega), w64 Z (by omega), w64 (Z - A) (by omega), w64 (Z - A + 1) (by omega), w64 (Z - A + 1 + 1) (by omega), w64 (Z - A + 1 + 1 + 1) (by omega), w64 (Z - A + 1 + 1 + 1 + 1) (by omega)]
  repeat' (first | refine bsplit_iff.2 ⟨fun hx => ?_, fun hx => ?_⟩ | refine And.intro (fun h => b0 h) ?_)
  all_goals (refine key _ ?_; rw [hc]; simp only [decide_eq_true_eq, decide_eq_false_iff_not, bne_iff_ne, beq_iff_eq, bne_eq_false_iff_eq, beq_eq_false_iff_ne] at *; (repeat' split) <;> omega)
theorem p12 (f1 f2 n1 n2 a n g1 g2 sz b : Int) (nm ot e0 : ByteArray) (L : Nat) (h : Fx 12 a n L sz b) : Hold (XF Tryz.prog c3 900 Tryz.f17 (ptArgs 12 f1 f2 n1 n2 a n g1 g2 sz b nm ot e0 L) [.dead] fun v _ => CntV 12 a n L sz b v) := by
  refine by_nf (B := bsplit (decide (b < (1 : Int))) (CntV (12 : Int) a n (↑L : Int) sz b (Value.int IntKind.i64 (0 : Int)))
    (bsplit (decide (n < sz)) ((b = (0 : Int) → False) ∧
    bsplit (n.tmod b != (0 : Int)) ((b = (0 : Int) → False) ∧
    (b = (0 : Int) → False) ∧
    CntV (12 : Int) a n (↑L : Int) sz b (Value.int IntKind.i64 (IntKind.i64.wrap (IntKind.i64.wrap (IntKind.i64.wrap ((IntKind.i64.wrap (sz - (1 : Int))).tdiv b) - IntKind.i64.wrap (n.tdiv b)) + (3 : Int)))))
    (bsplit (decide (n < sz)) ((b = (0 : Int) → False) ∧
    (b = (0 : Int) → False) ∧
    CntV (12 : Int) a n (↑L : Int) sz b (Value.int IntKind.i64 (IntKind.i64.wrap (IntKind.i64.wrap (IntKind.i64.wrap ((IntKind.i64.wrap (sz - (1 : Int))).tdiv b) - IntKind.i64.wrap (n.tdiv b)) + (2 : Int)))))
    (bsplit (decide (n > sz)) (CntV (12 : Int) a n (↑L : Int) sz b (Value.int IntKind.i64 (1 : Int))) (CntV (12 : Int) a n (↑L : Int) sz b (Value.int IntKind.i64 (0 : Int))))))
    (bsplit (decide (n < sz)) ((b = (0 : Int) → False) ∧
    (b = (0 : Int) → False) ∧
    CntV (12 : Int) a n (↑L : Int) sz b (Value.int IntKind.i64 (IntKind.i64.wrap (IntKind.i64.wrap (IntKind.i64.wrap ((IntKind.i64.wrap (sz - (1 : Int))).tdiv b) - IntKind.i64.wrap (n.tdiv b)) + (2 : Int)))))
    (bsplit (decide (n > sz)) (CntV (12 : Int) a n (↑L : Int) sz b (Value.int IntKind.i64 (1 : Int))) (CntV (12 : Int) a n (↑L : Int) sz b (Value.int IntKind.i64 (0 : Int))))))) (by kernel_rfl) ?_
  obtain ⟨kk, b1, b2, s1, s2, h10, h11, h12⟩ := h
  have b0 : ¬ b = 0 := by omega
  have key : ∀ v : Int, v = cnt 12 a n L sz b → CntV 12 a n L sz b (Value.int .i64 v) := fun v h => ⟨by rw [h]⟩
  obtain ⟨n1', n2'⟩ := h12 rfl
  have hc : cnt 12 a n L sz b = (if n < sz then (sz - 1) / b - n / b + 1 + (if n % b ≠ 0 then 1 else 0) + 1 else if n ≠ sz then 1 else 0) := by unfold cnt; rw [if_neg (by decide), if_neg (by decide), if_pos rfl]
  obtain ⟨p1, p2, p3⟩ := tdq (x := n) (m := 1048576) n1' n2' b1
  have t1 : n.tmod b = n % b := Int.tmod_eq_emod_of_nonneg n1'
  by_cases hlt : n < sz
  case neg =>
    rw [if_neg hlt] at hc
    generalize hN : n / b = N at *
    generalize hR : n % b = R at *
    rw [p1, t1]
    repeat' (first | refine bsplit_iff.2 ⟨fun hx => ?_, fun hx => ?_⟩ | refine And.intro (fun h => b0 h) ?_)
    all_goals first
      | exact key _ hc.symm
      | (exfalso; simp only [decide_eq_true_eq, decide_eq_false_iff_not, bne_iff_ne, beq_iff_eq, bne_eq_false_iff_eq, beq_eq_false_iff_ne] at *; first | done | omega)
      | (refine key _ ?_; rw [hc]; simp only [decide_eq_true_eq, decide_eq_false_iff_not, bne_iff_ne, beq_iff_eq, bne_eq_false_iff_eq, beq_eq_false_iff_ne] at *; (repeat' split) <;> omega)
  obtain ⟨q1, q2, q3⟩ := tdq (x := sz - 1) (b := b) (m := 1048576) (by omega) (by omega) b1
  rw [if_pos hlt] at hc
  rw [w64 (sz - 1) (by omega), q1, p1, t1]
  generalize (sz - 1) / b = Z at *
  generalize n / b = N at *
  generalize n % b = R at *
  rw [w64 Z (by omega), w64 N (by omega), w64 (Z - N) (by omega), w64 (Z - N + 3) (by omega), w64 (Z - N + 2) (by omega)]
  repeat' (first | refine bsplit_iff.2 ⟨fun hx => ?_, fun hx => ?_⟩ | refine And.intro (fun h => b0 h) ?_)
  all_goals first
    | exact key _ hc.symm
    | (exfalso; simp only [decide_eq_true_eq, decide_eq_false_iff_not, bne_iff_ne, beq_iff_eq, bne_eq_false_iff_eq, beq_eq_false_iff_ne] at *; first | done | omega)
    | (refine key _ ?_; rw [hc]; simp only [decide_eq_true_eq, decide_eq_false_iff_not, bne_iff_ne, beq_iff_eq, bne_eq_false_iff_eq, beq_eq_false_iff_ne] at *; (repeat' split) <;> omega)
theorem q12 (f1 f2 n1 n2 a n g1 g2 sz b : Int) (nm ot e0 : ByteArray) (L : Nat) (h : Fx 12 a n L sz b) : Hold (XF Tryz.prog c0 900 Tryz.f18 (ptArgs 12 f1 f2 n1 n2 a n g1 g2 sz b nm ot e0 L) [.dead] fun v _ => CntV 12 a n L sz b v) := by
  refine by_nf (B := bsplit (decide (n < sz)) ((b = (0 : Int) → False) ∧
    (b = (0 : Int) → False) ∧
    (b = (0 : Int) → False) ∧
    bsplit (n.tmod b != (0 : Int))
    (bsplit (n != sz) (CntV (12 : Int) a n (↑L : Int) sz b (Value.int IntKind.i64 (IntKind.i64.wrap (IntKind.i64.wrap (IntKind.i64.wrap (IntKind.i64.wrap (IntKind.i64.wrap ((IntKind.i64.wrap (sz - (1 : Int))).tdiv b) - IntKind.i64.wrap (n.tdiv b)) + (1 : Int)) + (1 : Int)) + (1 : Int))))) (CntV (12 : Int) a n (↑L : Int) sz b (Value.int IntKind.i64 (IntKind.i64.wrap (IntKind.i64.wrap (IntKind.i64.wrap (IntKind.i64.wrap ((IntKind.i64.wrap (sz - (1 : Int))).tdiv b) - IntKind.i64.wrap (n.tdiv b)) + (1 : Int)) + (1 : Int))))))
    (bsplit (n != sz) (CntV (12 : Int) a n (↑L : Int) sz b (Value.int IntKind.i64 (IntKind.i64.wrap (IntKind.i64.wrap (IntKind.i64.wrap (IntKind.i64.wrap ((IntKind.i64.wrap (sz - (1 : Int))).tdiv b) - IntKind.i64.wrap (n.tdiv b)) + (1 : Int)) + (1 : Int))))) (CntV (12 : Int) a n (↑L : Int) sz b (Value.int IntKind.i64 (IntKind.i64.wrap (IntKind.i64.wrap (IntKind.i64.wrap ((IntKind.i64.wrap (sz - (1 : Int))).tdiv b) - IntKind.i64.wrap (n.tdiv b)) + (1 : Int)))))))
    (bsplit (n != sz) (CntV (12 : Int) a n (↑L : Int) sz b (Value.int IntKind.i64 (IntKind.i64.wrap ((0 : Int) + (1 : Int))))) (CntV (12 : Int) a n (↑L : Int) sz b (Value.int IntKind.i64 (0 : Int))))) (by kernel_rfl) ?_
  obtain ⟨kk, b1, b2, s1, s2, h10, h11, h12⟩ := h
  have b0 : ¬ b = 0 := by omega
  have key : ∀ v : Int, v = cnt 12 a n L sz b → CntV 12 a n L sz b (Value.int .i64 v) := fun v h => ⟨by rw [h]⟩
  obtain ⟨n1', n2'⟩ := h12 rfl
  have hc : cnt 12 a n L sz b = (if n < sz then (sz - 1) / b - n / b + 1 + (if n % b ≠ 0 then 1 else 0) + 1 else if n ≠ sz then 1 else 0) := by unfold cnt; rw [if_neg (by decide), if_neg (by decide), if_pos rfl]
  obtain ⟨p1, p2, p3⟩ := tdq (x := n) (m := 1048576) n1' n2' b1
  have t1 : n.tmod b = n % b := Int.tmod_eq_emod_of_nonneg n1'
  by_cases hlt : n < sz
  case neg =>
    rw [if_neg hlt] at hc
    generalize hN : n / b = N at *
    generalize hR : n % b = R at *
    rw [p1, t1]
    rw [show IntKind.i64.wrap ((0 : Int) + 1) = 1 from w64 _ (by omega)]
    repeat' (first | refine bsplit_iff.2 ⟨fun hx => ?_, fun hx => ?_⟩ | refine And.intro (fun h => b0 h) ?_)
    all_goals first
      | exact key _ hc.symm
      | (exfalso; simp only [decide_eq_true_eq, decide_eq_false_iff_not, bne_iff_ne, beq_iff_eq, bne_eq_false_iff_eq, beq_eq_false_iff_ne] at *; first | done | omega)
      | (refine key _ ?_; rw [hc]; simp only [decide_eq_true_eq, decide_eq_false_iff_not, bne_iff_ne, beq_iff_eq, bne_eq_false_iff_eq, beq_eq_false_iff_ne] at *; (repeat' split) <;> omega)
  obtain ⟨q1, q2, q3⟩ := tdq (x := sz - 1) (b := b) (m := 1048576) (by omega) (by omega) b1
  rw [if_pos hlt] at hc
  rw [w64 (sz - 1) (by omega), q1, p1, t1]
  generalize (sz - 1) / b = Z at *
  generalize n / b = N at *
  generalize n % b = R at *
  rw [w64 Z (by omega), w64 N (by omega), w64 (Z - N) (by omega), w64 (Z - N + 1) (by omega), w64 (Z - N + 1 + 1) (by omega), w64 (Z - N + 1 + 1 + 1) (by omega)]
  repeat' (first | refine bsplit_iff.2 ⟨fun hx => ?_, fun hx => ?_⟩ | refine And.intro (fun h => b0 h) ?_)
  all_goals first
    | exact key _ hc.symm
    | (exfalso; simp only [decide_eq_true_eq, decide_eq_false_iff_not, bne_iff_ne, beq_iff_eq, bne_eq_false_iff_eq, beq_eq_false_iff_ne] at *; first | done | omega)
    | (refine key _ ?_; rw [hc]; simp only [decide_eq_true_eq, decide_eq_false_iff_not, bne_iff_ne, beq_iff_eq, bne_eq_false_iff_eq, beq_eq_false_iff_ne] at *; (repeat' split) <;> omega)
theorem p13 (f1 f2 n1 n2 a n g1 g2 sz b : Int) (nm ot e0 : ByteArray) (L : Nat) (h : Fx 13 a n L sz b) : Hold (XF Tryz.prog c3 900 Tryz.f17 (ptArgs 13 f1 f2 n1 n2 a n g1 g2 sz b nm ot e0 L) [.dead] fun v _ => CntV 13 a n L sz b v) := by
  refine by_nf (B := bsplit (decide (b < (1 : Int))) (CntV (13 : Int) a n (↑L : Int) sz b (Value.int IntKind.i64 (0 : Int)))
    (bsplit (decide (sz > (0 : Int))) ((b = (0 : Int) → False) ∧
    CntV (13 : Int) a n (↑L : Int) sz b (Value.int IntKind.i64 (IntKind.i64.wrap (IntKind.i64.wrap ((2 : Int) * IntKind.i64.wrap (IntKind.i64.wrap ((IntKind.i64.wrap (sz - (1 : Int))).tdiv b) + (1 : Int))) + (2 : Int))))) (CntV (13 : Int) a n (↑L : Int) sz b (Value.int IntKind.i64 (1 : Int))))) (by kernel_rfl) ?_
  obtain ⟨kk, b1, b2, s1, s2, h10, h11, h12⟩ := h
  have b0 : ¬ b = 0 := by omega
  have key : ∀ v : Int, v = cnt 13 a n L sz b → CntV 13 a n L sz b (Value.int .i64 v) := fun v h => ⟨by rw [h]⟩
  have hc : cnt 13 a n L sz b = (if sz = 0 then 1 else 2 + 2 * ((sz - 1) / b + 1)) := by unfold cnt; rw [if_neg (by decide), if_neg (by decide), if_neg (by decide), if_pos rfl]
  by_cases h0 : sz = 0
  · rw [if_pos h0] at hc
    exact bsplit_iff.2 ⟨fun h => absurd (of_decide_eq_true h) (by omega), fun _ => bsplit_iff.2 ⟨fun h => absurd (of_decide_eq_true h) (by omega), fun _ => key _ hc.symm⟩⟩
  obtain ⟨q1, q2, q3⟩ := tdq (x := sz - 1) (b := b) (m := 1048576) (by omega) (by omega) b1
  rw [if_neg h0] at hc
  rw [w64 (sz - 1) (by omega), q1]
  generalize (sz - 1) / b = Z at *
  rw [w64 Z (by omega), w64 (Z + 1) (by omega), w64 (2 * (Z + 1)) (by omega), w64 (2 * (Z + 1) + 2) (by omega)]
  repeat' (first | refine bsplit_iff.2 ⟨fun hx => ?_, fun hx => ?_⟩ | refine And.intro (fun h => b0 h) ?_)
  all_goals first
    | exact key _ hc.symm
    | (exfalso; simp only [decide_eq_true_eq, decide_eq_false_iff_not, bne_iff_ne, beq_iff_eq, bne_eq_false_iff_eq, beq_eq_false_iff_ne] at *; first | done | omega)
    | (refine key _ ?_; rw [hc]; simp only [decide_eq_true_eq, decide_eq_false_iff_not, bne_iff_ne, beq_iff_eq, bne_eq_false_iff_eq, beq_eq_false_iff_ne] at *; (repeat' split) <;> omega)
theorem q13 (f1 f2 n1 n2 a n g1 g2 sz b : Int) (nm ot e0 : ByteArray) (L : Nat) (h : Fx 13 a n L sz b) : Hold (XF Tryz.prog c0 900 Tryz.f18 (ptArgs 13 f1 f2 n1 n2 a n g1 g2 sz b nm ot e0 L) [.dead] fun v _ => CntV 13 a n L sz b v) := by
  refine by_nf (B := bsplit (sz == (0 : Int)) (CntV (13 : Int) a n (↑L : Int) sz b (Value.int IntKind.i64 (1 : Int))) ((b = (0 : Int) → False) ∧
    CntV (13 : Int) a n (↑L : Int) sz b (Value.int IntKind.i64 (IntKind.i64.wrap ((2 : Int) + IntKind.i64.wrap ((2 : Int) * IntKind.i64.wrap (IntKind.i64.wrap ((IntKind.i64.wrap (sz - (1 : Int))).tdiv b) + (1 : Int)))))))) (by kernel_rfl) ?_
  obtain ⟨kk, b1, b2, s1, s2, h10, h11, h12⟩ := h
  have b0 : ¬ b = 0 := by omega
  have key : ∀ v : Int, v = cnt 13 a n L sz b → CntV 13 a n L sz b (Value.int .i64 v) := fun v h => ⟨by rw [h]⟩
  have hc : cnt 13 a n L sz b = (if sz = 0 then 1 else 2 + 2 * ((sz - 1) / b + 1)) := by unfold cnt; rw [if_neg (by decide), if_neg (by decide), if_neg (by decide), if_pos rfl]
  by_cases h0 : sz = 0
  · rw [if_pos h0] at hc
    exact bsplit_iff.2 ⟨fun _ => key _ hc.symm, fun h => absurd h0 (by simpa using h)⟩
  obtain ⟨q1, q2, q3⟩ := tdq (x := sz - 1) (b := b) (m := 1048576) (by omega) (by omega) b1
  rw [if_neg h0] at hc
  rw [w64 (sz - 1) (by omega), q1]
  generalize (sz - 1) / b = Z at *
  rw [w64 Z (by omega), w64 (Z + 1) (by omega), w64 (2 * (Z + 1)) (by omega), w64 (2 + 2 * (Z + 1)) (by omega)]
  repeat' (first | refine bsplit_iff.2 ⟨fun hx => ?_, fun hx => ?_⟩ | refine And.intro (fun h => b0 h) ?_)
  all_goals first
    | exact key _ hc.symm
    | (exfalso; simp only [decide_eq_true_eq, decide_eq_false_iff_not, bne_iff_ne, beq_iff_eq, bne_eq_false_iff_eq, beq_eq_false_iff_ne] at *; first | done | omega)
    | (refine key _ ?_; rw [hc]; simp only [decide_eq_true_eq, decide_eq_false_iff_not, bne_iff_ne, beq_iff_eq, bne_eq_false_iff_eq, beq_eq_false_iff_ne] at *; (repeat' split) <;> omega)
end Go.Fil
