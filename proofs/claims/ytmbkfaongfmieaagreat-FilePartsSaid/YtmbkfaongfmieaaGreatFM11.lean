/- FileParts: the list of parts: writing. -/
import Derived.Test.YtmbkfaongfmieaaGreatFM0
set_option linter.unusedSimpArgs false
set_option linter.unusedVariables false
set_option linter.unusedSectionVars false
set_option maxRecDepth 100000
namespace Go.Fil
open Go Go.X Go.Proofs
variable [WI]
def Mk.E (M : Mk) : Int := M.a + M.L
def tm11 (M : Mk) (l : Value) (e i : Int) : List Value := [unk, unk, .int .i64 M.b, pt 1, pt 2, unk, unk, l, pt 3, pt 4, unk, unk, unk, .int .i64 e, .int .i64 i] ++ List.replicate 324 unk
def pA (a E b : Int) : Prop := a % b ≠ 0 ∨ (a / b = (E - 1) / b ∧ E % b ≠ 0)
def pB (a E b : Int) : Prop := a / b ≠ (E - 1) / b ∧ E % b ≠ 0
instance (a E b : Int) : Decidable (pA a E b) := by unfold pA; infer_instance
instance (a E b : Int) : Decidable (pB a E b) := by unfold pB; infer_instance
structure Pre11 (M : Mk) : Prop where
  b1 : 1 ≤ M.b
  b2 : M.b ≤ 4096
  a1 : 0 ≤ M.a
  L1 : 0 < M.L
  e2 : M.E ≤ 1048576 * M.b
  n : M.L ≤ M.N
  few : (M.E - 1) / M.b - M.a / M.b + 1 ≤ 4000
structure At11 (M : Mk) (k c : Nat) (i : Int) : Prop where
  hi : i + k = (M.E - 1) / M.b + 1
  h0 : M.a / M.b ≤ i
  hc : (c : Int) = i - M.a / M.b + (if i = M.a / M.b then 0 else if pA M.a M.E M.b then 1 else 0) + (if k = 0 then (if pB M.a M.E M.b then 1 else 0) else 0)
def tt11 (M : Mk) : Int := (M.E - 1) / M.b - M.a / M.b + 1 + (if pA M.a M.E M.b then 1 else 0) + (if pB M.a M.E M.b then 1 else 0)
structure Ax11 (M : Mk) (k c : Nat) (i : Int) : Prop where
  or : (M.L = 0 ∧ k = 0 ∧ c = 0) ∨ (Pre11 M ∧ At11 M k c i)
def ct11 (M : Mk) : Int := if M.L = 0 then 0 else tt11 M
def J11 (M : Mk) (k : Nat) (S : VSt) : Prop :=
  match nth undef S.tmps 7, nth undef S.tmps 13, nth undef S.tmps 14 with
  | l, .int .i64 e, .int .i64 i => leQ (tm11 M l e i) S.tmps ∧ Is (e = M.E) ∧ okL M 11 l S.V fun c => Ax11 M k c i
  | _, _, _ => False
def out11 (M : Mk) (l : Value) : List Value := [unk, unk, unk, pt 1, pt 2, unk, unk, l] ++ List.replicate 5 unk ++ [.int .i64 M.E] ++ List.replicate 325 unk
def Kw11 (M : Mk) (e : Exit) (S : VSt) : Prop :=
  match e with
  | .normal => eqT S.tmps (out11 M (nth undef S.tmps 7)) ∧ okL M 11 (nth undef S.tmps 7) S.V fun c => Cnt (c = ct11 M)
  | _ => False
def ks11 (e : Exit) : List Nat := match e with | .normal => [2, 3, 4, 7, 8, 9, 13, 14] | _ => [3, 4, 7, 13]
theorem Pre11.facts {M : Mk} (hp : Pre11 M) {i : Int} (h1 : M.a / M.b ≤ i) (h2 : i ≤ (M.E - 1) / M.b) : 0 ≤ M.a / M.b ∧ M.a / M.b ≤ (M.E - 1) / M.b ∧ (M.E - 1) / M.b ≤ 1048576 ∧ 0 ≤ i * M.b ∧ i * M.b ≤ M.E - 1 ∧
    (M.a < i * M.b + M.b) ∧ ((i * M.b ≥ M.a ∧ i * M.b + M.b ≤ M.E) ↔ ¬ (i = M.a / M.b ∧ pA M.a M.E M.b) ∧ ¬ (i = (M.E - 1) / M.b ∧ pB M.a M.E M.b)) := by
  have b1 := hp.b1; have a1 := hp.a1; have L1 := hp.L1; have e2 := hp.e2
  have hE : M.E = M.a + M.L := rfl
  obtain ⟨q1, q2, q3⟩ := tdq (x := M.E - 1) (b := M.b) (m := 1048576) (by omega) (by omega) b1
  obtain ⟨F0, F1, F2, F3, F4, F5, F6⟩ := wr11 a1 (show M.a < M.E by omega) b1
  have ha0 : 0 ≤ M.a / M.b := Int.ediv_nonneg a1 (by omega)
  have m0 : 0 ≤ i * M.b := Int.mul_nonneg (by omega) (by omega)
  have m1 : M.a / M.b * M.b ≤ i * M.b := Int.mul_le_mul_of_nonneg_right h1 (by omega)
  have m2 : i * M.b ≤ (M.E - 1) / M.b * M.b := Int.mul_le_mul_of_nonneg_right h2 (by omega)
  have e3 : (M.E - 1) / M.b * M.b ≤ M.E - 1 := Int.ediv_mul_le _ (by omega)
  have e4 : (M.a / M.b + 1) * M.b = M.a / M.b * M.b + M.b := by rw [Int.add_mul]; omega
  have e5 : ((M.E - 1) / M.b + 1) * M.b = (M.E - 1) / M.b * M.b + M.b := by rw [Int.add_mul]; omega
  have e6 : M.a < M.a / M.b * M.b + M.b := by have := Int.lt_ediv_add_one_mul_self M.a (show 0 < M.b by omega); omega
  refine ⟨ha0, F0, q3, m0, by omega, by omega, ?_⟩
  unfold pA pB
  by_cases hA : i = M.a / M.b
  · subst hA
    by_cases hZ : M.a / M.b = (M.E - 1) / M.b
    · rw [← hZ] at F2 F3 e5 ⊢
      rw [e4] at F3
      omega
    · rw [e4] at F3
      omega
  · have m3 : (M.a / M.b + 1) * M.b ≤ i * M.b := Int.mul_le_mul_of_nonneg_right (by omega) (by omega)
    by_cases hZ : i = (M.E - 1) / M.b
    · subst hZ
      rw [e5] at F2
      omega
    · have m4 : (i + 1) * M.b ≤ (M.E - 1) / M.b * M.b := Int.mul_le_mul_of_nonneg_right (by omega) (by omega)
      rw [Int.add_mul] at m4
      omega
theorem At11.whole {M : Mk} {i : Int} {k c : Nat} (hp : Pre11 M) (h : At11 M k c i) (hz : i ≤ (M.E - 1) / M.b) (hw : i * M.b ≥ M.a ∧ i * M.b + M.b ≤ M.E) : At11 M (k - 1) (c + 1) (i + 1) := by
  obtain ⟨f1, f2, f3, f4, f5, f6, f7⟩ := hp.facts h.h0 hz
  obtain ⟨h1, h2, h3⟩ := h
  obtain ⟨g1, g2⟩ := f7.1 hw
  refine ⟨by omega, by omega, ?_⟩
  rw [if_neg (show ¬ i + 1 = M.a / M.b by omega)]
  have hk : k ≠ 0 := by omega
  rw [if_neg hk] at h3
  by_cases hA : i = M.a / M.b
  · have hp1 : ¬ pA M.a M.E M.b := fun h => g1 ⟨hA, h⟩
    rw [if_pos hA] at h3
    rw [if_neg hp1]
    split
    · have hp2 : ¬ pB M.a M.E M.b := fun h => g2 ⟨by omega, h⟩
      rw [if_neg hp2]; omega
    · omega
  · rw [if_neg hA] at h3
    by_cases hk1 : k - 1 = 0
    · have hp2 : ¬ pB M.a M.E M.b := fun h => g2 ⟨by omega, h⟩
      rw [if_pos hk1, if_neg hp2]; omega
    · rw [if_neg hk1]; omega
theorem At11.part {M : Mk} {i : Int} {k c : Nat} (hp : Pre11 M) (h : At11 M k c i) (hz : i ≤ (M.E - 1) / M.b) (hw : ¬ (i * M.b ≥ M.a ∧ i * M.b + M.b ≤ M.E)) : At11 M (k - 1) (c + 1 + 1) (i + 1) := by
  obtain ⟨f1, f2, f3, f4, f5, f6, f7⟩ := hp.facts h.h0 hz
  obtain ⟨h1, h2, h3⟩ := h
  refine ⟨by omega, by omega, ?_⟩
  rw [if_neg (show ¬ i + 1 = M.a / M.b by omega)]
  have hk : k ≠ 0 := by omega
  rw [if_neg hk] at h3
  have hor : (i = M.a / M.b ∧ pA M.a M.E M.b) ∨ (i = (M.E - 1) / M.b ∧ pB M.a M.E M.b) := by
    rcases Classical.em (i = M.a / M.b ∧ pA M.a M.E M.b) with h | h
    · exact .inl h
    · rcases Classical.em (i = (M.E - 1) / M.b ∧ pB M.a M.E M.b) with h' | h'
      · exact .inr h'
      · exact absurd (f7.2 ⟨h, h'⟩) hw
  rcases hor with ⟨hA, hp1⟩ | ⟨hZ, hp2⟩
  · rw [if_pos hA] at h3
    rw [if_pos hp1]
    split
    · have hp2 : ¬ pB M.a M.E M.b := fun h => h.1 (by omega)
      rw [if_neg hp2]; omega
    · omega
  · have hA : i ≠ M.a / M.b := fun h => hp2.1 (by omega)
    rw [if_neg hA] at h3
    rw [if_pos (show k - 1 = 0 by omega), if_pos hp2]; omega
theorem At11.bd {M : Mk} {i : Int} {k c : Nat} (hp : Pre11 M) (h : At11 M k c i) : 0 ≤ i ∧ i ≤ 1048577 ∧ fitsN (c + 1) 176 ∧ fitsN (c + 1 + 1) 176 ∧ (¬ i ≤ (M.E - 1) / M.b → (c : Int) = tt11 M) ∧ (i ≤ (M.E - 1) / M.b → k ≠ 0) := by
  have hF : M.a / M.b ≤ (M.E - 1) / M.b := divle hp.b1 (by have := hp.L1; unfold Mk.E; omega)
  obtain ⟨f1, f2, f3, _⟩ := hp.facts (Int.le_refl _) hF
  have few := hp.few
  obtain ⟨h1, h2, h3⟩ := h
  have hc : (c : Int) ≤ 4003 := by
    rw [h3]
    split <;> split <;> (try split) <;> (try split) <;> omega
  refine ⟨by omega, by omega, ⟨by omega, by omega⟩, ⟨by omega, by omega⟩, fun hi => ?_, fun hi => by omega⟩
  unfold tt11
  rw [h3, if_neg (show ¬ i = M.a / M.b by omega), if_pos (show k = 0 by omega)]
  omega
theorem r11a (M : Mk) (i : Int) (k : Nat) (h : Ax11 M k 0 i) :
    Does Tryz.prog (roundOf Tryz.f19 3) ⟨tm11 M (.slice none 0 0) M.E i, V5 M 11⟩ fun e S' => reshape 5 (selL S') (ks11 e) [] [] S' (roundR 3 (J11 M) k (Kw11 M) e) := by
  refine Does.shut (fun _ S' => blkT 7 S') ?_
  refine of_code (ctxG_ok (l := []) (cs := []) (bs := []) .nil .nil) (n := 300) .g ?_
  refine by_nf (B := bsplit (decide ((↑M.L : Int) > (0 : Int))) ((M.b = (0 : Int) → False) ∧
    bsplit (decide (i ≤ IntKind.i64.wrap ((IntKind.i64.wrap (M.E - (1 : Int))).tdiv M.b)))
    (bsplit (decide (IntKind.i64.wrap (i * M.b) < M.a))
    (bsplit (decide (IntKind.i64.wrap (IntKind.i64.wrap (i * M.b) + M.b) > M.E))
    (bsplit (M.a == IntKind.i64.wrap (i * M.b))
    (bsplit (!M.E == IntKind.i64.wrap (IntKind.i64.wrap (i * M.b) + M.b)) (((1 : Nat) = (1 : Nat) ∧
    Nat.succ (0 : Nat) ≤ (1 : Nat) ∧
    fitsN (1 : Nat) (176 : Nat)) ∧
    ((0 : Int) ≤ IntKind.i64.wrap (M.a - M.a) ∧
    IntKind.i64.wrap (M.a - M.a) ≤ IntKind.i64.wrap (M.E - M.a) ∧
    IntKind.i64.wrap (M.E - M.a) ≤ (↑M.L : Int) ∧
    (0 : Nat) + M.L ≤ M.N ∧
    (IntKind.i64.wrap (M.a - M.a) = (0 : Int) ∨ IntKind.i64.wrap (M.a - M.a) < (↑M.L : Int))) ∧
    ((0 : Int) ≤ IntKind.i64.wrap (M.a - M.a) ∧
    IntKind.i64.wrap (M.a - M.a) ≤ IntKind.i64.wrap (M.E - M.a) ∧
    IntKind.i64.wrap (M.E - M.a) ≤ (↑M.L : Int) ∧
    (0 : Nat) + M.L ≤ M.N ∧
    (IntKind.i64.wrap (M.a - M.a) = (0 : Int) ∨ IntKind.i64.wrap (M.a - M.a) < (↑M.L : Int))) ∧
    ((1 : Nat) = (1 : Nat) ∧
    (1 : Nat) = (1 : Nat) ∧
    True ∧
    fitsN (2 : Nat) (176 : Nat)) ∧
    ∀ (f' : Nat → List Value), (k = (0 : Nat) → False) ∧
    (Value.int IntKind.i64 M.b = Value.int IntKind.i64 M.b ∧
    Value.slice (some { block := (5 : Nat), off := { block := (10 : Nat), off := (1 : Nat), spot := some (0 : Nat) : Addr }.off, spot := some (0 : Nat) : Addr }) (2 : Nat) (0 : Nat) = Value.slice (some { block := (5 : Nat), off := { block := (10 : Nat), off := (1 : Nat), spot := some (0 : Nat) : Addr }.off, spot := some (0 : Nat) : Addr }) (2 : Nat) (0 : Nat) ∧
    Value.int IntKind.i64 M.E = Value.int IntKind.i64 M.E ∧
    Value.int IntKind.i64 (IntKind.i64.wrap (i + (1 : Int))) = Value.int IntKind.i64 (IntKind.i64.wrap (i + (1 : Int))) ∧
    True) ∧
    Is (M.E = M.E) ∧
    VIs M (11 : Int) [VObj.arg (5 : TypeId) (1 : Nat) M.N M.f, VObj.cells (49 : TypeId) [Value.int IntKind.i64 (11 : Int), Value.string M.nm, Value.string M.ot, Value.int IntKind.i64 M.f1, Value.int IntKind.i64 M.f2, Value.int IntKind.i64 M.n1, Value.int IntKind.i64 M.n2, Value.int IntKind.i64 M.a, Value.int IntKind.i64 M.n, Value.slice (some { block := (0 : Nat), off := { block := (0 : Nat), off := (3 : Nat), spot := some (0 : Nat) : Addr }.off, spot := some (0 : Nat) : Addr }) M.L (0 : Nat)], VObj.cells (40 : TypeId) [Value.string M.e0, Value.int IntKind.i64 M.g1, Value.int IntKind.i64 M.g2, Value.int IntKind.i64 M.sz], VObj.cells (49 : TypeId) [Value.int IntKind.i64 (8 : Int), Value.string { data := #[] : ByteArray }, Value.string { data := #[] : ByteArray }, Value.int IntKind.i64 M.g1, Value.int IntKind.i64 M.g2, Value.int IntKind.i64 (0 : Int), Value.int IntKind.i64 (0 : Int), Value.int IntKind.i64 (0 : Int), Value.int IntKind.i64 (0 : Int), Value.slice none (0 : Nat) (0 : Nat)], VObj.cells (49 : TypeId) [Value.int IntKind.i64 (9 : Int), Value.string { data := #[] : ByteArray }, Value.string { data := #[] : ByteArray }, Value.int IntKind.i64 M.g1, Value.int IntKind.i64 M.g2, Value.int IntKind.i64 (0 : Int), Value.int IntKind.i64 (0 : Int), Value.int IntKind.i64 (0 : Int), Value.int IntKind.i64 (0 : Int), Value.slice none (0 : Nat) (0 : Nat)]] ∧
    Is ((2 : Nat) = (2 : Nat) ∧
    (0 : Nat) < (2 : Nat)) ∧
    Ax11 M (k - (1 : Nat)) (2 : Nat) (IntKind.i64.wrap (i + (1 : Int)))) (((0 : Int) ≤ IntKind.i64.wrap (M.a - M.a) ∧
    IntKind.i64.wrap (M.a - M.a) ≤ IntKind.i64.wrap (M.E - M.a) ∧
    IntKind.i64.wrap (M.E - M.a) ≤ (↑M.L : Int) ∧
    (0 : Nat) + M.L ≤ M.N ∧
    (IntKind.i64.wrap (M.a - M.a) = (0 : Int) ∨ IntKind.i64.wrap (M.a - M.a) < (↑M.L : Int))) ∧
    ((0 : Int) ≤ IntKind.i64.wrap (M.a - M.a) ∧
    IntKind.i64.wrap (M.a - M.a) ≤ IntKind.i64.wrap (M.E - M.a) ∧
    IntKind.i64.wrap (M.E - M.a) ≤ (↑M.L : Int) ∧
    (0 : Nat) + M.L ≤ M.N ∧
    (IntKind.i64.wrap (M.a - M.a) = (0 : Int) ∨ IntKind.i64.wrap (M.a - M.a) < (↑M.L : Int))) ∧
    ((1 : Nat) = (1 : Nat) ∧
    Nat.succ (0 : Nat) ≤ (1 : Nat) ∧
    fitsN (1 : Nat) (176 : Nat)) ∧
    ∀ (f' : Nat → List Value), (k = (0 : Nat) → False) ∧
    (Value.int IntKind.i64 M.b = Value.int IntKind.i64 M.b ∧
    Value.slice (some { block := (5 : Nat), off := { block := (8 : Nat), off := (1 : Nat), spot := some (0 : Nat) : Addr }.off, spot := some (0 : Nat) : Addr }) (1 : Nat) (0 : Nat) = Value.slice (some { block := (5 : Nat), off := { block := (8 : Nat), off := (1 : Nat), spot := some (0 : Nat) : Addr }.off, spot := some (0 : Nat) : Addr }) (1 : Nat) (0 : Nat) ∧
    Value.int IntKind.i64 M.E = Value.int IntKind.i64 M.E ∧
    Value.int IntKind.i64 (IntKind.i64.wrap (i + (1 : Int))) = Value.int IntKind.i64 (IntKind.i64.wrap (i + (1 : Int))) ∧
    True) ∧
    Is (M.E = M.E) ∧
    VIs M (11 : Int) [VObj.arg (5 : TypeId) (1 : Nat) M.N M.f, VObj.cells (49 : TypeId) [Value.int IntKind.i64 (11 : Int), Value.string M.nm, Value.string M.ot, Value.int IntKind.i64 M.f1, Value.int IntKind.i64 M.f2, Value.int IntKind.i64 M.n1, Value.int IntKind.i64 M.n2, Value.int IntKind.i64 M.a, Value.int IntKind.i64 M.n, Value.slice (some { block := (0 : Nat), off := { block := (0 : Nat), off := (3 : Nat), spot := some (0 : Nat) : Addr }.off, spot := some (0 : Nat) : Addr }) M.L (0 : Nat)], VObj.cells (40 : TypeId) [Value.string M.e0, Value.int IntKind.i64 M.g1, Value.int IntKind.i64 M.g2, Value.int IntKind.i64 M.sz], VObj.cells (49 : TypeId) [Value.int IntKind.i64 (8 : Int), Value.string { data := #[] : ByteArray }, Value.string { data := #[] : ByteArray }, Value.int IntKind.i64 M.g1, Value.int IntKind.i64 M.g2, Value.int IntKind.i64 (0 : Int), Value.int IntKind.i64 (0 : Int), Value.int IntKind.i64 (0 : Int), Value.int IntKind.i64 (0 : Int), Value.slice none (0 : Nat) (0 : Nat)], VObj.cells (49 : TypeId) [Value.int IntKind.i64 (9 : Int), Value.string { data := #[] : ByteArray }, Value.string { data := #[] : ByteArray }, Value.int IntKind.i64 M.g1, Value.int IntKind.i64 M.g2, Value.int IntKind.i64 (0 : Int), Value.int IntKind.i64 (0 : Int), Value.int IntKind.i64 (0 : Int), Value.int IntKind.i64 (0 : Int), Value.slice none (0 : Nat) (0 : Nat)]] ∧
    Is ((1 : Nat) = (1 : Nat) ∧
    (0 : Nat) < (1 : Nat)) ∧
    Ax11 M (k - (1 : Nat)) (1 : Nat) (IntKind.i64.wrap (i + (1 : Int))))) (((1 : Nat) = (1 : Nat) ∧
    Nat.succ (0 : Nat) ≤ (1 : Nat) ∧
    fitsN (1 : Nat) (176 : Nat)) ∧
    ((0 : Int) ≤ IntKind.i64.wrap (M.a - M.a) ∧
    IntKind.i64.wrap (M.a - M.a) ≤ IntKind.i64.wrap (M.E - M.a) ∧
    IntKind.i64.wrap (M.E - M.a) ≤ (↑M.L : Int) ∧
    (0 : Nat) + M.L ≤ M.N ∧
    (IntKind.i64.wrap (M.a - M.a) = (0 : Int) ∨ IntKind.i64.wrap (M.a - M.a) < (↑M.L : Int))) ∧
    ((0 : Int) ≤ IntKind.i64.wrap (M.a - M.a) ∧
    IntKind.i64.wrap (M.a - M.a) ≤ IntKind.i64.wrap (M.E - M.a) ∧
    IntKind.i64.wrap (M.E - M.a) ≤ (↑M.L : Int) ∧
    (0 : Nat) + M.L ≤ M.N ∧
    (IntKind.i64.wrap (M.a - M.a) = (0 : Int) ∨ IntKind.i64.wrap (M.a - M.a) < (↑M.L : Int))) ∧
    ((1 : Nat) = (1 : Nat) ∧
    (1 : Nat) = (1 : Nat) ∧
    True ∧
    fitsN (2 : Nat) (176 : Nat)) ∧
    ∀ (f' : Nat → List Value), (k = (0 : Nat) → False) ∧
    (Value.int IntKind.i64 M.b = Value.int IntKind.i64 M.b ∧
    Value.slice (some { block := (5 : Nat), off := { block := (10 : Nat), off := (1 : Nat), spot := some (0 : Nat) : Addr }.off, spot := some (0 : Nat) : Addr }) (2 : Nat) (0 : Nat) = Value.slice (some { block := (5 : Nat), off := { block := (10 : Nat), off := (1 : Nat), spot := some (0 : Nat) : Addr }.off, spot := some (0 : Nat) : Addr }) (2 : Nat) (0 : Nat) ∧
    Value.int IntKind.i64 M.E = Value.int IntKind.i64 M.E ∧
    Value.int IntKind.i64 (IntKind.i64.wrap (i + (1 : Int))) = Value.int IntKind.i64 (IntKind.i64.wrap (i + (1 : Int))) ∧
    True) ∧
    Is (M.E = M.E) ∧
    VIs M (11 : Int) [VObj.arg (5 : TypeId) (1 : Nat) M.N M.f, VObj.cells (49 : TypeId) [Value.int IntKind.i64 (11 : Int), Value.string M.nm, Value.string M.ot, Value.int IntKind.i64 M.f1, Value.int IntKind.i64 M.f2, Value.int IntKind.i64 M.n1, Value.int IntKind.i64 M.n2, Value.int IntKind.i64 M.a, Value.int IntKind.i64 M.n, Value.slice (some { block := (0 : Nat), off := { block := (0 : Nat), off := (3 : Nat), spot := some (0 : Nat) : Addr }.off, spot := some (0 : Nat) : Addr }) M.L (0 : Nat)], VObj.cells (40 : TypeId) [Value.string M.e0, Value.int IntKind.i64 M.g1, Value.int IntKind.i64 M.g2, Value.int IntKind.i64 M.sz], VObj.cells (49 : TypeId) [Value.int IntKind.i64 (8 : Int), Value.string { data := #[] : ByteArray }, Value.string { data := #[] : ByteArray }, Value.int IntKind.i64 M.g1, Value.int IntKind.i64 M.g2, Value.int IntKind.i64 (0 : Int), Value.int IntKind.i64 (0 : Int), Value.int IntKind.i64 (0 : Int), Value.int IntKind.i64 (0 : Int), Value.slice none (0 : Nat) (0 : Nat)], VObj.cells (49 : TypeId) [Value.int IntKind.i64 (9 : Int), Value.string { data := #[] : ByteArray }, Value.string { data := #[] : ByteArray }, Value.int IntKind.i64 M.g1, Value.int IntKind.i64 M.g2, Value.int IntKind.i64 (0 : Int), Value.int IntKind.i64 (0 : Int), Value.int IntKind.i64 (0 : Int), Value.int IntKind.i64 (0 : Int), Value.slice none (0 : Nat) (0 : Nat)]] ∧
    Is ((2 : Nat) = (2 : Nat) ∧
    (0 : Nat) < (2 : Nat)) ∧
    Ax11 M (k - (1 : Nat)) (2 : Nat) (IntKind.i64.wrap (i + (1 : Int)))))
    (bsplit (M.a == IntKind.i64.wrap (i * M.b))
    (bsplit (!IntKind.i64.wrap (IntKind.i64.wrap (i * M.b) + M.b) == IntKind.i64.wrap (IntKind.i64.wrap (i * M.b) + M.b)) (((1 : Nat) = (1 : Nat) ∧
    Nat.succ (0 : Nat) ≤ (1 : Nat) ∧
    fitsN (1 : Nat) (176 : Nat)) ∧
    ((0 : Int) ≤ IntKind.i64.wrap (M.a - M.a) ∧
    IntKind.i64.wrap (M.a - M.a) ≤ IntKind.i64.wrap (IntKind.i64.wrap (IntKind.i64.wrap (i * M.b) + M.b) - M.a) ∧
    IntKind.i64.wrap (IntKind.i64.wrap (IntKind.i64.wrap (i * M.b) + M.b) - M.a) ≤ (↑M.L : Int) ∧
    (0 : Nat) + M.L ≤ M.N ∧
    (IntKind.i64.wrap (M.a - M.a) = (0 : Int) ∨ IntKind.i64.wrap (M.a - M.a) < (↑M.L : Int))) ∧
    ((0 : Int) ≤ IntKind.i64.wrap (M.a - M.a) ∧
    IntKind.i64.wrap (M.a - M.a) ≤ IntKind.i64.wrap (IntKind.i64.wrap (IntKind.i64.wrap (i * M.b) + M.b) - M.a) ∧
    IntKind.i64.wrap (IntKind.i64.wrap (IntKind.i64.wrap (i * M.b) + M.b) - M.a) ≤ (↑M.L : Int) ∧
    (0 : Nat) + M.L ≤ M.N ∧
    (IntKind.i64.wrap (M.a - M.a) = (0 : Int) ∨ IntKind.i64.wrap (M.a - M.a) < (↑M.L : Int))) ∧
    ((1 : Nat) = (1 : Nat) ∧
    (1 : Nat) = (1 : Nat) ∧
    True ∧
    fitsN (2 : Nat) (176 : Nat)) ∧
    ∀ (f' : Nat → List Value), (k = (0 : Nat) → False) ∧
    (Value.int IntKind.i64 M.b = Value.int IntKind.i64 M.b ∧
    Value.slice (some { block := (5 : Nat), off := { block := (10 : Nat), off := (1 : Nat), spot := some (0 : Nat) : Addr }.off, spot := some (0 : Nat) : Addr }) (2 : Nat) (0 : Nat) = Value.slice (some { block := (5 : Nat), off := { block := (10 : Nat), off := (1 : Nat), spot := some (0 : Nat) : Addr }.off, spot := some (0 : Nat) : Addr }) (2 : Nat) (0 : Nat) ∧
    Value.int IntKind.i64 M.E = Value.int IntKind.i64 M.E ∧
    Value.int IntKind.i64 (IntKind.i64.wrap (i + (1 : Int))) = Value.int IntKind.i64 (IntKind.i64.wrap (i + (1 : Int))) ∧
    True) ∧
    Is (M.E = M.E) ∧
    VIs M (11 : Int) [VObj.arg (5 : TypeId) (1 : Nat) M.N M.f, VObj.cells (49 : TypeId) [Value.int IntKind.i64 (11 : Int), Value.string M.nm, Value.string M.ot, Value.int IntKind.i64 M.f1, Value.int IntKind.i64 M.f2, Value.int IntKind.i64 M.n1, Value.int IntKind.i64 M.n2, Value.int IntKind.i64 M.a, Value.int IntKind.i64 M.n, Value.slice (some { block := (0 : Nat), off := { block := (0 : Nat), off := (3 : Nat), spot := some (0 : Nat) : Addr }.off, spot := some (0 : Nat) : Addr }) M.L (0 : Nat)], VObj.cells (40 : TypeId) [Value.string M.e0, Value.int IntKind.i64 M.g1, Value.int IntKind.i64 M.g2, Value.int IntKind.i64 M.sz], VObj.cells (49 : TypeId) [Value.int IntKind.i64 (8 : Int), Value.string { data := #[] : ByteArray }, Value.string { data := #[] : ByteArray }, Value.int IntKind.i64 M.g1, Value.int IntKind.i64 M.g2, Value.int IntKind.i64 (0 : Int), Value.int IntKind.i64 (0 : Int), Value.int IntKind.i64 (0 : Int), Value.int IntKind.i64 (0 : Int), Value.slice none (0 : Nat) (0 : Nat)], VObj.cells (49 : TypeId) [Value.int IntKind.i64 (9 : Int), Value.string { data := #[] : ByteArray }, Value.string { data := #[] : ByteArray }, Value.int IntKind.i64 M.g1, Value.int IntKind.i64 M.g2, Value.int IntKind.i64 (0 : Int), Value.int IntKind.i64 (0 : Int), Value.int IntKind.i64 (0 : Int), Value.int IntKind.i64 (0 : Int), Value.slice none (0 : Nat) (0 : Nat)]] ∧
    Is ((2 : Nat) = (2 : Nat) ∧
    (0 : Nat) < (2 : Nat)) ∧
    Ax11 M (k - (1 : Nat)) (2 : Nat) (IntKind.i64.wrap (i + (1 : Int)))) (((0 : Int) ≤ IntKind.i64.wrap (M.a - M.a) ∧
    IntKind.i64.wrap (M.a - M.a) ≤ IntKind.i64.wrap (IntKind.i64.wrap (IntKind.i64.wrap (i * M.b) + M.b) - M.a) ∧
    IntKind.i64.wrap (IntKind.i64.wrap (IntKind.i64.wrap (i * M.b) + M.b) - M.a) ≤ (↑M.L : Int) ∧
    (0 : Nat) + M.L ≤ M.N ∧
    (IntKind.i64.wrap (M.a - M.a) = (0 : Int) ∨ IntKind.i64.wrap (M.a - M.a) < (↑M.L : Int))) ∧
    ((0 : Int) ≤ IntKind.i64.wrap (M.a - M.a) ∧
    IntKind.i64.wrap (M.a - M.a) ≤ IntKind.i64.wrap (IntKind.i64.wrap (IntKind.i64.wrap (i * M.b) + M.b) - M.a) ∧
    IntKind.i64.wrap (IntKind.i64.wrap (IntKind.i64.wrap (i * M.b) + M.b) - M.a) ≤ (↑M.L : Int) ∧
    (0 : Nat) + M.L ≤ M.N ∧
    (IntKind.i64.wrap (M.a - M.a) = (0 : Int) ∨ IntKind.i64.wrap (M.a - M.a) < (↑M.L : Int))) ∧
    ((1 : Nat) = (1 : Nat) ∧
    Nat.succ (0 : Nat) ≤ (1 : Nat) ∧
    fitsN (1 : Nat) (176 : Nat)) ∧
    ∀ (f' : Nat → List Value), (k = (0 : Nat) → False) ∧
    (Value.int IntKind.i64 M.b = Value.int IntKind.i64 M.b ∧
    Value.slice (some { block := (5 : Nat), off := { block := (8 : Nat), off := (1 : Nat), spot := some (0 : Nat) : Addr }.off, spot := some (0 : Nat) : Addr }) (1 : Nat) (0 : Nat) = Value.slice (some { block := (5 : Nat), off := { block := (8 : Nat), off := (1 : Nat), spot := some (0 : Nat) : Addr }.off, spot := some (0 : Nat) : Addr }) (1 : Nat) (0 : Nat) ∧
    Value.int IntKind.i64 M.E = Value.int IntKind.i64 M.E ∧
    Value.int IntKind.i64 (IntKind.i64.wrap (i + (1 : Int))) = Value.int IntKind.i64 (IntKind.i64.wrap (i + (1 : Int))) ∧
    True) ∧
    Is (M.E = M.E) ∧
    VIs M (11 : Int) [VObj.arg (5 : TypeId) (1 : Nat) M.N M.f, VObj.cells (49 : TypeId) [Value.int IntKind.i64 (11 : Int), Value.string M.nm, Value.string M.ot, Value.int IntKind.i64 M.f1, Value.int IntKind.i64 M.f2, Value.int IntKind.i64 M.n1, Value.int IntKind.i64 M.n2, Value.int IntKind.i64 M.a, Value.int IntKind.i64 M.n, Value.slice (some { block := (0 : Nat), off := { block := (0 : Nat), off := (3 : Nat), spot := some (0 : Nat) : Addr }.off, spot := some (0 : Nat) : Addr }) M.L (0 : Nat)], VObj.cells (40 : TypeId) [Value.string M.e0, Value.int IntKind.i64 M.g1, Value.int IntKind.i64 M.g2, Value.int IntKind.i64 M.sz], VObj.cells (49 : TypeId) [Value.int IntKind.i64 (8 : Int), Value.string { data := #[] : ByteArray }, Value.string { data := #[] : ByteArray }, Value.int IntKind.i64 M.g1, Value.int IntKind.i64 M.g2, Value.int IntKind.i64 (0 : Int), Value.int IntKind.i64 (0 : Int), Value.int IntKind.i64 (0 : Int), Value.int IntKind.i64 (0 : Int), Value.slice none (0 : Nat) (0 : Nat)], VObj.cells (49 : TypeId) [Value.int IntKind.i64 (9 : Int), Value.string { data := #[] : ByteArray }, Value.string { data := #[] : ByteArray }, Value.int IntKind.i64 M.g1, Value.int IntKind.i64 M.g2, Value.int IntKind.i64 (0 : Int), Value.int IntKind.i64 (0 : Int), Value.int IntKind.i64 (0 : Int), Value.int IntKind.i64 (0 : Int), Value.slice none (0 : Nat) (0 : Nat)]] ∧
    Is ((1 : Nat) = (1 : Nat) ∧
    (0 : Nat) < (1 : Nat)) ∧
    Ax11 M (k - (1 : Nat)) (1 : Nat) (IntKind.i64.wrap (i + (1 : Int))))) (((1 : Nat) = (1 : Nat) ∧
    Nat.succ (0 : Nat) ≤ (1 : Nat) ∧
    fitsN (1 : Nat) (176 : Nat)) ∧
    ((0 : Int) ≤ IntKind.i64.wrap (M.a - M.a) ∧
    IntKind.i64.wrap (M.a - M.a) ≤ IntKind.i64.wrap (IntKind.i64.wrap (IntKind.i64.wrap (i * M.b) + M.b) - M.a) ∧
    IntKind.i64.wrap (IntKind.i64.wrap (IntKind.i64.wrap (i * M.b) + M.b) - M.a) ≤ (↑M.L : Int) ∧
    (0 : Nat) + M.L ≤ M.N ∧
    (IntKind.i64.wrap (M.a - M.a) = (0 : Int) ∨ IntKind.i64.wrap (M.a - M.a) < (↑M.L : Int))) ∧
    ((0 : Int) ≤ IntKind.i64.wrap (M.a - M.a) ∧
    IntKind.i64.wrap (M.a - M.a) ≤ IntKind.i64.wrap (IntKind.i64.wrap (IntKind.i64.wrap (i * M.b) + M.b) - M.a) ∧
    IntKind.i64.wrap (IntKind.i64.wrap (IntKind.i64.wrap (i * M.b) + M.b) - M.a) ≤ (↑M.L : Int) ∧
    (0 : Nat) + M.L ≤ M.N ∧
    (IntKind.i64.wrap (M.a - M.a) = (0 : Int) ∨ IntKind.i64.wrap (M.a - M.a) < (↑M.L : Int))) ∧
    ((1 : Nat) = (1 : Nat) ∧
    (1 : Nat) = (1 : Nat) ∧
    True ∧
    fitsN (2 : Nat) (176 : Nat)) ∧
    ∀ (f' : Nat → List Value), (k = (0 : Nat) → False) ∧
    (Value.int IntKind.i64 M.b = Value.int IntKind.i64 M.b ∧
    Value.slice (some { block := (5 : Nat), off := { block := (10 : Nat), off := (1 : Nat), spot := some (0 : Nat) : Addr }.off, spot := some (0 : Nat) : Addr }) (2 : Nat) (0 : Nat) = Value.slice (some { block := (5 : Nat), off := { block := (10 : Nat), off := (1 : Nat), spot := some (0 : Nat) : Addr }.off, spot := some (0 : Nat) : Addr }) (2 : Nat) (0 : Nat) ∧
    Value.int IntKind.i64 M.E = Value.int IntKind.i64 M.E ∧
    Value.int IntKind.i64 (IntKind.i64.wrap (i + (1 : Int))) = Value.int IntKind.i64 (IntKind.i64.wrap (i + (1 : Int))) ∧
    True) ∧
    Is (M.E = M.E) ∧
    VIs M (11 : Int) [VObj.arg (5 : TypeId) (1 : Nat) M.N M.f, VObj.cells (49 : TypeId) [Value.int IntKind.i64 (11 : Int), Value.string M.nm, Value.string M.ot, Value.int IntKind.i64 M.f1, Value.int IntKind.i64 M.f2, Value.int IntKind.i64 M.n1, Value.int IntKind.i64 M.n2, Value.int IntKind.i64 M.a, Value.int IntKind.i64 M.n, Value.slice (some { block := (0 : Nat), off := { block := (0 : Nat), off := (3 : Nat), spot := some (0 : Nat) : Addr }.off, spot := some (0 : Nat) : Addr }) M.L (0 : Nat)], VObj.cells (40 : TypeId) [Value.string M.e0, Value.int IntKind.i64 M.g1, Value.int IntKind.i64 M.g2, Value.int IntKind.i64 M.sz], VObj.cells (49 : TypeId) [Value.int IntKind.i64 (8 : Int), Value.string { data := #[] : ByteArray }, Value.string { data := #[] : ByteArray }, Value.int IntKind.i64 M.g1, Value.int IntKind.i64 M.g2, Value.int IntKind.i64 (0 : Int), Value.int IntKind.i64 (0 : Int), Value.int IntKind.i64 (0 : Int), Value.int IntKind.i64 (0 : Int), Value.slice none (0 : Nat) (0 : Nat)], VObj.cells (49 : TypeId) [Value.int IntKind.i64 (9 : Int), Value.string { data := #[] : ByteArray }, Value.string { data := #[] : ByteArray }, Value.int IntKind.i64 M.g1, Value.int IntKind.i64 M.g2, Value.int IntKind.i64 (0 : Int), Value.int IntKind.i64 (0 : Int), Value.int IntKind.i64 (0 : Int), Value.int IntKind.i64 (0 : Int), Value.slice none (0 : Nat) (0 : Nat)]] ∧
    Is ((2 : Nat) = (2 : Nat) ∧
    (0 : Nat) < (2 : Nat)) ∧
    Ax11 M (k - (1 : Nat)) (2 : Nat) (IntKind.i64.wrap (i + (1 : Int))))))
    (bsplit (decide (IntKind.i64.wrap (IntKind.i64.wrap (i * M.b) + M.b) > M.E))
    (bsplit (IntKind.i64.wrap (i * M.b) == IntKind.i64.wrap (i * M.b))
    (bsplit (!M.E == IntKind.i64.wrap (IntKind.i64.wrap (i * M.b) + M.b)) (((1 : Nat) = (1 : Nat) ∧
    Nat.succ (0 : Nat) ≤ (1 : Nat) ∧
    fitsN (1 : Nat) (176 : Nat)) ∧
    ((0 : Int) ≤ IntKind.i64.wrap (IntKind.i64.wrap (i * M.b) - M.a) ∧
    IntKind.i64.wrap (IntKind.i64.wrap (i * M.b) - M.a) ≤ IntKind.i64.wrap (M.E - M.a) ∧
    IntKind.i64.wrap (M.E - M.a) ≤ (↑M.L : Int) ∧
    (0 : Nat) + M.L ≤ M.N ∧
    (IntKind.i64.wrap (IntKind.i64.wrap (i * M.b) - M.a) = (0 : Int) ∨ IntKind.i64.wrap (IntKind.i64.wrap (i * M.b) - M.a) < (↑M.L : Int))) ∧
    ((0 : Int) ≤ IntKind.i64.wrap (IntKind.i64.wrap (i * M.b) - M.a) ∧
    IntKind.i64.wrap (IntKind.i64.wrap (i * M.b) - M.a) ≤ IntKind.i64.wrap (M.E - M.a) ∧
    IntKind.i64.wrap (M.E - M.a) ≤ (↑M.L : Int) ∧
    (0 : Nat) + M.L ≤ M.N ∧
    (IntKind.i64.wrap (IntKind.i64.wrap (i * M.b) - M.a) = (0 : Int) ∨ IntKind.i64.wrap (IntKind.i64.wrap (i * M.b) - M.a) < (↑M.L : Int))) ∧
    ((1 : Nat) = (1 : Nat) ∧
    (1 : Nat) = (1 : Nat) ∧
    True ∧
    fitsN (2 : Nat) (176 : Nat)) ∧
    ∀ (f' : Nat → List Value), (k = (0 : Nat) → False) ∧
    (Value.int IntKind.i64 M.b = Value.int IntKind.i64 M.b ∧
    Value.slice (some { block := (5 : Nat), off := { block := (10 : Nat), off := (1 : Nat), spot := some (0 : Nat) : Addr }.off, spot := some (0 : Nat) : Addr }) (2 : Nat) (0 : Nat) = Value.slice (some { block := (5 : Nat), off := { block := (10 : Nat), off := (1 : Nat), spot := some (0 : Nat) : Addr }.off, spot := some (0 : Nat) : Addr }) (2 : Nat) (0 : Nat) ∧
    Value.int IntKind.i64 M.E = Value.int IntKind.i64 M.E ∧
    Value.int IntKind.i64 (IntKind.i64.wrap (i + (1 : Int))) = Value.int IntKind.i64 (IntKind.i64.wrap (i + (1 : Int))) ∧
    True) ∧
    Is (M.E = M.E) ∧
    VIs M (11 : Int) [VObj.arg (5 : TypeId) (1 : Nat) M.N M.f, VObj.cells (49 : TypeId) [Value.int IntKind.i64 (11 : Int), Value.string M.nm, Value.string M.ot, Value.int IntKind.i64 M.f1, Value.int IntKind.i64 M.f2, Value.int IntKind.i64 M.n1, Value.int IntKind.i64 M.n2, Value.int IntKind.i64 M.a, Value.int IntKind.i64 M.n, Value.slice (some { block := (0 : Nat), off := { block := (0 : Nat), off := (3 : Nat), spot := some (0 : Nat) : Addr }.off, spot := some (0 : Nat) : Addr }) M.L (0 : Nat)], VObj.cells (40 : TypeId) [Value.string M.e0, Value.int IntKind.i64 M.g1, Value.int IntKind.i64 M.g2, Value.int IntKind.i64 M.sz], VObj.cells (49 : TypeId) [Value.int IntKind.i64 (8 : Int), Value.string { data := #[] : ByteArray }, Value.string { data := #[] : ByteArray }, Value.int IntKind.i64 M.g1, Value.int IntKind.i64 M.g2, Value.int IntKind.i64 (0 : Int), Value.int IntKind.i64 (0 : Int), Value.int IntKind.i64 (0 : Int), Value.int IntKind.i64 (0 : Int), Value.slice none (0 : Nat) (0 : Nat)], VObj.cells (49 : TypeId) [Value.int IntKind.i64 (9 : Int), Value.string { data := #[] : ByteArray }, Value.string { data := #[] : ByteArray }, Value.int IntKind.i64 M.g1, Value.int IntKind.i64 M.g2, Value.int IntKind.i64 (0 : Int), Value.int IntKind.i64 (0 : Int), Value.int IntKind.i64 (0 : Int), Value.int IntKind.i64 (0 : Int), Value.slice none (0 : Nat) (0 : Nat)]] ∧
    Is ((2 : Nat) = (2 : Nat) ∧
    (0 : Nat) < (2 : Nat)) ∧
    Ax11 M (k - (1 : Nat)) (2 : Nat) (IntKind.i64.wrap (i + (1 : Int)))) (((0 : Int) ≤ IntKind.i64.wrap (IntKind.i64.wrap (i * M.b) - M.a) ∧
    IntKind.i64.wrap (IntKind.i64.wrap (i * M.b) - M.a) ≤ IntKind.i64.wrap (M.E - M.a) ∧
    IntKind.i64.wrap (M.E - M.a) ≤ (↑M.L : Int) ∧
    (0 : Nat) + M.L ≤ M.N ∧
    (IntKind.i64.wrap (IntKind.i64.wrap (i * M.b) - M.a) = (0 : Int) ∨ IntKind.i64.wrap (IntKind.i64.wrap (i * M.b) - M.a) < (↑M.L : Int))) ∧
    ((0 : Int) ≤ IntKind.i64.wrap (IntKind.i64.wrap (i * M.b) - M.a) ∧
    IntKind.i64.wrap (IntKind.i64.wrap (i * M.b) - M.a) ≤ IntKind.i64.wrap (M.E - M.a) ∧
    IntKind.i64.wrap (M.E - M.a) ≤ (↑M.L : Int) ∧
    (0 : Nat) + M.L ≤ M.N ∧
    (IntKind.i64.wrap (IntKind.i64.wrap (i * M.b) - M.a) = (0 : Int) ∨ IntKind.i64.wrap (IntKind.i64.wrap (i * M.b) - M.a) < (↑M.L : Int))) ∧
    ((1 : Nat) = (1 : Nat) ∧
    Nat.succ (0 : Nat) ≤ (1 : Nat) ∧
    fitsN (1 : Nat) (176 : Nat)) ∧
    ∀ (f' : Nat → List Value), (k = (0 : Nat) → False) ∧
    (Value.int IntKind.i64 M.b = Value.int IntKind.i64 M.b ∧
    Value.slice (some { block := (5 : Nat), off := { block := (8 : Nat), off := (1 : Nat), spot := some (0 : Nat) : Addr }.off, spot := some (0 : Nat) : Addr }) (1 : Nat) (0 : Nat) = Value.slice (some { block := (5 : Nat), off := { block := (8 : Nat), off := (1 : Nat), spot := some (0 : Nat) : Addr }.off, spot := some (0 : Nat) : Addr }) (1 : Nat) (0 : Nat) ∧
    Value.int IntKind.i64 M.E = Value.int IntKind.i64 M.E ∧
    Value.int IntKind.i64 (IntKind.i64.wrap (i + (1 : Int))) = Value.int IntKind.i64 (IntKind.i64.wrap (i + (1 : Int))) ∧
    True) ∧
    Is (M.E = M.E) ∧
    VIs M (11 : Int) [VObj.arg (5 : TypeId) (1 : Nat) M.N M.f, VObj.cells (49 : TypeId) [Value.int IntKind.i64 (11 : Int), Value.string M.nm, Value.string M.ot, Value.int IntKind.i64 M.f1, Value.int IntKind.i64 M.f2, Value.int IntKind.i64 M.n1, Value.int IntKind.i64 M.n2, Value.int IntKind.i64 M.a, Value.int IntKind.i64 M.n, Value.slice (some { block := (0 : Nat), off := { block := (0 : Nat), off := (3 : Nat), spot := some (0 : Nat) : Addr }.off, spot := some (0 : Nat) : Addr }) M.L (0 : Nat)], VObj.cells (40 : TypeId) [Value.string M.e0, Value.int IntKind.i64 M.g1, Value.int IntKind.i64 M.g2, Value.int IntKind.i64 M.sz], VObj.cells (49 : TypeId) [Value.int IntKind.i64 (8 : Int), Value.string { data := #[] : ByteArray }, Value.string { data := #[] : ByteArray }, Value.int IntKind.i64 M.g1, Value.int IntKind.i64 M.g2, Value.int IntKind.i64 (0 : Int), Value.int IntKind.i64 (0 : Int), Value.int IntKind.i64 (0 : Int), Value.int IntKind.i64 (0 : Int), Value.slice none (0 : Nat) (0 : Nat)], VObj.cells (49 : TypeId) [Value.int IntKind.i64 (9 : Int), Value.string { data := #[] : ByteArray }, Value.string { data := #[] : ByteArray }, Value.int IntKind.i64 M.g1, Value.int IntKind.i64 M.g2, Value.int IntKind.i64 (0 : Int), Value.int IntKind.i64 (0 : Int), Value.int IntKind.i64 (0 : Int), Value.int IntKind.i64 (0 : Int), Value.slice none (0 : Nat) (0 : Nat)]] ∧
    Is ((1 : Nat) = (1 : Nat) ∧
    (0 : Nat) < (1 : Nat)) ∧
    Ax11 M (k - (1 : Nat)) (1 : Nat) (IntKind.i64.wrap (i + (1 : Int))))) (((1 : Nat) = (1 : Nat) ∧
    Nat.succ (0 : Nat) ≤ (1 : Nat) ∧
    fitsN (1 : Nat) (176 : Nat)) ∧
    ((0 : Int) ≤ IntKind.i64.wrap (IntKind.i64.wrap (i * M.b) - M.a) ∧
    IntKind.i64.wrap (IntKind.i64.wrap (i * M.b) - M.a) ≤ IntKind.i64.wrap (M.E - M.a) ∧
    IntKind.i64.wrap (M.E - M.a) ≤ (↑M.L : Int) ∧
    (0 : Nat) + M.L ≤ M.N ∧
    (IntKind.i64.wrap (IntKind.i64.wrap (i * M.b) - M.a) = (0 : Int) ∨ IntKind.i64.wrap (IntKind.i64.wrap (i * M.b) - M.a) < (↑M.L : Int))) ∧
    ((0 : Int) ≤ IntKind.i64.wrap (IntKind.i64.wrap (i * M.b) - M.a) ∧
    IntKind.i64.wrap (IntKind.i64.wrap (i * M.b) - M.a) ≤ IntKind.i64.wrap (M.E - M.a) ∧
    IntKind.i64.wrap (M.E - M.a) ≤ (↑M.L : Int) ∧
    (0 : Nat) + M.L ≤ M.N ∧
    (IntKind.i64.wrap (IntKind.i64.wrap (i * M.b) - M.a) = (0 : Int) ∨ IntKind.i64.wrap (IntKind.i64.wrap (i * M.b) - M.a) < (↑M.L : Int))) ∧
    ((1 : Nat) = (1 : Nat) ∧
    (1 : Nat) = (1 : Nat) ∧
    True ∧
    fitsN (2 : Nat) (176 : Nat)) ∧
    ∀ (f' : Nat → List Value), (k = (0 : Nat) → False) ∧
    (Value.int IntKind.i64 M.b = Value.int IntKind.i64 M.b ∧
    Value.slice (some { block := (5 : Nat), off := { block := (10 : Nat), off := (1 : Nat), spot := some (0 : Nat) : Addr }.off, spot := some (0 : Nat) : Addr }) (2 : Nat) (0 : Nat) = Value.slice (some { block := (5 : Nat), off := { block := (10 : Nat), off := (1 : Nat), spot := some (0 : Nat) : Addr }.off, spot := some (0 : Nat) : Addr }) (2 : Nat) (0 : Nat) ∧
    Value.int IntKind.i64 M.E = Value.int IntKind.i64 M.E ∧
    Value.int IntKind.i64 (IntKind.i64.wrap (i + (1 : Int))) = Value.int IntKind.i64 (IntKind.i64.wrap (i + (1 : Int))) ∧
    True) ∧
    Is (M.E = M.E) ∧
    VIs M (11 : Int) [VObj.arg (5 : TypeId) (1 : Nat) M.N M.f, VObj.cells (49 : TypeId) [Value.int IntKind.i64 (11 : Int), Value.string M.nm, Value.string M.ot, Value.int IntKind.i64 M.f1, Value.int IntKind.i64 M.f2, Value.int IntKind.i64 M.n1, Value.int IntKind.i64 M.n2, Value.int IntKind.i64 M.a, Value.int IntKind.i64 M.n, Value.slice (some { block := (0 : Nat), off := { block := (0 : Nat), off := (3 : Nat), spot := some (0 : Nat) : Addr }.off, spot := some (0 : Nat) : Addr }) M.L (0 : Nat)], VObj.cells (40 : TypeId) [Value.string M.e0, Value.int IntKind.i64 M.g1, Value.int IntKind.i64 M.g2, Value.int IntKind.i64 M.sz], VObj.cells (49 : TypeId) [Value.int IntKind.i64 (8 : Int), Value.string { data := #[] : ByteArray }, Value.string { data := #[] : ByteArray }, Value.int IntKind.i64 M.g1, Value.int IntKind.i64 M.g2, Value.int IntKind.i64 (0 : Int), Value.int IntKind.i64 (0 : Int), Value.int IntKind.i64 (0 : Int), Value.int IntKind.i64 (0 : Int), Value.slice none (0 : Nat) (0 : Nat)], VObj.cells (49 : TypeId) [Value.int IntKind.i64 (9 : Int), Value.string { data := #[] : ByteArray }, Value.string { data := #[] : ByteArray }, Value.int IntKind.i64 M.g1, Value.int IntKind.i64 M.g2, Value.int IntKind.i64 (0 : Int), Value.int IntKind.i64 (0 : Int), Value.int IntKind.i64 (0 : Int), Value.int IntKind.i64 (0 : Int), Value.slice none (0 : Nat) (0 : Nat)]] ∧
    Is ((2 : Nat) = (2 : Nat) ∧
    (0 : Nat) < (2 : Nat)) ∧
    Ax11 M (k - (1 : Nat)) (2 : Nat) (IntKind.i64.wrap (i + (1 : Int)))))
    (bsplit (IntKind.i64.wrap (i * M.b) == IntKind.i64.wrap (i * M.b))
    (bsplit (!IntKind.i64.wrap (IntKind.i64.wrap (i * M.b) + M.b) == IntKind.i64.wrap (IntKind.i64.wrap (i * M.b) + M.b)) (((1 : Nat) = (1 : Nat) ∧
    Nat.succ (0 : Nat) ≤ (1 : Nat) ∧
    fitsN (1 : Nat) (176 : Nat)) ∧
    ((0 : Int) ≤ IntKind.i64.wrap (IntKind.i64.wrap (i * M.b) - M.a) ∧
    IntKind.i64.wrap (IntKind.i64.wrap (i * M.b) - M.a) ≤ IntKind.i64.wrap (IntKind.i64.wrap (IntKind.i64.wrap (i * M.b) + M.b) - M.a) ∧
    IntKind.i64.wrap (IntKind.i64.wrap (IntKind.i64.wrap (i * M.b) + M.b) - M.a) ≤ (↑M.L : Int) ∧
    (0 : Nat) + M.L ≤ M.N ∧
    (IntKind.i64.wrap (IntKind.i64.wrap (i * M.b) - M.a) = (0 : Int) ∨ IntKind.i64.wrap (IntKind.i64.wrap (i * M.b) - M.a) < (↑M.L : Int))) ∧
    ((0 : Int) ≤ IntKind.i64.wrap (IntKind.i64.wrap (i * M.b) - M.a) ∧
    IntKind.i64.wrap (IntKind.i64.wrap (i * M.b) - M.a) ≤ IntKind.i64.wrap (IntKind.i64.wrap (IntKind.i64.wrap (i * M.b) + M.b) - M.a) ∧
    IntKind.i64.wrap (IntKind.i64.wrap (IntKind.i64.wrap (i * M.b) + M.b) - M.a) ≤ (↑M.L : Int) ∧
    (0 : Nat) + M.L ≤ M.N ∧
    (IntKind.i64.wrap (IntKind.i64.wrap (i * M.b) - M.a) = (0 : Int) ∨ IntKind.i64.wrap (IntKind.i64.wrap (i * M.b) - M.a) < (↑M.L : Int))) ∧
    ((1 : Nat) = (1 : Nat) ∧
    (1 : Nat) = (1 : Nat) ∧
    True ∧
    fitsN (2 : Nat) (176 : Nat)) ∧
    ∀ (f' : Nat → List Value), (k = (0 : Nat) → False) ∧
    (Value.int IntKind.i64 M.b = Value.int IntKind.i64 M.b ∧
    Value.slice (some { block := (5 : Nat), off := { block := (10 : Nat), off := (1 : Nat), spot := some (0 : Nat) : Addr }.off, spot := some (0 : Nat) : Addr }) (2 : Nat) (0 : Nat) = Value.slice (some { block := (5 : Nat), off := { block := (10 : Nat), off := (1 : Nat), spot := some (0 : Nat) : Addr }.off, spot := some (0 : Nat) : Addr }) (2 : Nat) (0 : Nat) ∧
    Value.int IntKind.i64 M.E = Value.int IntKind.i64 M.E ∧
    Value.int IntKind.i64 (IntKind.i64.wrap (i + (1 : Int))) = Value.int IntKind.i64 (IntKind.i64.wrap (i + (1 : Int))) ∧
    True) ∧
    Is (M.E = M.E) ∧
    VIs M (11 : Int) [VObj.arg (5 : TypeId) (1 : Nat) M.N M.f, VObj.cells (49 : TypeId) [Value.int IntKind.i64 (11 : Int), Value.string M.nm, Value.string M.ot, Value.int IntKind.i64 M.f1, Value.int IntKind.i64 M.f2, Value.int IntKind.i64 M.n1, Value.int IntKind.i64 M.n2, Value.int IntKind.i64 M.a, Value.int IntKind.i64 M.n, Value.slice (some { block := (0 : Nat), off := { block := (0 : Nat), off := (3 : Nat), spot := some (0 : Nat) : Addr }.off, spot := some (0 : Nat) : Addr }) M.L (0 : Nat)], VObj.cells (40 : TypeId) [Value.string M.e0, Value.int IntKind.i64 M.g1, Value.int IntKind.i64 M.g2, Value.int IntKind.i64 M.sz], VObj.cells (49 : TypeId) [Value.int IntKind.i64 (8 : Int), Value.string { data := #[] : ByteArray }, Value.string { data := #[] : ByteArray }, Value.int IntKind.i64 M.g1, Value.int IntKind.i64 M.g2, Value.int IntKind.i64 (0 : Int), Value.int IntKind.i64 (0 : Int), Value.int IntKind.i64 (0 : Int), Value.int IntKind.i64 (0 : Int), Value.slice none (0 : Nat) (0 : Nat)], VObj.cells (49 : TypeId) [Value.int IntKind.i64 (9 : Int), Value.string { data := #[] : ByteArray }, Value.string { data := #[] : ByteArray }, Value.int IntKind.i64 M.g1, Value.int IntKind.i64 M.g2, Value.int IntKind.i64 (0 : Int), Value.int IntKind.i64 (0 : Int), Value.int IntKind.i64 (0 : Int), Value.int IntKind.i64 (0 : Int), Value.slice none (0 : Nat) (0 : Nat)]] ∧
    Is ((2 : Nat) = (2 : Nat) ∧
    (0 : Nat) < (2 : Nat)) ∧
    Ax11 M (k - (1 : Nat)) (2 : Nat) (IntKind.i64.wrap (i + (1 : Int)))) (((0 : Int) ≤ IntKind.i64.wrap (IntKind.i64.wrap (i * M.b) - M.a) ∧
    IntKind.i64.wrap (IntKind.i64.wrap (i * M.b) - M.a) ≤ IntKind.i64.wrap (IntKind.i64.wrap (IntKind.i64.wrap (i * M.b) + M.b) - M.a) ∧
    IntKind.i64.wrap (IntKind.i64.wrap (IntKind.i64.wrap (i * M.b) + M.b) - M.a) ≤ (↑M.L : Int) ∧
    (0 : Nat) + M.L ≤ M.N ∧
    (IntKind.i64.wrap (IntKind.i64.wrap (i * M.b) - M.a) = (0 : Int) ∨ IntKind.i64.wrap (IntKind.i64.wrap (i * M.b) - M.a) < (↑M.L : Int))) ∧
    ((0 : Int) ≤ IntKind.i64.wrap (IntKind.i64.wrap (i * M.b) - M.a) ∧
    IntKind.i64.wrap (IntKind.i64.wrap (i * M.b) - M.a) ≤ IntKind.i64.wrap (IntKind.i64.wrap (IntKind.i64.wrap (i * M.b) + M.b) - M.a) ∧
    IntKind.i64.wrap (IntKind.i64.wrap (IntKind.i64.wrap (i * M.b) + M.b) - M.a) ≤ (↑M.L : Int) ∧
    (0 : Nat) + M.L ≤ M.N ∧
    (IntKind.i64.wrap (IntKind.i64.wrap (i * M.b) - M.a) = (0 : Int) ∨ IntKind.i64.wrap (IntKind.i64.wrap (i * M.b) - M.a) < (↑M.L : Int))) ∧
    ((1 : Nat) = (1 : Nat) ∧
    Nat.succ (0 : Nat) ≤ (1 : Nat) ∧
    fitsN (1 : Nat) (176 : Nat)) ∧
    ∀ (f' : Nat → List Value), (k = (0 : Nat) → False) ∧
    (Value.int IntKind.i64 M.b = Value.int IntKind.i64 M.b ∧
    Value.slice (some { block := (5 : Nat), off := { block := (8 : Nat), off := (1 : Nat), spot := some (0 : Nat) : Addr }.off, spot := some (0 : Nat) : Addr }) (1 : Nat) (0 : Nat) = Value.slice (some { block := (5 : Nat), off := { block := (8 : Nat), off := (1 : Nat), spot := some (0 : Nat) : Addr }.off, spot := some (0 : Nat) : Addr }) (1 : Nat) (0 : Nat) ∧
    Value.int IntKind.i64 M.E = Value.int IntKind.i64 M.E ∧
    Value.int IntKind.i64 (IntKind.i64.wrap (i + (1 : Int))) = Value.int IntKind.i64 (IntKind.i64.wrap (i + (1 : Int))) ∧
    True) ∧
    Is (M.E = M.E) ∧
    VIs M (11 : Int) [VObj.arg (5 : TypeId) (1 : Nat) M.N M.f, VObj.cells (49 : TypeId) [Value.int IntKind.i64 (11 : Int), Value.string M.nm, Value.string M.ot, Value.int IntKind.i64 M.f1, Value.int IntKind.i64 M.f2, Value.int IntKind.i64 M.n1, Value.int IntKind.i64 M.n2, Value.int IntKind.i64 M.a, Value.int IntKind.i64 M.n, Value.slice (some { block := (0 : Nat), off := { block := (0 : Nat), off := (3 : Nat), spot := some (0 : Nat) : Addr }.off, spot := some (0 : Nat) : Addr }) M.L (0 : Nat)], VObj.cells (40 : TypeId) [Value.string M.e0, Value.int IntKind.i64 M.g1, Value.int IntKind.i64 M.g2, Value.int IntKind.i64 M.sz], VObj.cells (49 : TypeId) [Value.int IntKind.i64 (8 : Int), Value.string { data := #[] : ByteArray }, Value.string { data := #[] : ByteArray }, Value.int IntKind.i64 M.g1, Value.int IntKind.i64 M.g2, Value.int IntKind.i64 (0 : Int), Value.int IntKind.i64 (0 : Int), Value.int IntKind.i64 (0 : Int), Value.int IntKind.i64 (0 : Int), Value.slice none (0 : Nat) (0 : Nat)], VObj.cells (49 : TypeId) [Value.int IntKind.i64 (9 : Int), Value.string { data := #[] : ByteArray }, Value.string { data := #[] : ByteArray }, Value.int IntKind.i64 M.g1, Value.int IntKind.i64 M.g2, Value.int IntKind.i64 (0 : Int), Value.int IntKind.i64 (0 : Int), Value.int IntKind.i64 (0 : Int), Value.int IntKind.i64 (0 : Int), Value.slice none (0 : Nat) (0 : Nat)]] ∧
    Is ((1 : Nat) = (1 : Nat) ∧
    (0 : Nat) < (1 : Nat)) ∧
    Ax11 M (k - (1 : Nat)) (1 : Nat) (IntKind.i64.wrap (i + (1 : Int))))) (((1 : Nat) = (1 : Nat) ∧
    Nat.succ (0 : Nat) ≤ (1 : Nat) ∧
    fitsN (1 : Nat) (176 : Nat)) ∧
    ((0 : Int) ≤ IntKind.i64.wrap (IntKind.i64.wrap (i * M.b) - M.a) ∧
    IntKind.i64.wrap (IntKind.i64.wrap (i * M.b) - M.a) ≤ IntKind.i64.wrap (IntKind.i64.wrap (IntKind.i64.wrap (i * M.b) + M.b) - M.a) ∧
    IntKind.i64.wrap (IntKind.i64.wrap (IntKind.i64.wrap (i * M.b) + M.b) - M.a) ≤ (↑M.L : Int) ∧
    (0 : Nat) + M.L ≤ M.N ∧
    (IntKind.i64.wrap (IntKind.i64.wrap (i * M.b) - M.a) = (0 : Int) ∨ IntKind.i64.wrap (IntKind.i64.wrap (i * M.b) - M.a) < (↑M.L : Int))) ∧
    ((0 : Int) ≤ IntKind.i64.wrap (IntKind.i64.wrap (i * M.b) - M.a) ∧
    IntKind.i64.wrap (IntKind.i64.wrap (i * M.b) - M.a) ≤ IntKind.i64.wrap (IntKind.i64.wrap (IntKind.i64.wrap (i * M.b) + M.b) - M.a) ∧
    IntKind.i64.wrap (IntKind.i64.wrap (IntKind.i64.wrap (i * M.b) + M.b) - M.a) ≤ (↑M.L : Int) ∧
    (0 : Nat) + M.L ≤ M.N ∧
    (IntKind.i64.wrap (IntKind.i64.wrap (i * M.b) - M.a) = (0 : Int) ∨ IntKind.i64.wrap (IntKind.i64.wrap (i * M.b) - M.a) < (↑M.L : Int))) ∧
    ((1 : Nat) = (1 : Nat) ∧
    (1 : Nat) = (1 : Nat) ∧
    True ∧
    fitsN (2 : Nat) (176 : Nat)) ∧
    ∀ (f' : Nat → List Value), (k = (0 : Nat) → False) ∧
    (Value.int IntKind.i64 M.b = Value.int IntKind.i64 M.b ∧
    Value.slice (some { block := (5 : Nat), off := { block := (10 : Nat), off := (1 : Nat), spot := some (0 : Nat) : Addr }.off, spot := some (0 : Nat) : Addr }) (2 : Nat) (0 : Nat) = Value.slice (some { block := (5 : Nat), off := { block := (10 : Nat), off := (1 : Nat), spot := some (0 : Nat) : Addr }.off, spot := some (0 : Nat) : Addr }) (2 : Nat) (0 : Nat) ∧
    Value.int IntKind.i64 M.E = Value.int IntKind.i64 M.E ∧
    Value.int IntKind.i64 (IntKind.i64.wrap (i + (1 : Int))) = Value.int IntKind.i64 (IntKind.i64.wrap (i + (1 : Int))) ∧
    True) ∧
    Is (M.E = M.E) ∧
    VIs M (11 : Int) [VObj.arg (5 : TypeId) (1 : Nat) M.N M.f, VObj.cells (49 : TypeId) [Value.int IntKind.i64 (11 : Int), Value.string M.nm, Value.string M.ot, Value.int IntKind.i64 M.f1, Value.int IntKind.i64 M.f2, Value.int IntKind.i64 M.n1, Value.int IntKind.i64 M.n2, Value.int IntKind.i64 M.a, Value.int IntKind.i64 M.n, Value.slice (some { block := (0 : Nat), off := { block := (0 : Nat), off := (3 : Nat), spot := some (0 : Nat) : Addr }.off, spot := some (0 : Nat) : Addr }) M.L (0 : Nat)], VObj.cells (40 : TypeId) [Value.string M.e0, Value.int IntKind.i64 M.g1, Value.int IntKind.i64 M.g2, Value.int IntKind.i64 M.sz], VObj.cells (49 : TypeId) [Value.int IntKind.i64 (8 : Int), Value.string { data := #[] : ByteArray }, Value.string { data := #[] : ByteArray }, Value.int IntKind.i64 M.g1, Value.int IntKind.i64 M.g2, Value.int IntKind.i64 (0 : Int), Value.int IntKind.i64 (0 : Int), Value.int IntKind.i64 (0 : Int), Value.int IntKind.i64 (0 : Int), Value.slice none (0 : Nat) (0 : Nat)], VObj.cells (49 : TypeId) [Value.int IntKind.i64 (9 : Int), Value.string { data := #[] : ByteArray }, Value.string { data := #[] : ByteArray }, Value.int IntKind.i64 M.g1, Value.int IntKind.i64 M.g2, Value.int IntKind.i64 (0 : Int), Value.int IntKind.i64 (0 : Int), Value.int IntKind.i64 (0 : Int), Value.int IntKind.i64 (0 : Int), Value.slice none (0 : Nat) (0 : Nat)]] ∧
    Is ((2 : Nat) = (2 : Nat) ∧
    (0 : Nat) < (2 : Nat)) ∧
    Ax11 M (k - (1 : Nat)) (2 : Nat) (IntKind.i64.wrap (i + (1 : Int))))))) ((Value.slice none (0 : Nat) (0 : Nat) = Value.slice none (0 : Nat) (0 : Nat) ∧
    Value.int IntKind.i64 M.E = Value.int IntKind.i64 M.E ∧
    True) ∧
    VIs M (11 : Int) [VObj.arg (5 : TypeId) (1 : Nat) M.N M.f, VObj.cells (49 : TypeId) [Value.int IntKind.i64 (11 : Int), Value.string M.nm, Value.string M.ot, Value.int IntKind.i64 M.f1, Value.int IntKind.i64 M.f2, Value.int IntKind.i64 M.n1, Value.int IntKind.i64 M.n2, Value.int IntKind.i64 M.a, Value.int IntKind.i64 M.n, Value.slice (some { block := (0 : Nat), off := { block := (0 : Nat), off := (3 : Nat), spot := some (0 : Nat) : Addr }.off, spot := some (0 : Nat) : Addr }) M.L (0 : Nat)], VObj.cells (40 : TypeId) [Value.string M.e0, Value.int IntKind.i64 M.g1, Value.int IntKind.i64 M.g2, Value.int IntKind.i64 M.sz], VObj.cells (49 : TypeId) [Value.int IntKind.i64 (8 : Int), Value.string { data := #[] : ByteArray }, Value.string { data := #[] : ByteArray }, Value.int IntKind.i64 M.g1, Value.int IntKind.i64 M.g2, Value.int IntKind.i64 (0 : Int), Value.int IntKind.i64 (0 : Int), Value.int IntKind.i64 (0 : Int), Value.int IntKind.i64 (0 : Int), Value.slice none (0 : Nat) (0 : Nat)], VObj.cells (49 : TypeId) [Value.int IntKind.i64 (9 : Int), Value.string { data := #[] : ByteArray }, Value.string { data := #[] : ByteArray }, Value.int IntKind.i64 M.g1, Value.int IntKind.i64 M.g2, Value.int IntKind.i64 (0 : Int), Value.int IntKind.i64 (0 : Int), Value.int IntKind.i64 (0 : Int), Value.int IntKind.i64 (0 : Int), Value.slice none (0 : Nat) (0 : Nat)]] ∧
    Cnt ((↑(0 : Nat) : Int) = ct11 M))) ((Value.slice none (0 : Nat) (0 : Nat) = Value.slice none (0 : Nat) (0 : Nat) ∧
    Value.int IntKind.i64 M.E = Value.int IntKind.i64 M.E ∧
    True) ∧
    VIs M (11 : Int) [VObj.arg (5 : TypeId) (1 : Nat) M.N M.f, VObj.cells (49 : TypeId) [Value.int IntKind.i64 (11 : Int), Value.string M.nm, Value.string M.ot, Value.int IntKind.i64 M.f1, Value.int IntKind.i64 M.f2, Value.int IntKind.i64 M.n1, Value.int IntKind.i64 M.n2, Value.int IntKind.i64 M.a, Value.int IntKind.i64 M.n, Value.slice (some { block := (0 : Nat), off := { block := (0 : Nat), off := (3 : Nat), spot := some (0 : Nat) : Addr }.off, spot := some (0 : Nat) : Addr }) M.L (0 : Nat)], VObj.cells (40 : TypeId) [Value.string M.e0, Value.int IntKind.i64 M.g1, Value.int IntKind.i64 M.g2, Value.int IntKind.i64 M.sz], VObj.cells (49 : TypeId) [Value.int IntKind.i64 (8 : Int), Value.string { data := #[] : ByteArray }, Value.string { data := #[] : ByteArray }, Value.int IntKind.i64 M.g1, Value.int IntKind.i64 M.g2, Value.int IntKind.i64 (0 : Int), Value.int IntKind.i64 (0 : Int), Value.int IntKind.i64 (0 : Int), Value.int IntKind.i64 (0 : Int), Value.slice none (0 : Nat) (0 : Nat)], VObj.cells (49 : TypeId) [Value.int IntKind.i64 (9 : Int), Value.string { data := #[] : ByteArray }, Value.string { data := #[] : ByteArray }, Value.int IntKind.i64 M.g1, Value.int IntKind.i64 M.g2, Value.int IntKind.i64 (0 : Int), Value.int IntKind.i64 (0 : Int), Value.int IntKind.i64 (0 : Int), Value.int IntKind.i64 (0 : Int), Value.slice none (0 : Nat) (0 : Nat)]] ∧
    Cnt ((↑(0 : Nat) : Int) = ct11 M))) (by kernel_rfl) ?_
  rcases h with ⟨⟨hL, h2, h3⟩ | ⟨hp, h⟩⟩
  · exact bsplit_iff.2 ⟨fun h => absurd (of_decide_eq_true h) (by omega), fun _ => ⟨⟨rfl, rfl, trivial⟩, ⟨rfl⟩, ⟨by unfold ct11; rw [if_pos hL]; rfl⟩⟩⟩
  have hct : ct11 M = tt11 M := by unfold ct11; rw [if_neg (by have := hp.L1; omega)]
  have hb := hp.b1; have hb2 := hp.b2; have ha := hp.a1; have hL := hp.L1; have he := hp.e2; have hn := hp.n
  have hE : M.E = M.a + M.L := rfl
  obtain ⟨b1, b2, b3, b4, b5, b6⟩ := h.bd hp
  obtain ⟨q1, q2, q3⟩ := tdq (x := M.E - 1) (b := M.b) (m := 1048576) (by omega) (by omega) hb
  rw [w64 (M.E - 1) (by omega), q1, w64 ((M.E - 1) / M.b) (by omega), w64 (i + 1) (by omega)]
  refine bsplit_iff.2 ⟨fun _ => ⟨by omega, bsplit_iff.2 ⟨fun hi => ?_, fun hi => ?_⟩⟩, fun h => absurd (of_decide_eq_false h) (by omega)⟩
  · have hi := of_decide_eq_true hi
    have hk := b6 hi
    obtain ⟨f1, f2, f3, f4, f5, f6, _⟩ := hp.facts h.h0 hi
    have hw := h.whole hp hi
    have hq := h.part hp hi
    generalize i * M.b = X at *
    rw [w64 X (by omega), w64 (X + M.b) (by omega), w64 (M.a - M.a) (by omega), w64 (M.E - M.a) (by omega), w64 (X + M.b - M.a) (by omega), w64 (X - M.a) (by omega)]
    repeat' (refine bsplit_iff.2 ⟨fun hx => ?_, fun hx => ?_⟩ <;> simp only [decide_eq_true_eq, decide_eq_false_iff_not, Bool.not_eq_true', Bool.not_eq_false', beq_iff_eq, beq_eq_false_iff_ne] at hx)
    all_goals first
      | exact ⟨⟨rfl, by decide, b3⟩, ⟨by omega, by omega, by omega, by omega, by omega⟩, ⟨by omega, by omega, by omega, by omega, by omega⟩, ⟨rfl, rfl, trivial, b4⟩, fun f' => ⟨hk, ⟨rfl, rfl, rfl, rfl, trivial⟩, ⟨rfl⟩, ⟨rfl⟩, ⟨rfl, by omega⟩, ⟨.inr ⟨hp, hq (by omega)⟩⟩⟩⟩
      | exact ⟨⟨by omega, by omega, by omega, by omega, by omega⟩, ⟨by omega, by omega, by omega, by omega, by omega⟩, ⟨rfl, by decide, b3⟩, fun f' => ⟨hk, ⟨rfl, rfl, rfl, rfl, trivial⟩, ⟨rfl⟩, ⟨rfl⟩, ⟨rfl, by omega⟩, ⟨.inr ⟨hp, hw (by omega)⟩⟩⟩⟩
  · have hi := of_decide_eq_false hi
    exact ⟨⟨rfl, rfl, trivial⟩, ⟨rfl⟩, ⟨by rw [hct]; exact b5 hi⟩⟩
theorem r11b (M : Mk) (i : Int) (k c : Nat) (g : Nat → List Value) (hc : 0 < c) (h : Ax11 M k c i) :
    Does Tryz.prog (roundOf Tryz.f19 3) ⟨tm11 M (lv c) M.E i, V5 M 11 ++ [.raw 126 16 c 0 g []]⟩ fun e S' => reshape 5 (selL S') (ks11 e) [] [] S' (roundR 3 (J11 M) k (Kw11 M) e) := by
  refine Does.shut (fun _ S' => blkT 7 S') ?_
  refine of_code (ctxG_ok (l := []) (cs := []) (bs := []) .nil .nil) (n := 300) .g ?_
  refine by_nf (B := bsplit (decide ((↑M.L : Int) > (0 : Int))) ((M.b = (0 : Int) → False) ∧
    bsplit (decide (i ≤ IntKind.i64.wrap ((IntKind.i64.wrap (M.E - (1 : Int))).tdiv M.b)))
    (bsplit (decide (IntKind.i64.wrap (i * M.b) < M.a))
    (bsplit (decide (IntKind.i64.wrap (IntKind.i64.wrap (i * M.b) + M.b) > M.E))
    (bsplit (M.a == IntKind.i64.wrap (i * M.b))
    (bsplit (!M.E == IntKind.i64.wrap (IntKind.i64.wrap (i * M.b) + M.b)) (((1 : Nat) = (1 : Nat) ∧
    c = c ∧
    True ∧
    fitsN (c + (1 : Nat)) (176 : Nat)) ∧
    ((0 : Int) ≤ IntKind.i64.wrap (M.a - M.a) ∧
    IntKind.i64.wrap (M.a - M.a) ≤ IntKind.i64.wrap (M.E - M.a) ∧
    IntKind.i64.wrap (M.E - M.a) ≤ (↑M.L : Int) ∧
    (0 : Nat) + M.L ≤ M.N ∧
    (IntKind.i64.wrap (M.a - M.a) = (0 : Int) ∨ IntKind.i64.wrap (M.a - M.a) < (↑M.L : Int))) ∧
    ((0 : Int) ≤ IntKind.i64.wrap (M.a - M.a) ∧
    IntKind.i64.wrap (M.a - M.a) ≤ IntKind.i64.wrap (M.E - M.a) ∧
    IntKind.i64.wrap (M.E - M.a) ≤ (↑M.L : Int) ∧
    (0 : Nat) + M.L ≤ M.N ∧
    (IntKind.i64.wrap (M.a - M.a) = (0 : Int) ∨ IntKind.i64.wrap (M.a - M.a) < (↑M.L : Int))) ∧
    ((1 : Nat) = (1 : Nat) ∧
    c + (1 : Nat) = c + (1 : Nat) ∧
    True ∧
    fitsN (c + (1 : Nat) + (1 : Nat)) (176 : Nat)) ∧
    ∀ (f' : Nat → List Value), (k = (0 : Nat) → False) ∧
    (Value.int IntKind.i64 M.b = Value.int IntKind.i64 M.b ∧
    Value.slice (some { block := (5 : Nat), off := { block := (11 : Nat), off := (1 : Nat), spot := some (0 : Nat) : Addr }.off, spot := some (0 : Nat) : Addr }) (c + (1 : Nat) + (1 : Nat)) (0 : Nat) = Value.slice (some { block := (5 : Nat), off := { block := (11 : Nat), off := (1 : Nat), spot := some (0 : Nat) : Addr }.off, spot := some (0 : Nat) : Addr }) (c + (1 : Nat) + (1 : Nat)) (0 : Nat) ∧
    Value.int IntKind.i64 M.E = Value.int IntKind.i64 M.E ∧
    Value.int IntKind.i64 (IntKind.i64.wrap (i + (1 : Int))) = Value.int IntKind.i64 (IntKind.i64.wrap (i + (1 : Int))) ∧
    True) ∧
    Is (M.E = M.E) ∧
    VIs M (11 : Int) [VObj.arg (5 : TypeId) (1 : Nat) M.N M.f, VObj.cells (49 : TypeId) [Value.int IntKind.i64 (11 : Int), Value.string M.nm, Value.string M.ot, Value.int IntKind.i64 M.f1, Value.int IntKind.i64 M.f2, Value.int IntKind.i64 M.n1, Value.int IntKind.i64 M.n2, Value.int IntKind.i64 M.a, Value.int IntKind.i64 M.n, Value.slice (some { block := (0 : Nat), off := { block := (0 : Nat), off := (3 : Nat), spot := some (0 : Nat) : Addr }.off, spot := some (0 : Nat) : Addr }) M.L (0 : Nat)], VObj.cells (40 : TypeId) [Value.string M.e0, Value.int IntKind.i64 M.g1, Value.int IntKind.i64 M.g2, Value.int IntKind.i64 M.sz], VObj.cells (49 : TypeId) [Value.int IntKind.i64 (8 : Int), Value.string { data := #[] : ByteArray }, Value.string { data := #[] : ByteArray }, Value.int IntKind.i64 M.g1, Value.int IntKind.i64 M.g2, Value.int IntKind.i64 (0 : Int), Value.int IntKind.i64 (0 : Int), Value.int IntKind.i64 (0 : Int), Value.int IntKind.i64 (0 : Int), Value.slice none (0 : Nat) (0 : Nat)], VObj.cells (49 : TypeId) [Value.int IntKind.i64 (9 : Int), Value.string { data := #[] : ByteArray }, Value.string { data := #[] : ByteArray }, Value.int IntKind.i64 M.g1, Value.int IntKind.i64 M.g2, Value.int IntKind.i64 (0 : Int), Value.int IntKind.i64 (0 : Int), Value.int IntKind.i64 (0 : Int), Value.int IntKind.i64 (0 : Int), Value.slice none (0 : Nat) (0 : Nat)]] ∧
    Is (c + (1 : Nat) + (1 : Nat) = c + (1 : Nat) + (1 : Nat) ∧
    (0 : Nat) < c + (1 : Nat) + (1 : Nat)) ∧
    Ax11 M (k - (1 : Nat)) (c + (1 : Nat) + (1 : Nat)) (IntKind.i64.wrap (i + (1 : Int)))) (((0 : Int) ≤ IntKind.i64.wrap (M.a - M.a) ∧
    IntKind.i64.wrap (M.a - M.a) ≤ IntKind.i64.wrap (M.E - M.a) ∧
    IntKind.i64.wrap (M.E - M.a) ≤ (↑M.L : Int) ∧
    (0 : Nat) + M.L ≤ M.N ∧
    (IntKind.i64.wrap (M.a - M.a) = (0 : Int) ∨ IntKind.i64.wrap (M.a - M.a) < (↑M.L : Int))) ∧
    ((0 : Int) ≤ IntKind.i64.wrap (M.a - M.a) ∧
    IntKind.i64.wrap (M.a - M.a) ≤ IntKind.i64.wrap (M.E - M.a) ∧
    IntKind.i64.wrap (M.E - M.a) ≤ (↑M.L : Int) ∧
    (0 : Nat) + M.L ≤ M.N ∧
    (IntKind.i64.wrap (M.a - M.a) = (0 : Int) ∨ IntKind.i64.wrap (M.a - M.a) < (↑M.L : Int))) ∧
    ((1 : Nat) = (1 : Nat) ∧
    c = c ∧
    True ∧
    fitsN (c + (1 : Nat)) (176 : Nat)) ∧
    ∀ (f' : Nat → List Value), (k = (0 : Nat) → False) ∧
    (Value.int IntKind.i64 M.b = Value.int IntKind.i64 M.b ∧
    Value.slice (some { block := (5 : Nat), off := { block := (9 : Nat), off := (1 : Nat), spot := some (0 : Nat) : Addr }.off, spot := some (0 : Nat) : Addr }) (c + (1 : Nat)) (0 : Nat) = Value.slice (some { block := (5 : Nat), off := { block := (9 : Nat), off := (1 : Nat), spot := some (0 : Nat) : Addr }.off, spot := some (0 : Nat) : Addr }) (c + (1 : Nat)) (0 : Nat) ∧
    Value.int IntKind.i64 M.E = Value.int IntKind.i64 M.E ∧
    Value.int IntKind.i64 (IntKind.i64.wrap (i + (1 : Int))) = Value.int IntKind.i64 (IntKind.i64.wrap (i + (1 : Int))) ∧
    True) ∧
    Is (M.E = M.E) ∧
    VIs M (11 : Int) [VObj.arg (5 : TypeId) (1 : Nat) M.N M.f, VObj.cells (49 : TypeId) [Value.int IntKind.i64 (11 : Int), Value.string M.nm, Value.string M.ot, Value.int IntKind.i64 M.f1, Value.int IntKind.i64 M.f2, Value.int IntKind.i64 M.n1, Value.int IntKind.i64 M.n2, Value.int IntKind.i64 M.a, Value.int IntKind.i64 M.n, Value.slice (some { block := (0 : Nat), off := { block := (0 : Nat), off := (3 : Nat), spot := some (0 : Nat) : Addr }.off, spot := some (0 : Nat) : Addr }) M.L (0 : Nat)], VObj.cells (40 : TypeId) [Value.string M.e0, Value.int IntKind.i64 M.g1, Value.int IntKind.i64 M.g2, Value.int IntKind.i64 M.sz], VObj.cells (49 : TypeId) [Value.int IntKind.i64 (8 : Int), Value.string { data := #[] : ByteArray }, Value.string { data := #[] : ByteArray }, Value.int IntKind.i64 M.g1, Value.int IntKind.i64 M.g2, Value.int IntKind.i64 (0 : Int), Value.int IntKind.i64 (0 : Int), Value.int IntKind.i64 (0 : Int), Value.int IntKind.i64 (0 : Int), Value.slice none (0 : Nat) (0 : Nat)], VObj.cells (49 : TypeId) [Value.int IntKind.i64 (9 : Int), Value.string { data := #[] : ByteArray }, Value.string { data := #[] : ByteArray }, Value.int IntKind.i64 M.g1, Value.int IntKind.i64 M.g2, Value.int IntKind.i64 (0 : Int), Value.int IntKind.i64 (0 : Int), Value.int IntKind.i64 (0 : Int), Value.int IntKind.i64 (0 : Int), Value.slice none (0 : Nat) (0 : Nat)]] ∧
    Is (c + (1 : Nat) = c + (1 : Nat) ∧
    (0 : Nat) < c + (1 : Nat)) ∧
    Ax11 M (k - (1 : Nat)) (c + (1 : Nat)) (IntKind.i64.wrap (i + (1 : Int))))) (((1 : Nat) = (1 : Nat) ∧
    c = c ∧
    True ∧
    fitsN (c + (1 : Nat)) (176 : Nat)) ∧
    ((0 : Int) ≤ IntKind.i64.wrap (M.a - M.a) ∧
    IntKind.i64.wrap (M.a - M.a) ≤ IntKind.i64.wrap (M.E - M.a) ∧
    IntKind.i64.wrap (M.E - M.a) ≤ (↑M.L : Int) ∧
    (0 : Nat) + M.L ≤ M.N ∧
    (IntKind.i64.wrap (M.a - M.a) = (0 : Int) ∨ IntKind.i64.wrap (M.a - M.a) < (↑M.L : Int))) ∧
    ((0 : Int) ≤ IntKind.i64.wrap (M.a - M.a) ∧
    IntKind.i64.wrap (M.a - M.a) ≤ IntKind.i64.wrap (M.E - M.a) ∧
    IntKind.i64.wrap (M.E - M.a) ≤ (↑M.L : Int) ∧
    (0 : Nat) + M.L ≤ M.N ∧
    (IntKind.i64.wrap (M.a - M.a) = (0 : Int) ∨ IntKind.i64.wrap (M.a - M.a) < (↑M.L : Int))) ∧
    ((1 : Nat) = (1 : Nat) ∧
    c + (1 : Nat) = c + (1 : Nat) ∧
    True ∧
    fitsN (c + (1 : Nat) + (1 : Nat)) (176 : Nat)) ∧
    ∀ (f' : Nat → List Value), (k = (0 : Nat) → False) ∧
    (Value.int IntKind.i64 M.b = Value.int IntKind.i64 M.b ∧
    Value.slice (some { block := (5 : Nat), off := { block := (11 : Nat), off := (1 : Nat), spot := some (0 : Nat) : Addr }.off, spot := some (0 : Nat) : Addr }) (c + (1 : Nat) + (1 : Nat)) (0 : Nat) = Value.slice (some { block := (5 : Nat), off := { block := (11 : Nat), off := (1 : Nat), spot := some (0 : Nat) : Addr }.off, spot := some (0 : Nat) : Addr }) (c + (1 : Nat) + (1 : Nat)) (0 : Nat) ∧
    Value.int IntKind.i64 M.E = Value.int IntKind.i64 M.E ∧
    Value.int IntKind.i64 (IntKind.i64.wrap (i + (1 : Int))) = Value.int IntKind.i64 (IntKind.i64.wrap (i + (1 : Int))) ∧
    True) ∧
    Is (M.E = M.E) ∧
    VIs M (11 : Int) [VObj.arg (5 : TypeId) (1 : Nat) M.N M.f, VObj.cells (49 : TypeId) [Value.int IntKind.i64 (11 : Int), Value.string M.nm, Value.string M.ot, Value.int IntKind.i64 M.f1, Value.int IntKind.i64 M.f2, Value.int IntKind.i64 M.n1, Value.int IntKind.i64 M.n2, Value.int IntKind.i64 M.a, Value.int IntKind.i64 M.n, Value.slice (some { block := (0 : Nat), off := { block := (0 : Nat), off := (3 : Nat), spot := some (0 : Nat) : Addr }.off, spot := some (0 : Nat) : Addr }) M.L (0 : Nat)], VObj.cells (40 : TypeId) [Value.string M.e0, Value.int IntKind.i64 M.g1, Value.int IntKind.i64 M.g2, Value.int IntKind.i64 M.sz], VObj.cells (49 : TypeId) [Value.int IntKind.i64 (8 : Int), Value.string { data := #[] : ByteArray }, Value.string { data := #[] : ByteArray }, Value.int IntKind.i64 M.g1, Value.int IntKind.i64 M.g2, Value.int IntKind.i64 (0 : Int), Value.int IntKind.i64 (0 : Int), Value.int IntKind.i64 (0 : Int), Value.int IntKind.i64 (0 : Int), Value.slice none (0 : Nat) (0 : Nat)], VObj.cells (49 : TypeId) [Value.int IntKind.i64 (9 : Int), Value.string { data := #[] : ByteArray }, Value.string { data := #[] : ByteArray }, Value.int IntKind.i64 M.g1, Value.int IntKind.i64 M.g2, Value.int IntKind.i64 (0 : Int), Value.int IntKind.i64 (0 : Int), Value.int IntKind.i64 (0 : Int), Value.int IntKind.i64 (0 : Int), Value.slice none (0 : Nat) (0 : Nat)]] ∧
    Is (c + (1 : Nat) + (1 : Nat) = c + (1 : Nat) + (1 : Nat) ∧
    (0 : Nat) < c + (1 : Nat) + (1 : Nat)) ∧
    Ax11 M (k - (1 : Nat)) (c + (1 : Nat) + (1 : Nat)) (IntKind.i64.wrap (i + (1 : Int)))))
    (bsplit (M.a == IntKind.i64.wrap (i * M.b))
    (bsplit (!IntKind.i64.wrap (IntKind.i64.wrap (i * M.b) + M.b) == IntKind.i64.wrap (IntKind.i64.wrap (i * M.b) + M.b)) (((1 : Nat) = (1 : Nat) ∧
    c = c ∧
    True ∧
    fitsN (c + (1 : Nat)) (176 : Nat)) ∧
    ((0 : Int) ≤ IntKind.i64.wrap (M.a - M.a) ∧
    IntKind.i64.wrap (M.a - M.a) ≤ IntKind.i64.wrap (IntKind.i64.wrap (IntKind.i64.wrap (i * M.b) + M.b) - M.a) ∧
    IntKind.i64.wrap (IntKind.i64.wrap (IntKind.i64.wrap (i * M.b) + M.b) - M.a) ≤ (↑M.L : Int) ∧
    (0 : Nat) + M.L ≤ M.N ∧
    (IntKind.i64.wrap (M.a - M.a) = (0 : Int) ∨ IntKind.i64.wrap (M.a - M.a) < (↑M.L : Int))) ∧
    ((0 : Int) ≤ IntKind.i64.wrap (M.a - M.a) ∧
    IntKind.i64.wrap (M.a - M.a) ≤ IntKind.i64.wrap (IntKind.i64.wrap (IntKind.i64.wrap (i * M.b) + M.b) - M.a) ∧
    IntKind.i64.wrap (IntKind.i64.wrap (IntKind.i64.wrap (i * M.b) + M.b) - M.a) ≤ (↑M.L : Int) ∧
    (0 : Nat) + M.L ≤ M.N ∧
    (IntKind.i64.wrap (M.a - M.a) = (0 : Int) ∨ IntKind.i64.wrap (M.a - M.a) < (↑M.L : Int))) ∧
    ((1 : Nat) = (1 : Nat) ∧
    c + (1 : Nat) = c + (1 : Nat) ∧
    True ∧
    fitsN (c + (1 : Nat) + (1 : Nat)) (176 : Nat)) ∧
    ∀ (f' : Nat → List Value), (k = (0 : Nat) → False) ∧
    (Value.int IntKind.i64 M.b = Value.int IntKind.i64 M.b ∧
    Value.slice (some { block := (5 : Nat), off := { block := (11 : Nat), off := (1 : Nat), spot := some (0 : Nat) : Addr }.off, spot := some (0 : Nat) : Addr }) (c + (1 : Nat) + (1 : Nat)) (0 : Nat) = Value.slice (some { block := (5 : Nat), off := { block := (11 : Nat), off := (1 : Nat), spot := some (0 : Nat) : Addr }.off, spot := some (0 : Nat) : Addr }) (c + (1 : Nat) + (1 : Nat)) (0 : Nat) ∧
    Value.int IntKind.i64 M.E = Value.int IntKind.i64 M.E ∧
    Value.int IntKind.i64 (IntKind.i64.wrap (i + (1 : Int))) = Value.int IntKind.i64 (IntKind.i64.wrap (i + (1 : Int))) ∧
    True) ∧
    Is (M.E = M.E) ∧
    VIs M (11 : Int) [VObj.arg (5 : TypeId) (1 : Nat) M.N M.f, VObj.cells (49 : TypeId) [Value.int IntKind.i64 (11 : Int), Value.string M.nm, Value.string M.ot, Value.int IntKind.i64 M.f1, Value.int IntKind.i64 M.f2, Value.int IntKind.i64 M.n1, Value.int IntKind.i64 M.n2, Value.int IntKind.i64 M.a, Value.int IntKind.i64 M.n, Value.slice (some { block := (0 : Nat), off := { block := (0 : Nat), off := (3 : Nat), spot := some (0 : Nat) : Addr }.off, spot := some (0 : Nat) : Addr }) M.L (0 : Nat)], VObj.cells (40 : TypeId) [Value.string M.e0, Value.int IntKind.i64 M.g1, Value.int IntKind.i64 M.g2, Value.int IntKind.i64 M.sz], VObj.cells (49 : TypeId) [Value.int IntKind.i64 (8 : Int), Value.string { data := #[] : ByteArray }, Value.string { data := #[] : ByteArray }, Value.int IntKind.i64 M.g1, Value.int IntKind.i64 M.g2, Value.int IntKind.i64 (0 : Int), Value.int IntKind.i64 (0 : Int), Value.int IntKind.i64 (0 : Int), Value.int IntKind.i64 (0 : Int), Value.slice none (0 : Nat) (0 : Nat)], VObj.cells (49 : TypeId) [Value.int IntKind.i64 (9 : Int), Value.string { data := #[] : ByteArray }, Value.string { data := #[] : ByteArray }, Value.int IntKind.i64 M.g1, Value.int IntKind.i64 M.g2, Value.int IntKind.i64 (0 : Int), Value.int IntKind.i64 (0 : Int), Value.int IntKind.i64 (0 : Int), Value.int IntKind.i64 (0 : Int), Value.slice none (0 : Nat) (0 : Nat)]] ∧
    Is (c + (1 : Nat) + (1 : Nat) = c + (1 : Nat) + (1 : Nat) ∧
    (0 : Nat) < c + (1 : Nat) + (1 : Nat)) ∧
    Ax11 M (k - (1 : Nat)) (c + (1 : Nat) + (1 : Nat)) (IntKind.i64.wrap (i + (1 : Int)))) (((0 : Int) ≤ IntKind.i64.wrap (M.a - M.a) ∧
    IntKind.i64.wrap (M.a - M.a) ≤ IntKind.i64.wrap (IntKind.i64.wrap (IntKind.i64.wrap (i * M.b) + M.b) - M.a) ∧
    IntKind.i64.wrap (IntKind.i64.wrap (IntKind.i64.wrap (i * M.b) + M.b) - M.a) ≤ (↑M.L : Int) ∧
    (0 : Nat) + M.L ≤ M.N ∧
    (IntKind.i64.wrap (M.a - M.a) = (0 : Int) ∨ IntKind.i64.wrap (M.a - M.a) < (↑M.L : Int))) ∧
    ((0 : Int) ≤ IntKind.i64.wrap (M.a - M.a) ∧
    IntKind.i64.wrap (M.a - M.a) ≤ IntKind.i64.wrap (IntKind.i64.wrap (IntKind.i64.wrap (i * M.b) + M.b) - M.a) ∧
    IntKind.i64.wrap (IntKind.i64.wrap (IntKind.i64.wrap (i * M.b) + M.b) - M.a) ≤ (↑M.L : Int) ∧
    (0 : Nat) + M.L ≤ M.N ∧
    (IntKind.i64.wrap (M.a - M.a) = (0 : Int) ∨ IntKind.i64.wrap (M.a - M.a) < (↑M.L : Int))) ∧
    ((1 : Nat) = (1 : Nat) ∧
    c = c ∧
    True ∧
    fitsN (c + (1 : Nat)) (176 : Nat)) ∧
    ∀ (f' : Nat → List Value), (k = (0 : Nat) → False) ∧
    (Value.int IntKind.i64 M.b = Value.int IntKind.i64 M.b ∧
    Value.slice (some { block := (5 : Nat), off := { block := (9 : Nat), off := (1 : Nat), spot := some (0 : Nat) : Addr }.off, spot := some (0 : Nat) : Addr }) (c + (1 : Nat)) (0 : Nat) = Value.slice (some { block := (5 : Nat), off := { block := (9 : Nat), off := (1 : Nat), spot := some (0 : Nat) : Addr }.off, spot := some (0 : Nat) : Addr }) (c + (1 : Nat)) (0 : Nat) ∧
    Value.int IntKind.i64 M.E = Value.int IntKind.i64 M.E ∧
    Value.int IntKind.i64 (IntKind.i64.wrap (i + (1 : Int))) = Value.int IntKind.i64 (IntKind.i64.wrap (i + (1 : Int))) ∧
    True) ∧
    Is (M.E = M.E) ∧
    VIs M (11 : Int) [VObj.arg (5 : TypeId) (1 : Nat) M.N M.f, VObj.cells (49 : TypeId) [Value.int IntKind.i64 (11 : Int), Value.string M.nm, Value.string M.ot, Value.int IntKind.i64 M.f1, Value.int IntKind.i64 M.f2, Value.int IntKind.i64 M.n1, Value.int IntKind.i64 M.n2, Value.int IntKind.i64 M.a, Value.int IntKind.i64 M.n, Value.slice (some { block := (0 : Nat), off := { block := (0 : Nat), off := (3 : Nat), spot := some (0 : Nat) : Addr }.off, spot := some (0 : Nat) : Addr }) M.L (0 : Nat)], VObj.cells (40 : TypeId) [Value.string M.e0, Value.int IntKind.i64 M.g1, Value.int IntKind.i64 M.g2, Value.int IntKind.i64 M.sz], VObj.cells (49 : TypeId) [Value.int IntKind.i64 (8 : Int), Value.string { data := #[] : ByteArray }, Value.string { data := #[] : ByteArray }, Value.int IntKind.i64 M.g1, Value.int IntKind.i64 M.g2, Value.int IntKind.i64 (0 : Int), Value.int IntKind.i64 (0 : Int), Value.int IntKind.i64 (0 : Int), Value.int IntKind.i64 (0 : Int), Value.slice none (0 : Nat) (0 : Nat)], VObj.cells (49 : TypeId) [Value.int IntKind.i64 (9 : Int), Value.string { data := #[] : ByteArray }, Value.string { data := #[] : ByteArray }, Value.int IntKind.i64 M.g1, Value.int IntKind.i64 M.g2, Value.int IntKind.i64 (0 : Int), Value.int IntKind.i64 (0 : Int), Value.int IntKind.i64 (0 : Int), Value.int IntKind.i64 (0 : Int), Value.slice none (0 : Nat) (0 : Nat)]] ∧
    Is (c + (1 : Nat) = c + (1 : Nat) ∧
    (0 : Nat) < c + (1 : Nat)) ∧
    Ax11 M (k - (1 : Nat)) (c + (1 : Nat)) (IntKind.i64.wrap (i + (1 : Int))))) (((1 : Nat) = (1 : Nat) ∧
    c = c ∧
    True ∧
    fitsN (c + (1 : Nat)) (176 : Nat)) ∧
    ((0 : Int) ≤ IntKind.i64.wrap (M.a - M.a) ∧
    IntKind.i64.wrap (M.a - M.a) ≤ IntKind.i64.wrap (IntKind.i64.wrap (IntKind.i64.wrap (i * M.b) + M.b) - M.a) ∧
    IntKind.i64.wrap (IntKind.i64.wrap (IntKind.i64.wrap (i * M.b) + M.b) - M.a) ≤ (↑M.L : Int) ∧
    (0 : Nat) + M.L ≤ M.N ∧
    (IntKind.i64.wrap (M.a - M.a) = (0 : Int) ∨ IntKind.i64.wrap (M.a - M.a) < (↑M.L : Int))) ∧
    ((0 : Int) ≤ IntKind.i64.wrap (M.a - M.a) ∧
    IntKind.i64.wrap (M.a - M.a) ≤ IntKind.i64.wrap (IntKind.i64.wrap (IntKind.i64.wrap (i * M.b) + M.b) - M.a) ∧
    IntKind.i64.wrap (IntKind.i64.wrap (IntKind.i64.wrap (i * M.b) + M.b) - M.a) ≤ (↑M.L : Int) ∧
    (0 : Nat) + M.L ≤ M.N ∧
    (IntKind.i64.wrap (M.a - M.a) = (0 : Int) ∨ IntKind.i64.wrap (M.a - M.a) < (↑M.L : Int))) ∧
    ((1 : Nat) = (1 : Nat) ∧
    c + (1 : Nat) = c + (1 : Nat) ∧
    True ∧
    fitsN (c + (1 : Nat) + (1 : Nat)) (176 : Nat)) ∧
    ∀ (f' : Nat → List Value), (k = (0 : Nat) → False) ∧
    (Value.int IntKind.i64 M.b = Value.int IntKind.i64 M.b ∧
    Value.slice (some { block := (5 : Nat), off := { block := (11 : Nat), off := (1 : Nat), spot := some (0 : Nat) : Addr }.off, spot := some (0 : Nat) : Addr }) (c + (1 : Nat) + (1 : Nat)) (0 : Nat) = Value.slice (some { block := (5 : Nat), off := { block := (11 : Nat), off := (1 : Nat), spot := some (0 : Nat) : Addr }.off, spot := some (0 : Nat) : Addr }) (c + (1 : Nat) + (1 : Nat)) (0 : Nat) ∧
    Value.int IntKind.i64 M.E = Value.int IntKind.i64 M.E ∧
    Value.int IntKind.i64 (IntKind.i64.wrap (i + (1 : Int))) = Value.int IntKind.i64 (IntKind.i64.wrap (i + (1 : Int))) ∧
    True) ∧
    Is (M.E = M.E) ∧
    VIs M (11 : Int) [VObj.arg (5 : TypeId) (1 : Nat) M.N M.f, VObj.cells (49 : TypeId) [Value.int IntKind.i64 (11 : Int), Value.string M.nm, Value.string M.ot, Value.int IntKind.i64 M.f1, Value.int IntKind.i64 M.f2, Value.int IntKind.i64 M.n1, Value.int IntKind.i64 M.n2, Value.int IntKind.i64 M.a, Value.int IntKind.i64 M.n, Value.slice (some { block := (0 : Nat), off := { block := (0 : Nat), off := (3 : Nat), spot := some (0 : Nat) : Addr }.off, spot := some (0 : Nat) : Addr }) M.L (0 : Nat)], VObj.cells (40 : TypeId) [Value.string M.e0, Value.int IntKind.i64 M.g1, Value.int IntKind.i64 M.g2, Value.int IntKind.i64 M.sz], VObj.cells (49 : TypeId) [Value.int IntKind.i64 (8 : Int), Value.string { data := #[] : ByteArray }, Value.string { data := #[] : ByteArray }, Value.int IntKind.i64 M.g1, Value.int IntKind.i64 M.g2, Value.int IntKind.i64 (0 : Int), Value.int IntKind.i64 (0 : Int), Value.int IntKind.i64 (0 : Int), Value.int IntKind.i64 (0 : Int), Value.slice none (0 : Nat) (0 : Nat)], VObj.cells (49 : TypeId) [Value.int IntKind.i64 (9 : Int), Value.string { data := #[] : ByteArray }, Value.string { data := #[] : ByteArray }, Value.int IntKind.i64 M.g1, Value.int IntKind.i64 M.g2, Value.int IntKind.i64 (0 : Int), Value.int IntKind.i64 (0 : Int), Value.int IntKind.i64 (0 : Int), Value.int IntKind.i64 (0 : Int), Value.slice none (0 : Nat) (0 : Nat)]] ∧
    Is (c + (1 : Nat) + (1 : Nat) = c + (1 : Nat) + (1 : Nat) ∧
    (0 : Nat) < c + (1 : Nat) + (1 : Nat)) ∧
    Ax11 M (k - (1 : Nat)) (c + (1 : Nat) + (1 : Nat)) (IntKind.i64.wrap (i + (1 : Int))))))
    (bsplit (decide (IntKind.i64.wrap (IntKind.i64.wrap (i * M.b) + M.b) > M.E))
    (bsplit (IntKind.i64.wrap (i * M.b) == IntKind.i64.wrap (i * M.b))
    (bsplit (!M.E == IntKind.i64.wrap (IntKind.i64.wrap (i * M.b) + M.b)) (((1 : Nat) = (1 : Nat) ∧
    c = c ∧
    True ∧
    fitsN (c + (1 : Nat)) (176 : Nat)) ∧
    ((0 : Int) ≤ IntKind.i64.wrap (IntKind.i64.wrap (i * M.b) - M.a) ∧
    IntKind.i64.wrap (IntKind.i64.wrap (i * M.b) - M.a) ≤ IntKind.i64.wrap (M.E - M.a) ∧
    IntKind.i64.wrap (M.E - M.a) ≤ (↑M.L : Int) ∧
    (0 : Nat) + M.L ≤ M.N ∧
    (IntKind.i64.wrap (IntKind.i64.wrap (i * M.b) - M.a) = (0 : Int) ∨ IntKind.i64.wrap (IntKind.i64.wrap (i * M.b) - M.a) < (↑M.L : Int))) ∧
    ((0 : Int) ≤ IntKind.i64.wrap (IntKind.i64.wrap (i * M.b) - M.a) ∧
    IntKind.i64.wrap (IntKind.i64.wrap (i * M.b) - M.a) ≤ IntKind.i64.wrap (M.E - M.a) ∧
    IntKind.i64.wrap (M.E - M.a) ≤ (↑M.L : Int) ∧
    (0 : Nat) + M.L ≤ M.N ∧
    (IntKind.i64.wrap (IntKind.i64.wrap (i * M.b) - M.a) = (0 : Int) ∨ IntKind.i64.wrap (IntKind.i64.wrap (i * M.b) - M.a) < (↑M.L : Int))) ∧
    ((1 : Nat) = (1 : Nat) ∧
    c + (1 : Nat) = c + (1 : Nat) ∧
    True ∧
    fitsN (c + (1 : Nat) + (1 : Nat)) (176 : Nat)) ∧
    ∀ (f' : Nat → List Value), (k = (0 : Nat) → False) ∧
    (Value.int IntKind.i64 M.b = Value.int IntKind.i64 M.b ∧
    Value.slice (some { block := (5 : Nat), off := { block := (11 : Nat), off := (1 : Nat), spot := some (0 : Nat) : Addr }.off, spot := some (0 : Nat) : Addr }) (c + (1 : Nat) + (1 : Nat)) (0 : Nat) = Value.slice (some { block := (5 : Nat), off := { block := (11 : Nat), off := (1 : Nat), spot := some (0 : Nat) : Addr }.off, spot := some (0 : Nat) : Addr }) (c + (1 : Nat) + (1 : Nat)) (0 : Nat) ∧
    Value.int IntKind.i64 M.E = Value.int IntKind.i64 M.E ∧
    Value.int IntKind.i64 (IntKind.i64.wrap (i + (1 : Int))) = Value.int IntKind.i64 (IntKind.i64.wrap (i + (1 : Int))) ∧
    True) ∧
    Is (M.E = M.E) ∧
    VIs M (11 : Int) [VObj.arg (5 : TypeId) (1 : Nat) M.N M.f, VObj.cells (49 : TypeId) [Value.int IntKind.i64 (11 : Int), Value.string M.nm, Value.string M.ot, Value.int IntKind.i64 M.f1, Value.int IntKind.i64 M.f2, Value.int IntKind.i64 M.n1, Value.int IntKind.i64 M.n2, Value.int IntKind.i64 M.a, Value.int IntKind.i64 M.n, Value.slice (some { block := (0 : Nat), off := { block := (0 : Nat), off := (3 : Nat), spot := some (0 : Nat) : Addr }.off, spot := some (0 : Nat) : Addr }) M.L (0 : Nat)], VObj.cells (40 : TypeId) [Value.string M.e0, Value.int IntKind.i64 M.g1, Value.int IntKind.i64 M.g2, Value.int IntKind.i64 M.sz], VObj.cells (49 : TypeId) [Value.int IntKind.i64 (8 : Int), Value.string { data := #[] : ByteArray }, Value.string { data := #[] : ByteArray }, Value.int IntKind.i64 M.g1, Value.int IntKind.i64 M.g2, Value.int IntKind.i64 (0 : Int), Value.int IntKind.i64 (0 : Int), Value.int IntKind.i64 (0 : Int), Value.int IntKind.i64 (0 : Int), Value.slice none (0 : Nat) (0 : Nat)], VObj.cells (49 : TypeId) [Value.int IntKind.i64 (9 : Int), Value.string { data := #[] : ByteArray }, Value.string { data := #[] : ByteArray }, Value.int IntKind.i64 M.g1, Value.int IntKind.i64 M.g2, Value.int IntKind.i64 (0 : Int), Value.int IntKind.i64 (0 : Int), Value.int IntKind.i64 (0 : Int), Value.int IntKind.i64 (0 : Int), Value.slice none (0 : Nat) (0 : Nat)]] ∧
    Is (c + (1 : Nat) + (1 : Nat) = c + (1 : Nat) + (1 : Nat) ∧
    (0 : Nat) < c + (1 : Nat) + (1 : Nat)) ∧
    Ax11 M (k - (1 : Nat)) (c + (1 : Nat) + (1 : Nat)) (IntKind.i64.wrap (i + (1 : Int)))) (((0 : Int) ≤ IntKind.i64.wrap (IntKind.i64.wrap (i * M.b) - M.a) ∧
    IntKind.i64.wrap (IntKind.i64.wrap (i * M.b) - M.a) ≤ IntKind.i64.wrap (M.E - M.a) ∧
    IntKind.i64.wrap (M.E - M.a) ≤ (↑M.L : Int) ∧
    (0 : Nat) + M.L ≤ M.N ∧
    (IntKind.i64.wrap (IntKind.i64.wrap (i * M.b) - M.a) = (0 : Int) ∨ IntKind.i64.wrap (IntKind.i64.wrap (i * M.b) - M.a) < (↑M.L : Int))) ∧
    ((0 : Int) ≤ IntKind.i64.wrap (IntKind.i64.wrap (i * M.b) - M.a) ∧
    IntKind.i64.wrap (IntKind.i64.wrap (i * M.b) - M.a) ≤ IntKind.i64.wrap (M.E - M.a) ∧
    IntKind.i64.wrap (M.E - M.a) ≤ (↑M.L : Int) ∧
    (0 : Nat) + M.L ≤ M.N ∧
    (IntKind.i64.wrap (IntKind.i64.wrap (i * M.b) - M.a) = (0 : Int) ∨ IntKind.i64.wrap (IntKind.i64.wrap (i * M.b) - M.a) < (↑M.L : Int))) ∧
    ((1 : Nat) = (1 : Nat) ∧
    c = c ∧
    True ∧
    fitsN (c + (1 : Nat)) (176 : Nat)) ∧
    ∀ (f' : Nat → List Value), (k = (0 : Nat) → False) ∧
    (Value.int IntKind.i64 M.b = Value.int IntKind.i64 M.b ∧
    Value.slice (some { block := (5 : Nat), off := { block := (9 : Nat), off := (1 : Nat), spot := some (0 : Nat) : Addr }.off, spot := some (0 : Nat) : Addr }) (c + (1 : Nat)) (0 : Nat) = Value.slice (some { block := (5 : Nat), off := { block := (9 : Nat), off := (1 : Nat), spot := some (0 : Nat) : Addr }.off, spot := some (0 : Nat) : Addr }) (c + (1 : Nat)) (0 : Nat) ∧
    Value.int IntKind.i64 M.E = Value.int IntKind.i64 M.E ∧
    Value.int IntKind.i64 (IntKind.i64.wrap (i + (1 : Int))) = Value.int IntKind.i64 (IntKind.i64.wrap (i + (1 : Int))) ∧
    True) ∧
    Is (M.E = M.E) ∧
    VIs M (11 : Int) [VObj.arg (5 : TypeId) (1 : Nat) M.N M.f, VObj.cells (49 : TypeId) [Value.int IntKind.i64 (11 : Int), Value.string M.nm, Value.string M.ot, Value.int IntKind.i64 M.f1, Value.int IntKind.i64 M.f2, Value.int IntKind.i64 M.n1, Value.int IntKind.i64 M.n2, Value.int IntKind.i64 M.a, Value.int IntKind.i64 M.n, Value.slice (some { block := (0 : Nat), off := { block := (0 : Nat), off := (3 : Nat), spot := some (0 : Nat) : Addr }.off, spot := some (0 : Nat) : Addr }) M.L (0 : Nat)], VObj.cells (40 : TypeId) [Value.string M.e0, Value.int IntKind.i64 M.g1, Value.int IntKind.i64 M.g2, Value.int IntKind.i64 M.sz], VObj.cells (49 : TypeId) [Value.int IntKind.i64 (8 : Int), Value.string { data := #[] : ByteArray }, Value.string { data := #[] : ByteArray }, Value.int IntKind.i64 M.g1, Value.int IntKind.i64 M.g2, Value.int IntKind.i64 (0 : Int), Value.int IntKind.i64 (0 : Int), Value.int IntKind.i64 (0 : Int), Value.int IntKind.i64 (0 : Int), Value.slice none (0 : Nat) (0 : Nat)], VObj.cells (49 : TypeId) [Value.int IntKind.i64 (9 : Int), Value.string { data := #[] : ByteArray }, Value.string { data := #[] : ByteArray }, Value.int IntKind.i64 M.g1, Value.int IntKind.i64 M.g2, Value.int IntKind.i64 (0 : Int), Value.int IntKind.i64 (0 : Int), Value.int IntKind.i64 (0 : Int), Value.int IntKind.i64 (0 : Int), Value.slice none (0 : Nat) (0 : Nat)]] ∧
    Is (c + (1 : Nat) = c + (1 : Nat) ∧
    (0 : Nat) < c + (1 : Nat)) ∧
    Ax11 M (k - (1 : Nat)) (c + (1 : Nat)) (IntKind.i64.wrap (i + (1 : Int))))) (((1 : Nat) = (1 : Nat) ∧
    c = c ∧
    True ∧
    fitsN (c + (1 : Nat)) (176 : Nat)) ∧
    ((0 : Int) ≤ IntKind.i64.wrap (IntKind.i64.wrap (i * M.b) - M.a) ∧
    IntKind.i64.wrap (IntKind.i64.wrap (i * M.b) - M.a) ≤ IntKind.i64.wrap (M.E - M.a) ∧
    IntKind.i64.wrap (M.E - M.a) ≤ (↑M.L : Int) ∧
    (0 : Nat) + M.L ≤ M.N ∧
    (IntKind.i64.wrap (IntKind.i64.wrap (i * M.b) - M.a) = (0 : Int) ∨ IntKind.i64.wrap (IntKind.i64.wrap (i * M.b) - M.a) < (↑M.L : Int))) ∧
    ((0 : Int) ≤ IntKind.i64.wrap (IntKind.i64.wrap (i * M.b) - M.a) ∧
    IntKind.i64.wrap (IntKind.i64.wrap (i * M.b) - M.a) ≤ IntKind.i64.wrap (M.E - M.a) ∧
    IntKind.i64.wrap (M.E - M.a) ≤ (↑M.L : Int) ∧
    (0 : Nat) + M.L ≤ M.N ∧
    (IntKind.i64.wrap (IntKind.i64.wrap (i * M.b) - M.a) = (0 : Int) ∨ IntKind.i64.wrap (IntKind.i64.wrap (i * M.b) - M.a) < (↑M.L : Int))) ∧
    ((1 : Nat) = (1 : Nat) ∧
    c + (1 : Nat) = c + (1 : Nat) ∧
    True ∧
    fitsN (c + (1 : Nat) + (1 : Nat)) (176 : Nat)) ∧
    ∀ (f' : Nat → List Value), (k = (0 : Nat) → False) ∧
    (Value.int IntKind.i64 M.b = Value.int IntKind.i64 M.b ∧
    Value.slice (some { block := (5 : Nat), off := { block := (11 : Nat), off := (1 : Nat), spot := some (0 : Nat) : Addr }.off, spot := some (0 : Nat) : Addr }) (c + (1 : Nat) + (1 : Nat)) (0 : Nat) = Value.slice (some { block := (5 : Nat), off := { block := (11 : Nat), off := (1 : Nat), spot := some (0 : Nat) : Addr }.off, spot := some (0 : Nat) : Addr }) (c + (1 : Nat) + (1 : Nat)) (0 : Nat) ∧
    Value.int IntKind.i64 M.E = Value.int IntKind.i64 M.E ∧
    Value.int IntKind.i64 (IntKind.i64.wrap (i + (1 : Int))) = Value.int IntKind.i64 (IntKind.i64.wrap (i + (1 : Int))) ∧
    True) ∧
    Is (M.E = M.E) ∧
    VIs M (11 : Int) [VObj.arg (5 : TypeId) (1 : Nat) M.N M.f, VObj.cells (49 : TypeId) [Value.int IntKind.i64 (11 : Int), Value.string M.nm, Value.string M.ot, Value.int IntKind.i64 M.f1, Value.int IntKind.i64 M.f2, Value.int IntKind.i64 M.n1, Value.int IntKind.i64 M.n2, Value.int IntKind.i64 M.a, Value.int IntKind.i64 M.n, Value.slice (some { block := (0 : Nat), off := { block := (0 : Nat), off := (3 : Nat), spot := some (0 : Nat) : Addr }.off, spot := some (0 : Nat) : Addr }) M.L (0 : Nat)], VObj.cells (40 : TypeId) [Value.string M.e0, Value.int IntKind.i64 M.g1, Value.int IntKind.i64 M.g2, Value.int IntKind.i64 M.sz], VObj.cells (49 : TypeId) [Value.int IntKind.i64 (8 : Int), Value.string { data := #[] : ByteArray }, Value.string { data := #[] : ByteArray }, Value.int IntKind.i64 M.g1, Value.int IntKind.i64 M.g2, Value.int IntKind.i64 (0 : Int), Value.int IntKind.i64 (0 : Int), Value.int IntKind.i64 (0 : Int), Value.int IntKind.i64 (0 : Int), Value.slice none (0 : Nat) (0 : Nat)], VObj.cells (49 : TypeId) [Value.int IntKind.i64 (9 : Int), Value.string { data := #[] : ByteArray }, Value.string { data := #[] : ByteArray }, Value.int IntKind.i64 M.g1, Value.int IntKind.i64 M.g2, Value.int IntKind.i64 (0 : Int), Value.int IntKind.i64 (0 : Int), Value.int IntKind.i64 (0 : Int), Value.int IntKind.i64 (0 : Int), Value.slice none (0 : Nat) (0 : Nat)]] ∧
    Is (c + (1 : Nat) + (1 : Nat) = c + (1 : Nat) + (1 : Nat) ∧
    (0 : Nat) < c + (1 : Nat) + (1 : Nat)) ∧
    Ax11 M (k - (1 : Nat)) (c + (1 : Nat) + (1 : Nat)) (IntKind.i64.wrap (i + (1 : Int)))))
    (bsplit (IntKind.i64.wrap (i * M.b) == IntKind.i64.wrap (i * M.b))
    (bsplit (!IntKind.i64.wrap (IntKind.i64.wrap (i * M.b) + M.b) == IntKind.i64.wrap (IntKind.i64.wrap (i * M.b) + M.b)) (((1 : Nat) = (1 : Nat) ∧
    c = c ∧
    True ∧
    fitsN (c + (1 : Nat)) (176 : Nat)) ∧
    ((0 : Int) ≤ IntKind.i64.wrap (IntKind.i64.wrap (i * M.b) - M.a) ∧
    IntKind.i64.wrap (IntKind.i64.wrap (i * M.b) - M.a) ≤ IntKind.i64.wrap (IntKind.i64.wrap (IntKind.i64.wrap (i * M.b) + M.b) - M.a) ∧
    IntKind.i64.wrap (IntKind.i64.wrap (IntKind.i64.wrap (i * M.b) + M.b) - M.a) ≤ (↑M.L : Int) ∧
    (0 : Nat) + M.L ≤ M.N ∧
    (IntKind.i64.wrap (IntKind.i64.wrap (i * M.b) - M.a) = (0 : Int) ∨ IntKind.i64.wrap (IntKind.i64.wrap (i * M.b) - M.a) < (↑M.L : Int))) ∧
    ((0 : Int) ≤ IntKind.i64.wrap (IntKind.i64.wrap (i * M.b) - M.a) ∧
    IntKind.i64.wrap (IntKind.i64.wrap (i * M.b) - M.a) ≤ IntKind.i64.wrap (IntKind.i64.wrap (IntKind.i64.wrap (i * M.b) + M.b) - M.a) ∧
    IntKind.i64.wrap (IntKind.i64.wrap (IntKind.i64.wrap (i * M.b) + M.b) - M.a) ≤ (↑M.L : Int) ∧
    (0 : Nat) + M.L ≤ M.N ∧
    (IntKind.i64.wrap (IntKind.i64.wrap (i * M.b) - M.a) = (0 : Int) ∨ IntKind.i64.wrap (IntKind.i64.wrap (i * M.b) - M.a) < (↑M.L : Int))) ∧
    ((1 : Nat) = (1 : Nat) ∧
    c + (1 : Nat) = c + (1 : Nat) ∧
    True ∧
    fitsN (c + (1 : Nat) + (1 : Nat)) (176 : Nat)) ∧
    ∀ (f' : Nat → List Value), (k = (0 : Nat) → False) ∧
    (Value.int IntKind.i64 M.b = Value.int IntKind.i64 M.b ∧
    Value.slice (some { block := (5 : Nat), off := { block := (11 : Nat), off := (1 : Nat), spot := some (0 : Nat) : Addr }.off, spot := some (0 : Nat) : Addr }) (c + (1 : Nat) + (1 : Nat)) (0 : Nat) = Value.slice (some { block := (5 : Nat), off := { block := (11 : Nat), off := (1 : Nat), spot := some (0 : Nat) : Addr }.off, spot := some (0 : Nat) : Addr }) (c + (1 : Nat) + (1 : Nat)) (0 : Nat) ∧
    Value.int IntKind.i64 M.E = Value.int IntKind.i64 M.E ∧
    Value.int IntKind.i64 (IntKind.i64.wrap (i + (1 : Int))) = Value.int IntKind.i64 (IntKind.i64.wrap (i + (1 : Int))) ∧
    True) ∧
    Is (M.E = M.E) ∧
    VIs M (11 : Int) [VObj.arg (5 : TypeId) (1 : Nat) M.N M.f, VObj.cells (49 : TypeId) [Value.int IntKind.i64 (11 : Int), Value.string M.nm, Value.string M.ot, Value.int IntKind.i64 M.f1, Value.int IntKind.i64 M.f2, Value.int IntKind.i64 M.n1, Value.int IntKind.i64 M.n2, Value.int IntKind.i64 M.a, Value.int IntKind.i64 M.n, Value.slice (some { block := (0 : Nat), off := { block := (0 : Nat), off := (3 : Nat), spot := some (0 : Nat) : Addr }.off, spot := some (0 : Nat) : Addr }) M.L (0 : Nat)], VObj.cells (40 : TypeId) [Value.string M.e0, Value.int IntKind.i64 M.g1, Value.int IntKind.i64 M.g2, Value.int IntKind.i64 M.sz], VObj.cells (49 : TypeId) [Value.int IntKind.i64 (8 : Int), Value.string { data := #[] : ByteArray }, Value.string { data := #[] : ByteArray }, Value.int IntKind.i64 M.g1, Value.int IntKind.i64 M.g2, Value.int IntKind.i64 (0 : Int), Value.int IntKind.i64 (0 : Int), Value.int IntKind.i64 (0 : Int), Value.int IntKind.i64 (0 : Int), Value.slice none (0 : Nat) (0 : Nat)], VObj.cells (49 : TypeId) [Value.int IntKind.i64 (9 : Int), Value.string { data := #[] : ByteArray }, Value.string { data := #[] : ByteArray }, Value.int IntKind.i64 M.g1, Value.int IntKind.i64 M.g2, Value.int IntKind.i64 (0 : Int), Value.int IntKind.i64 (0 : Int), Value.int IntKind.i64 (0 : Int), Value.int IntKind.i64 (0 : Int), Value.slice none (0 : Nat) (0 : Nat)]] ∧
    Is (c + (1 : Nat) + (1 : Nat) = c + (1 : Nat) + (1 : Nat) ∧
    (0 : Nat) < c + (1 : Nat) + (1 : Nat)) ∧
    Ax11 M (k - (1 : Nat)) (c + (1 : Nat) + (1 : Nat)) (IntKind.i64.wrap (i + (1 : Int)))) (((0 : Int) ≤ IntKind.i64.wrap (IntKind.i64.wrap (i * M.b) - M.a) ∧
    IntKind.i64.wrap (IntKind.i64.wrap (i * M.b) - M.a) ≤ IntKind.i64.wrap (IntKind.i64.wrap (IntKind.i64.wrap (i * M.b) + M.b) - M.a) ∧
    IntKind.i64.wrap (IntKind.i64.wrap (IntKind.i64.wrap (i * M.b) + M.b) - M.a) ≤ (↑M.L : Int) ∧
    (0 : Nat) + M.L ≤ M.N ∧
    (IntKind.i64.wrap (IntKind.i64.wrap (i * M.b) - M.a) = (0 : Int) ∨ IntKind.i64.wrap (IntKind.i64.wrap (i * M.b) - M.a) < (↑M.L : Int))) ∧
    ((0 : Int) ≤ IntKind.i64.wrap (IntKind.i64.wrap (i * M.b) - M.a) ∧
    IntKind.i64.wrap (IntKind.i64.wrap (i * M.b) - M.a) ≤ IntKind.i64.wrap (IntKind.i64.wrap (IntKind.i64.wrap (i * M.b) + M.b) - M.a) ∧
    IntKind.i64.wrap (IntKind.i64.wrap (IntKind.i64.wrap (i * M.b) + M.b) - M.a) ≤ (↑M.L : Int) ∧
    (0 : Nat) + M.L ≤ M.N ∧
    (IntKind.i64.wrap (IntKind.i64.wrap (i * M.b) - M.a) = (0 : Int) ∨ IntKind.i64.wrap (IntKind.i64.wrap (i * M.b) - M.a) < (↑M.L : Int))) ∧
    ((1 : Nat) = (1 : Nat) ∧
    c = c ∧
    True ∧
    fitsN (c + (1 : Nat)) (176 : Nat)) ∧
    ∀ (f' : Nat → List Value), (k = (0 : Nat) → False) ∧
    (Value.int IntKind.i64 M.b = Value.int IntKind.i64 M.b ∧
    Value.slice (some { block := (5 : Nat), off := { block := (9 : Nat), off := (1 : Nat), spot := some (0 : Nat) : Addr }.off, spot := some (0 : Nat) : Addr }) (c + (1 : Nat)) (0 : Nat) = Value.slice (some { block := (5 : Nat), off := { block := (9 : Nat), off := (1 : Nat), spot := some (0 : Nat) : Addr }.off, spot := some (0 : Nat) : Addr }) (c + (1 : Nat)) (0 : Nat) ∧
    Value.int IntKind.i64 M.E = Value.int IntKind.i64 M.E ∧
    Value.int IntKind.i64 (IntKind.i64.wrap (i + (1 : Int))) = Value.int IntKind.i64 (IntKind.i64.wrap (i + (1 : Int))) ∧
    True) ∧
    Is (M.E = M.E) ∧
    VIs M (11 : Int) [VObj.arg (5 : TypeId) (1 : Nat) M.N M.f, VObj.cells (49 : TypeId) [Value.int IntKind.i64 (11 : Int), Value.string M.nm, Value.string M.ot, Value.int IntKind.i64 M.f1, Value.int IntKind.i64 M.f2, Value.int IntKind.i64 M.n1, Value.int IntKind.i64 M.n2, Value.int IntKind.i64 M.a, Value.int IntKind.i64 M.n, Value.slice (some { block := (0 : Nat), off := { block := (0 : Nat), off := (3 : Nat), spot := some (0 : Nat) : Addr }.off, spot := some (0 : Nat) : Addr }) M.L (0 : Nat)], VObj.cells (40 : TypeId) [Value.string M.e0, Value.int IntKind.i64 M.g1, Value.int IntKind.i64 M.g2, Value.int IntKind.i64 M.sz], VObj.cells (49 : TypeId) [Value.int IntKind.i64 (8 : Int), Value.string { data := #[] : ByteArray }, Value.string { data := #[] : ByteArray }, Value.int IntKind.i64 M.g1, Value.int IntKind.i64 M.g2, Value.int IntKind.i64 (0 : Int), Value.int IntKind.i64 (0 : Int), Value.int IntKind.i64 (0 : Int), Value.int IntKind.i64 (0 : Int), Value.slice none (0 : Nat) (0 : Nat)], VObj.cells (49 : TypeId) [Value.int IntKind.i64 (9 : Int), Value.string { data := #[] : ByteArray }, Value.string { data := #[] : ByteArray }, Value.int IntKind.i64 M.g1, Value.int IntKind.i64 M.g2, Value.int IntKind.i64 (0 : Int), Value.int IntKind.i64 (0 : Int), Value.int IntKind.i64 (0 : Int), Value.int IntKind.i64 (0 : Int), Value.slice none (0 : Nat) (0 : Nat)]] ∧
    Is (c + (1 : Nat) = c + (1 : Nat) ∧
    (0 : Nat) < c + (1 : Nat)) ∧
    Ax11 M (k - (1 : Nat)) (c + (1 : Nat)) (IntKind.i64.wrap (i + (1 : Int))))) (((1 : Nat) = (1 : Nat) ∧
    c = c ∧
    True ∧
    fitsN (c + (1 : Nat)) (176 : Nat)) ∧
    ((0 : Int) ≤ IntKind.i64.wrap (IntKind.i64.wrap (i * M.b) - M.a) ∧
    IntKind.i64.wrap (IntKind.i64.wrap (i * M.b) - M.a) ≤ IntKind.i64.wrap (IntKind.i64.wrap (IntKind.i64.wrap (i * M.b) + M.b) - M.a) ∧
    IntKind.i64.wrap (IntKind.i64.wrap (IntKind.i64.wrap (i * M.b) + M.b) - M.a) ≤ (↑M.L : Int) ∧
    (0 : Nat) + M.L ≤ M.N ∧
    (IntKind.i64.wrap (IntKind.i64.wrap (i * M.b) - M.a) = (0 : Int) ∨ IntKind.i64.wrap (IntKind.i64.wrap (i * M.b) - M.a) < (↑M.L : Int))) ∧
    ((0 : Int) ≤ IntKind.i64.wrap (IntKind.i64.wrap (i * M.b) - M.a) ∧
    IntKind.i64.wrap (IntKind.i64.wrap (i * M.b) - M.a) ≤ IntKind.i64.wrap (IntKind.i64.wrap (IntKind.i64.wrap (i * M.b) + M.b) - M.a) ∧
    IntKind.i64.wrap (IntKind.i64.wrap (IntKind.i64.wrap (i * M.b) + M.b) - M.a) ≤ (↑M.L : Int) ∧
    (0 : Nat) + M.L ≤ M.N ∧
    (IntKind.i64.wrap (IntKind.i64.wrap (i * M.b) - M.a) = (0 : Int) ∨ IntKind.i64.wrap (IntKind.i64.wrap (i * M.b) - M.a) < (↑M.L : Int))) ∧
    ((1 : Nat) = (1 : Nat) ∧
    c + (1 : Nat) = c + (1 : Nat) ∧
    True ∧
    fitsN (c + (1 : Nat) + (1 : Nat)) (176 : Nat)) ∧
    ∀ (f' : Nat → List Value), (k = (0 : Nat) → False) ∧
    (Value.int IntKind.i64 M.b = Value.int IntKind.i64 M.b ∧
    Value.slice (some { block := (5 : Nat), off := { block := (11 : Nat), off := (1 : Nat), spot := some (0 : Nat) : Addr }.off, spot := some (0 : Nat) : Addr }) (c + (1 : Nat) + (1 : Nat)) (0 : Nat) = Value.slice (some { block := (5 : Nat), off := { block := (11 : Nat), off := (1 : Nat), spot := some (0 : Nat) : Addr }.off, spot := some (0 : Nat) : Addr }) (c + (1 : Nat) + (1 : Nat)) (0 : Nat) ∧
    Value.int IntKind.i64 M.E = Value.int IntKind.i64 M.E ∧
    Value.int IntKind.i64 (IntKind.i64.wrap (i + (1 : Int))) = Value.int IntKind.i64 (IntKind.i64.wrap (i + (1 : Int))) ∧
    True) ∧
    Is (M.E = M.E) ∧
    VIs M (11 : Int) [VObj.arg (5 : TypeId) (1 : Nat) M.N M.f, VObj.cells (49 : TypeId) [Value.int IntKind.i64 (11 : Int), Value.string M.nm, Value.string M.ot, Value.int IntKind.i64 M.f1, Value.int IntKind.i64 M.f2, Value.int IntKind.i64 M.n1, Value.int IntKind.i64 M.n2, Value.int IntKind.i64 M.a, Value.int IntKind.i64 M.n, Value.slice (some { block := (0 : Nat), off := { block := (0 : Nat), off := (3 : Nat), spot := some (0 : Nat) : Addr }.off, spot := some (0 : Nat) : Addr }) M.L (0 : Nat)], VObj.cells (40 : TypeId) [Value.string M.e0, Value.int IntKind.i64 M.g1, Value.int IntKind.i64 M.g2, Value.int IntKind.i64 M.sz], VObj.cells (49 : TypeId) [Value.int IntKind.i64 (8 : Int), Value.string { data := #[] : ByteArray }, Value.string { data := #[] : ByteArray }, Value.int IntKind.i64 M.g1, Value.int IntKind.i64 M.g2, Value.int IntKind.i64 (0 : Int), Value.int IntKind.i64 (0 : Int), Value.int IntKind.i64 (0 : Int), Value.int IntKind.i64 (0 : Int), Value.slice none (0 : Nat) (0 : Nat)], VObj.cells (49 : TypeId) [Value.int IntKind.i64 (9 : Int), Value.string { data := #[] : ByteArray }, Value.string { data := #[] : ByteArray }, Value.int IntKind.i64 M.g1, Value.int IntKind.i64 M.g2, Value.int IntKind.i64 (0 : Int), Value.int IntKind.i64 (0 : Int), Value.int IntKind.i64 (0 : Int), Value.int IntKind.i64 (0 : Int), Value.slice none (0 : Nat) (0 : Nat)]] ∧
    Is (c + (1 : Nat) + (1 : Nat) = c + (1 : Nat) + (1 : Nat) ∧
    (0 : Nat) < c + (1 : Nat) + (1 : Nat)) ∧
    Ax11 M (k - (1 : Nat)) (c + (1 : Nat) + (1 : Nat)) (IntKind.i64.wrap (i + (1 : Int))))))) (∀ (f' : Nat → List Value), (Value.slice (some { block := (5 : Nat), off := { block := (5 : Nat), off := (1 : Nat), spot := some (0 : Nat) : Addr }.off, spot := some (0 : Nat) : Addr }) c (0 : Nat) = Value.slice (some { block := (5 : Nat), off := { block := (5 : Nat), off := (1 : Nat), spot := some (0 : Nat) : Addr }.off, spot := some (0 : Nat) : Addr }) c (0 : Nat) ∧
    Value.int IntKind.i64 M.E = Value.int IntKind.i64 M.E ∧
    True) ∧
    VIs M (11 : Int) [VObj.arg (5 : TypeId) (1 : Nat) M.N M.f, VObj.cells (49 : TypeId) [Value.int IntKind.i64 (11 : Int), Value.string M.nm, Value.string M.ot, Value.int IntKind.i64 M.f1, Value.int IntKind.i64 M.f2, Value.int IntKind.i64 M.n1, Value.int IntKind.i64 M.n2, Value.int IntKind.i64 M.a, Value.int IntKind.i64 M.n, Value.slice (some { block := (0 : Nat), off := { block := (0 : Nat), off := (3 : Nat), spot := some (0 : Nat) : Addr }.off, spot := some (0 : Nat) : Addr }) M.L (0 : Nat)], VObj.cells (40 : TypeId) [Value.string M.e0, Value.int IntKind.i64 M.g1, Value.int IntKind.i64 M.g2, Value.int IntKind.i64 M.sz], VObj.cells (49 : TypeId) [Value.int IntKind.i64 (8 : Int), Value.string { data := #[] : ByteArray }, Value.string { data := #[] : ByteArray }, Value.int IntKind.i64 M.g1, Value.int IntKind.i64 M.g2, Value.int IntKind.i64 (0 : Int), Value.int IntKind.i64 (0 : Int), Value.int IntKind.i64 (0 : Int), Value.int IntKind.i64 (0 : Int), Value.slice none (0 : Nat) (0 : Nat)], VObj.cells (49 : TypeId) [Value.int IntKind.i64 (9 : Int), Value.string { data := #[] : ByteArray }, Value.string { data := #[] : ByteArray }, Value.int IntKind.i64 M.g1, Value.int IntKind.i64 M.g2, Value.int IntKind.i64 (0 : Int), Value.int IntKind.i64 (0 : Int), Value.int IntKind.i64 (0 : Int), Value.int IntKind.i64 (0 : Int), Value.slice none (0 : Nat) (0 : Nat)]] ∧
    Is (c = c ∧
    (0 : Nat) < c) ∧
    Cnt ((↑c : Int) = ct11 M))) (∀ (f' : Nat → List Value), (Value.slice (some { block := (5 : Nat), off := { block := (5 : Nat), off := (1 : Nat), spot := some (0 : Nat) : Addr }.off, spot := some (0 : Nat) : Addr }) c (0 : Nat) = Value.slice (some { block := (5 : Nat), off := { block := (5 : Nat), off := (1 : Nat), spot := some (0 : Nat) : Addr }.off, spot := some (0 : Nat) : Addr }) c (0 : Nat) ∧
    Value.int IntKind.i64 M.E = Value.int IntKind.i64 M.E ∧
    True) ∧
    VIs M (11 : Int) [VObj.arg (5 : TypeId) (1 : Nat) M.N M.f, VObj.cells (49 : TypeId) [Value.int IntKind.i64 (11 : Int), Value.string M.nm, Value.string M.ot, Value.int IntKind.i64 M.f1, Value.int IntKind.i64 M.f2, Value.int IntKind.i64 M.n1, Value.int IntKind.i64 M.n2, Value.int IntKind.i64 M.a, Value.int IntKind.i64 M.n, Value.slice (some { block := (0 : Nat), off := { block := (0 : Nat), off := (3 : Nat), spot := some (0 : Nat) : Addr }.off, spot := some (0 : Nat) : Addr }) M.L (0 : Nat)], VObj.cells (40 : TypeId) [Value.string M.e0, Value.int IntKind.i64 M.g1, Value.int IntKind.i64 M.g2, Value.int IntKind.i64 M.sz], VObj.cells (49 : TypeId) [Value.int IntKind.i64 (8 : Int), Value.string { data := #[] : ByteArray }, Value.string { data := #[] : ByteArray }, Value.int IntKind.i64 M.g1, Value.int IntKind.i64 M.g2, Value.int IntKind.i64 (0 : Int), Value.int IntKind.i64 (0 : Int), Value.int IntKind.i64 (0 : Int), Value.int IntKind.i64 (0 : Int), Value.slice none (0 : Nat) (0 : Nat)], VObj.cells (49 : TypeId) [Value.int IntKind.i64 (9 : Int), Value.string { data := #[] : ByteArray }, Value.string { data := #[] : ByteArray }, Value.int IntKind.i64 M.g1, Value.int IntKind.i64 M.g2, Value.int IntKind.i64 (0 : Int), Value.int IntKind.i64 (0 : Int), Value.int IntKind.i64 (0 : Int), Value.int IntKind.i64 (0 : Int), Value.slice none (0 : Nat) (0 : Nat)]] ∧
    Is (c = c ∧
    (0 : Nat) < c) ∧
    Cnt ((↑c : Int) = ct11 M))) (by kernel_rfl) ?_
  rcases h with ⟨⟨hL, h2, h3⟩ | ⟨hp, h⟩⟩
  · exact absurd h3 (by omega)
  have hct : ct11 M = tt11 M := by unfold ct11; rw [if_neg (by have := hp.L1; omega)]
  have hb := hp.b1; have hb2 := hp.b2; have ha := hp.a1; have hL := hp.L1; have he := hp.e2; have hn := hp.n
  have hE : M.E = M.a + M.L := rfl
  obtain ⟨b1, b2, b3, b4, b5, b6⟩ := h.bd hp
  obtain ⟨q1, q2, q3⟩ := tdq (x := M.E - 1) (b := M.b) (m := 1048576) (by omega) (by omega) hb
  rw [w64 (M.E - 1) (by omega), q1, w64 ((M.E - 1) / M.b) (by omega), w64 (i + 1) (by omega)]
  refine bsplit_iff.2 ⟨fun _ => ⟨by omega, bsplit_iff.2 ⟨fun hi => ?_, fun hi => ?_⟩⟩, fun h => absurd (of_decide_eq_false h) (by omega)⟩
  · have hi := of_decide_eq_true hi
    have hk := b6 hi
    obtain ⟨f1, f2, f3, f4, f5, f6, _⟩ := hp.facts h.h0 hi
    have hw := h.whole hp hi
    have hq := h.part hp hi
    generalize i * M.b = X at *
    rw [w64 X (by omega), w64 (X + M.b) (by omega), w64 (M.a - M.a) (by omega), w64 (M.E - M.a) (by omega), w64 (X + M.b - M.a) (by omega), w64 (X - M.a) (by omega)]
    repeat' (refine bsplit_iff.2 ⟨fun hx => ?_, fun hx => ?_⟩ <;> simp only [decide_eq_true_eq, decide_eq_false_iff_not, Bool.not_eq_true', Bool.not_eq_false', beq_iff_eq, beq_eq_false_iff_ne] at hx)
    all_goals first
      | exact ⟨⟨rfl, rfl, trivial, b3⟩, ⟨by omega, by omega, by omega, by omega, by omega⟩, ⟨by omega, by omega, by omega, by omega, by omega⟩, ⟨rfl, rfl, trivial, b4⟩, fun f' => ⟨hk, ⟨rfl, rfl, rfl, rfl, trivial⟩, ⟨rfl⟩, ⟨rfl⟩, ⟨rfl, by omega⟩, ⟨.inr ⟨hp, hq (by omega)⟩⟩⟩⟩
      | exact ⟨⟨by omega, by omega, by omega, by omega, by omega⟩, ⟨by omega, by omega, by omega, by omega, by omega⟩, ⟨rfl, rfl, trivial, b3⟩, fun f' => ⟨hk, ⟨rfl, rfl, rfl, rfl, trivial⟩, ⟨rfl⟩, ⟨rfl⟩, ⟨rfl, by omega⟩, ⟨.inr ⟨hp, hw (by omega)⟩⟩⟩⟩
  · have hi := of_decide_eq_false hi
    exact fun f' => ⟨⟨rfl, rfl, trivial⟩, ⟨rfl⟩, ⟨rfl, hc⟩, ⟨by rw [hct]; exact b5 hi⟩⟩
theorem J11_eq {M : Mk} {k : Nat} {S : VSt} (h : J11 M k S) : ∃ l i, leT (tm11 M l M.E i) S.tmps ∧ okL M 11 l S.V fun c => Ax11 M k c i := by
  unfold J11 at h
  split at h
  · obtain ⟨h1, ⟨rfl⟩, h3⟩ := h
    exact ⟨_, _, leQ_le h1, h3⟩
  · exact h.elim
/-- the loop of writing -/
def B11 (M : Mk) : BlkS := fun S K =>
  reshape S.V.length (selL S) (ks11 .normal) [] [] S (J11 M (if M.L = 0 then 0 else ((M.E - 1) / M.b - M.a / M.b + 1).toNat)) ∧ S.V.length = 5 ∧
  (Is (ct11 M = 0) → K .normal ⟨out11 M (.slice none 0 0), V5 M 11⟩) ∧ ∀ (c : Nat) g, Is ((c : Int) = ct11 M ∧ 0 < c) → K .normal ⟨out11 M (lv c), V5 M 11 ++ [.raw 126 16 c 0 g []]⟩
theorem l11 (M : Mk) (S : VSt) (K : Exit → VSt → Prop) (hB : B11 M S K) : Does Tryz.prog (.block 3 (.loop (roundOf Tryz.f19 3))) S K := by
  obtain ⟨h1, h2, h3, h4⟩ := hB
  refine Does.mono (Does.loopR (K := Kw11 M) ks11 (fun _ S' => selL S') [] [] (J11 M) S (reshape_mono (fun S hS => ⟨_, hS⟩) h1) fun k S' hJ => ?_) fun e S' hK => ?_
  · obtain ⟨l, i, ht, hL⟩ := J11_eq hJ
    rw [h2]
    rcases okL_eq hL with ⟨rfl, hV, hA⟩ | ⟨c, g, hc, rfl, hV, hA⟩
    · exact Does.weaken (r11a M i k hA) ht hV.symm (.of rfl (V5_sc M 11))
    · exact Does.weaken (r11b M i k c g hc hA) ht hV.symm (.of rfl (V6_sc M 11 c g))
  · cases e with
    | normal =>
      obtain ⟨hT, hL⟩ := hK
      have hT := eqT_eq hT
      obtain ⟨T, V⟩ := S'
      change okL M 11 (nth undef T 7) V _ at hL
      change T = _ at hT
      rcases okL_eq hL with ⟨h5, rfl, ⟨hA⟩⟩ | ⟨c, g, hc, h5, rfl, ⟨hA⟩⟩
      · rw [h5] at hT; subst hT; exact h3 ⟨by rw [← hA]; rfl⟩
      · rw [h5] at hT; subst hT; exact h4 c g ⟨hA, hc⟩
    | _ => exact hK.elim
theorem mk11 (M : Mk) (hN : M.L ≤ M.N) (hp : MkPre 11 M.a M.n M.L M.sz M.b) : CallDoes Tryz.prog 19 (mkArgs M 11) [.arg 5 1 M.N M.f] (mkR M (cnt 11 M.a M.n M.L M.sz M.b)) := by
  obtain ⟨⟨_, b1, b2, s1, s2, _, h11, _⟩, few⟩ := hp
  obtain ⟨a1, a2⟩ := h11 rfl
  have hcn : cnt 11 M.a M.n M.L M.sz M.b = (if M.L = 0 then 0 else tt11 M + (if M.sz < M.E then 1 else 0)) := by
    unfold cnt tt11 pA pB Mk.E
    rw [if_neg (by decide), if_pos rfl]
    by_cases h : M.L = 0
    · rw [if_pos h, if_pos (by omega)]
    · rw [if_neg h, if_neg (by omega)]
  have hE : M.E = M.a + M.L := rfl
  have hA : Ax11 M (if M.L = 0 then 0 else ((M.E - 1) / M.b - M.a / M.b + 1).toNat) 0 (M.a / M.b) := by
    by_cases h : M.L = 0
    · rw [if_pos h]; exact ⟨.inl ⟨h, rfl, rfl⟩⟩
    · rw [if_neg h]
      have hF : M.a / M.b ≤ (M.E - 1) / M.b := divle b1 (by omega)
      rw [hcn, if_neg h] at few
      have hpre : Pre11 M := ⟨b1, b2, a1, by omega, by omega, hN, by unfold tt11 at few; split at few <;> split at few <;> split at few <;> omega⟩
      refine ⟨.inr ⟨hpre, ⟨by omega, by omega, ?_⟩⟩⟩
      rw [if_pos rfl, if_neg (by omega)]; omega
  obtain ⟨p1', p2', p3'⟩ := tdq (x := M.a) (b := M.b) (m := 1048576) a1 (by omega) b1
  have hct : ct11 M ≤ 4000 ∧ (M.L = 0 → ct11 M = 0) ∧ (M.L ≠ 0 → ct11 M = tt11 M ∧ 0 < tt11 M) := by
    unfold ct11
    by_cases h : M.L = 0
    · rw [if_pos h]; exact ⟨by omega, fun _ => rfl, fun h' => absurd h h'⟩
    · rw [if_neg h]
      rw [hcn, if_neg h] at few
      have hF : M.a / M.b ≤ (M.E - 1) / M.b := divle b1 (by omega)
      refine ⟨by split at few <;> omega, fun h' => absurd h' h, fun _ => ⟨rfl, ?_⟩⟩
      unfold tt11; split <;> split <;> omega
  obtain ⟨t1, t2, t3⟩ := hct
  refine CallDoes.reshape mkSel [] [] ?_
  refine CallDoes.shut blkV ?_
  refine of_run (ctxG_ok (l := []) (cs := []) (bs := [(3, B11 M)]) .nil .nil) (n := 400) Tryz.func19 rfl (.one rfl rfl (l11 M)) ?_
  refine by_nf (B := (M.b = (0 : Int) → False) ∧
    ((Value.int IntKind.i64 M.b = Value.int IntKind.i64 M.b ∧
    Value.slice none (0 : Nat) (0 : Nat) = Value.slice none (0 : Nat) (0 : Nat) ∧
    Value.int IntKind.i64 (IntKind.i64.wrap (M.a + (↑M.L : Int))) = Value.int IntKind.i64 (IntKind.i64.wrap (M.a + (↑M.L : Int))) ∧
    Value.int IntKind.i64 (IntKind.i64.wrap (M.a.tdiv M.b)) = Value.int IntKind.i64 (IntKind.i64.wrap (M.a.tdiv M.b)) ∧
    True) ∧
    Is (IntKind.i64.wrap (M.a + (↑M.L : Int)) = M.E) ∧
    VIs M (11 : Int) [VObj.arg (5 : TypeId) (1 : Nat) M.N M.f, VObj.cells (49 : Nat) [Value.int IntKind.i64 (11 : Int), Value.string M.nm, Value.string M.ot, Value.int IntKind.i64 M.f1, Value.int IntKind.i64 M.f2, Value.int IntKind.i64 M.n1, Value.int IntKind.i64 M.n2, Value.int IntKind.i64 M.a, Value.int IntKind.i64 M.n, Value.slice (some { block := (0 : Nat), off := { block := (0 : Nat), off := (3 : Nat), spot := some (0 : Nat) : Addr }.off, spot := some (0 : Nat) : Addr }) M.L (0 : Nat)], VObj.cells (40 : Nat) [Value.string M.e0, Value.int IntKind.i64 M.g1, Value.int IntKind.i64 M.g2, Value.int IntKind.i64 M.sz], VObj.cells (49 : Nat) [Value.int IntKind.i64 (8 : Int), Value.string { data := #[] : ByteArray }, Value.string { data := #[] : ByteArray }, Value.int IntKind.i64 M.g1, Value.int IntKind.i64 M.g2, Value.int IntKind.i64 (0 : Int), Value.int IntKind.i64 (0 : Int), Value.int IntKind.i64 (0 : Int), Value.int IntKind.i64 (0 : Int), Value.slice none (0 : Nat) (0 : Nat)], VObj.cells (49 : Nat) [Value.int IntKind.i64 (9 : Int), Value.string { data := #[] : ByteArray }, Value.string { data := #[] : ByteArray }, Value.int IntKind.i64 M.g1, Value.int IntKind.i64 M.g2, Value.int IntKind.i64 (0 : Int), Value.int IntKind.i64 (0 : Int), Value.int IntKind.i64 (0 : Int), Value.int IntKind.i64 (0 : Int), Value.slice none (0 : Nat) (0 : Nat)]] ∧
    Ax11 M (if M.L = (0 : Nat) then (0 : Nat) else ((M.E - (1 : Int)) / M.b - M.a / M.b + (1 : Int)).toNat) (0 : Nat) (IntKind.i64.wrap (M.a.tdiv M.b))) ∧
    (5 : Nat) = (5 : Nat) ∧
    (Is (ct11 M = (0 : Int)) → bsplit (decide ((↑M.L : Int) > (0 : Int)))
    (bsplit (decide (M.E > M.sz)) (((1 : Nat) = (1 : Nat) ∧
    Nat.succ (0 : Nat) ≤ (1 : Nat) ∧
    fitsN (1 : Nat) (176 : Nat)) ∧
    ∀ (f' : Nat → List Value), VEq [VObj.arg (5 : TypeId) (1 : Nat) M.N M.f] [VObj.arg (5 : TypeId) (1 : Nat) M.N M.f] ∧
    Is ((1 : Nat) = (1 : Nat) ∧
    (0 : Nat) < (1 : Nat)) ∧
    Cnt (cnt (11 : Int) M.a M.n (↑M.L : Int) M.sz M.b = (↑(1 : Nat) : Int))) (VEq [VObj.arg (5 : TypeId) (1 : Nat) M.N M.f] [VObj.arg (5 : TypeId) (1 : Nat) M.N M.f] ∧
    Cnt (cnt (11 : Int) M.a M.n (↑M.L : Int) M.sz M.b = (0 : Int)))) (VEq [VObj.arg (5 : TypeId) (1 : Nat) M.N M.f] [VObj.arg (5 : TypeId) (1 : Nat) M.N M.f] ∧
    Cnt (cnt (11 : Int) M.a M.n (↑M.L : Int) M.sz M.b = (0 : Int)))) ∧
    ∀ (c : Nat) (g : Nat → List Value), Is ((↑c : Int) = ct11 M ∧
    (0 : Nat) < c) → bsplit (decide ((↑M.L : Int) > (0 : Int)))
    (bsplit (decide (M.E > M.sz)) (((1 : Nat) = (1 : Nat) ∧
    c = c ∧
    True ∧
    fitsN (c + (1 : Nat)) (176 : Nat)) ∧
    ∀ (f' : Nat → List Value), VEq [VObj.arg (5 : TypeId) (1 : Nat) M.N M.f] [VObj.arg (5 : TypeId) (1 : Nat) M.N M.f] ∧
    Is (c + (1 : Nat) = c + (1 : Nat) ∧
    (0 : Nat) < c + (1 : Nat)) ∧
    Cnt (cnt (11 : Int) M.a M.n (↑M.L : Int) M.sz M.b = (↑(c + (1 : Nat)) : Int))) (∀ (f' : Nat → List Value), VEq [VObj.arg (5 : TypeId) (1 : Nat) M.N M.f] [VObj.arg (5 : TypeId) (1 : Nat) M.N M.f] ∧
    Is (c = c ∧
    (0 : Nat) < c) ∧
    Cnt (cnt (11 : Int) M.a M.n (↑M.L : Int) M.sz M.b = (↑c : Int)))) (∀ (f' : Nat → List Value), VEq [VObj.arg (5 : TypeId) (1 : Nat) M.N M.f] [VObj.arg (5 : TypeId) (1 : Nat) M.N M.f] ∧
    Is (c = c ∧
    (0 : Nat) < c) ∧
    Cnt (cnt (11 : Int) M.a M.n (↑M.L : Int) M.sz M.b = (↑c : Int)))) (by kernel_rfl) ?_
  rw [w64 (M.a + M.L) (by omega), p1', w64 (M.a / M.b) (by omega)]
  refine ⟨by omega, ⟨⟨rfl, rfl, rfl, rfl, trivial⟩, ⟨rfl⟩, ⟨rfl⟩, hA⟩, rfl, fun h => ?_, fun c g h => ?_⟩
  · obtain ⟨h⟩ := h
    have hL : M.L = 0 := by
      rcases Nat.eq_zero_or_pos M.L with h' | h'
      · exact h'
      · have := t3 (by omega); omega
    rw [if_pos hL] at hcn
    exact bsplit_iff.2 ⟨fun h => absurd (of_decide_eq_true h) (by omega), fun _ => ⟨⟨rfl⟩, ⟨hcn⟩⟩⟩
  · obtain ⟨h, hc⟩ := h
    have hL : M.L ≠ 0 := fun h' => by have := t2 h'; omega
    obtain ⟨t4, t5⟩ := t3 hL
    rw [if_neg hL] at hcn
    refine bsplit_iff.2 ⟨fun _ => bsplit_iff.2 ⟨fun h1 => ?_, fun h1 => ?_⟩, fun h => absurd (of_decide_eq_false h) (by omega)⟩
    · have h1 := of_decide_eq_true h1
      rw [if_pos (by omega)] at hcn
      exact ⟨⟨rfl, rfl, trivial, ⟨by omega, by omega⟩⟩, fun f' => ⟨⟨rfl⟩, ⟨rfl, by omega⟩, ⟨by rw [hcn]; omega⟩⟩⟩
    · have h1 := of_decide_eq_false h1
      rw [if_neg (by omega)] at hcn
      exact fun f' => ⟨⟨rfl⟩, ⟨rfl, by omega⟩, ⟨by rw [hcn]; omega⟩⟩
end Go.Fil
