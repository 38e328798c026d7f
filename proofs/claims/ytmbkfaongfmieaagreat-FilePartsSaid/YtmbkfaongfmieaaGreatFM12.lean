/- FileParts: the list of parts: cutting. -/
import Derived.Test.YtmbkfaongfmieaaGreatFM0
set_option linter.unusedSimpArgs false
set_option linter.unusedVariables false
set_option linter.unusedSectionVars false
set_option maxRecDepth 100000
namespace Go.Fil
open Go Go.X Go.Proofs
variable [WI]
def tm12 (M : Mk) (l : Value) (i : Int) : List Value := [unk, unk, .int .i64 M.b, pt 1, pt 2, unk, unk, l, pt 3, pt 4] ++ List.replicate 10 unk ++ [.int .i64 i] ++ List.replicate 318 unk
/-- how many parts cutting has, but for the last -/
def tt12 (M : Mk) : Int := (M.sz - 1) / M.b - M.n / M.b + 1 + (if M.n % M.b ≠ 0 then 1 else 0)
structure At12 (M : Mk) (k c : Nat) (i : Int) : Prop where
  hi : i = M.n / M.b + k - 1
  hk : (k : Int) ≤ (M.sz - 1) / M.b - M.n / M.b + 1
  hc : k ≠ 0 → (c : Int) + k = (M.sz - 1) / M.b - M.n / M.b + 1
  hz : k = 0 → c = tt12 M
structure Pre12 (M : Mk) : Prop where
  b1 : 1 ≤ M.b
  b2 : M.b ≤ 4096
  n1 : 0 ≤ M.n
  n2 : M.n < M.sz
  s2 : M.sz ≤ 1048576 * M.b
  few : tt12 M ≤ 4000
def J12 (M : Mk) (k : Nat) (S : VSt) : Prop :=
  match nth undef S.tmps 7, nth undef S.tmps 20 with
  | l, .int .i64 i => leQ (tm12 M l i) S.tmps ∧ okL M 12 l S.V fun c => At12 M k c i
  | _, _ => False
def out12 (l : Value) : List Value := [unk, unk, unk, pt 1, pt 2, unk, unk, l] ++ List.replicate 331 unk
def K12 (M : Mk) (e : Exit) (S : VSt) : Prop :=
  match e with
  | .normal => eqT S.tmps (out12 (nth undef S.tmps 7)) ∧ okL M 12 (nth undef S.tmps 7) S.V fun c => Cnt (c = tt12 M)
  | _ => False
def ks12 (e : Exit) : List Nat := match e with | .normal => [2, 3, 4, 7, 8, 9, 20] | _ => [3, 4, 7]
theorem Pre12.facts {M : Mk} (hp : Pre12 M) : 0 ≤ M.n / M.b ∧ M.n / M.b ≤ (M.sz - 1) / M.b ∧ (M.sz - 1) / M.b ≤ 1048576 ∧ M.n / M.b * M.b ≤ M.n ∧ M.n < M.n / M.b * M.b + M.b ∧ (M.n % M.b ≠ 0 ↔ M.n / M.b * M.b < M.n) ∧ (M.sz - 1) / M.b * M.b ≤ M.sz - 1 := by
  have b1 := hp.b1; have n1 := hp.n1; have n2 := hp.n2; have s2 := hp.s2
  obtain ⟨p1, p2, p3⟩ := tdq (x := M.sz - 1) (b := M.b) (m := 1048576) (by omega) (by omega) b1
  have h1 := divle b1 (show M.n ≤ M.sz - 1 by omega)
  have h2 : M.n = M.b * (M.n / M.b) + M.n % M.b := (Int.mul_ediv_add_emod M.n M.b).symm
  have h3 := Int.emod_nonneg M.n (show M.b ≠ 0 by omega)
  have h4 := Int.emod_lt_of_pos M.n (show 0 < M.b by omega)
  have e1 : M.n / M.b * M.b = M.b * (M.n / M.b) := Int.mul_comm _ _
  have h5 : M.sz - 1 = M.b * ((M.sz - 1) / M.b) + (M.sz - 1) % M.b := (Int.mul_ediv_add_emod _ _).symm
  have h6 := Int.emod_nonneg (M.sz - 1) (show M.b ≠ 0 by omega)
  have e2 : (M.sz - 1) / M.b * M.b = M.b * ((M.sz - 1) / M.b) := Int.mul_comm _ _
  exact ⟨Int.ediv_nonneg n1 (by omega), h1, p3, by omega, by omega, by omega, by omega⟩
theorem At12.bd {M : Mk} {i : Int} {k c : Nat} (hp : Pre12 M) (h : At12 M k c i) : -1 ≤ i ∧ i ≤ 1048576 ∧ (k = 0 ↔ ¬ i ≥ M.n / M.b) ∧ (k ≠ 0 → 0 ≤ i * M.b ∧ i * M.b ≤ M.sz ∧ fitsN (c + 1) 176 ∧ fitsN (c + 1 + 1) 176) := by
  obtain ⟨f1, f2, f3, f4, f5, f6, f7⟩ := hp.facts
  obtain ⟨h1, h2, h3, h4⟩ := h
  have few := hp.few
  have hT : (M.sz - 1) / M.b - M.n / M.b + 1 ≤ 4000 := by
    unfold tt12 at few
    split at few <;> omega
  refine ⟨by omega, by omega, by omega, fun hk => ?_⟩
  have h3 := h3 hk
  have hb := hp.b1
  have m1 : 0 ≤ i * M.b := Int.mul_nonneg (by omega) (by omega)
  have m2 : i * M.b ≤ (M.sz - 1) / M.b * M.b := Int.mul_le_mul_of_nonneg_right (by omega) (by omega)
  exact ⟨m1, by omega, ⟨by omega, by omega⟩, ⟨by omega, by omega⟩⟩
theorem At12.fresh {M : Mk} {i : Int} {k c : Nat} (hp : Pre12 M) (h : At12 M k c i) (hk : k ≠ 0) (hf : i * M.b ≥ M.n) : At12 M (k - 1) (c + 1) (i - 1) := by
  obtain ⟨f1, f2, f3, f4, f5, f6, f7⟩ := hp.facts
  obtain ⟨h1, h2, h3, h4⟩ := h
  have h3 := h3 hk
  refine ⟨by omega, by omega, fun h => by omega, fun h => ?_⟩
  have hi : i = M.n / M.b := by omega
  rw [hi] at hf
  unfold tt12
  rw [if_neg (fun h => by have := f6.1 h; omega)]
  omega
theorem At12.stale {M : Mk} {i : Int} {k c : Nat} (hp : Pre12 M) (h : At12 M k c i) (hk : k ≠ 0) (hf : ¬ i * M.b ≥ M.n) : At12 M (k - 1) (c + 1 + 1) (i - 1) := by
  obtain ⟨f1, f2, f3, f4, f5, f6, f7⟩ := hp.facts
  obtain ⟨h1, h2, h3, h4⟩ := h
  have h3 := h3 hk
  have hb := hp.b1
  have hi : i = M.n / M.b := by
    rcases Int.lt_or_le i (M.n / M.b + 1) with h | h
    · omega
    · have m2 : (M.n / M.b + 1) * M.b ≤ i * M.b := Int.mul_le_mul_of_nonneg_right h (by omega)
      rw [Int.add_mul] at m2
      omega
  rw [hi] at hf
  refine ⟨by omega, by omega, fun h => by omega, fun h => ?_⟩
  unfold tt12
  rw [if_pos (f6.2 (by omega))]
  omega
theorem r12a (M : Mk) (i : Int) (k : Nat) (hp : Pre12 M) (h : At12 M k 0 i) :
    Does Tryz.prog (roundOf Tryz.f19 5) ⟨tm12 M (.slice none 0 0) i, V5 M 12⟩ fun e S' => reshape 5 (selL S') (ks12 e) [] [] S' (roundR 5 (J12 M) k (K12 M) e) := by
  refine Does.shut (fun _ S' => blkT 7 S') ?_
  refine of_code (ctxG_ok (l := []) (cs := []) (bs := []) .nil .nil) (n := 300) .g ?_
  refine by_nf (B := (M.b = (0 : Int) → False) ∧
    bsplit (decide (i ≥ IntKind.i64.wrap (M.n.tdiv M.b)))
    (bsplit (!decide (IntKind.i64.wrap (i * M.b) ≥ M.n)) (((1 : Nat) = (1 : Nat) ∧
    Nat.succ (0 : Nat) ≤ (1 : Nat) ∧
    fitsN (1 : Nat) (176 : Nat)) ∧
    ((1 : Nat) = (1 : Nat) ∧
    (1 : Nat) = (1 : Nat) ∧
    True ∧
    fitsN (2 : Nat) (176 : Nat)) ∧
    ∀ (f' : Nat → List Value), (k = (0 : Nat) → False) ∧
    (Value.int IntKind.i64 M.b = Value.int IntKind.i64 M.b ∧
    Value.slice (some { block := (5 : Nat), off := { block := (10 : Nat), off := (1 : Nat), spot := some (0 : Nat) : Addr }.off, spot := some (0 : Nat) : Addr }) (2 : Nat) (0 : Nat) = Value.slice (some { block := (5 : Nat), off := { block := (10 : Nat), off := (1 : Nat), spot := some (0 : Nat) : Addr }.off, spot := some (0 : Nat) : Addr }) (2 : Nat) (0 : Nat) ∧
    Value.int IntKind.i64 (IntKind.i64.wrap (i - (1 : Int))) = Value.int IntKind.i64 (IntKind.i64.wrap (i - (1 : Int))) ∧
    True) ∧
    VIs M (12 : Int) [VObj.arg (5 : TypeId) (1 : Nat) M.N M.f, VObj.cells (49 : TypeId) [Value.int IntKind.i64 (12 : Int), Value.string M.nm, Value.string M.ot, Value.int IntKind.i64 M.f1, Value.int IntKind.i64 M.f2, Value.int IntKind.i64 M.n1, Value.int IntKind.i64 M.n2, Value.int IntKind.i64 M.a, Value.int IntKind.i64 M.n, Value.slice (some { block := (0 : Nat), off := { block := (0 : Nat), off := (3 : Nat), spot := some (0 : Nat) : Addr }.off, spot := some (0 : Nat) : Addr }) M.L (0 : Nat)], VObj.cells (40 : TypeId) [Value.string M.e0, Value.int IntKind.i64 M.g1, Value.int IntKind.i64 M.g2, Value.int IntKind.i64 M.sz], VObj.cells (49 : TypeId) [Value.int IntKind.i64 (8 : Int), Value.string { data := #[] : ByteArray }, Value.string { data := #[] : ByteArray }, Value.int IntKind.i64 M.g1, Value.int IntKind.i64 M.g2, Value.int IntKind.i64 (0 : Int), Value.int IntKind.i64 (0 : Int), Value.int IntKind.i64 (0 : Int), Value.int IntKind.i64 (0 : Int), Value.slice none (0 : Nat) (0 : Nat)], VObj.cells (49 : TypeId) [Value.int IntKind.i64 (9 : Int), Value.string { data := #[] : ByteArray }, Value.string { data := #[] : ByteArray }, Value.int IntKind.i64 M.g1, Value.int IntKind.i64 M.g2, Value.int IntKind.i64 (0 : Int), Value.int IntKind.i64 (0 : Int), Value.int IntKind.i64 (0 : Int), Value.int IntKind.i64 (0 : Int), Value.slice none (0 : Nat) (0 : Nat)]] ∧
    Is ((2 : Nat) = (2 : Nat) ∧
    (0 : Nat) < (2 : Nat)) ∧
    At12 M (k - (1 : Nat)) (2 : Nat) (IntKind.i64.wrap (i - (1 : Int)))) (((1 : Nat) = (1 : Nat) ∧
    Nat.succ (0 : Nat) ≤ (1 : Nat) ∧
    fitsN (1 : Nat) (176 : Nat)) ∧
    ∀ (f' : Nat → List Value), (k = (0 : Nat) → False) ∧
    (Value.int IntKind.i64 M.b = Value.int IntKind.i64 M.b ∧
    Value.slice (some { block := (5 : Nat), off := { block := (8 : Nat), off := (1 : Nat), spot := some (0 : Nat) : Addr }.off, spot := some (0 : Nat) : Addr }) (1 : Nat) (0 : Nat) = Value.slice (some { block := (5 : Nat), off := { block := (8 : Nat), off := (1 : Nat), spot := some (0 : Nat) : Addr }.off, spot := some (0 : Nat) : Addr }) (1 : Nat) (0 : Nat) ∧
    Value.int IntKind.i64 (IntKind.i64.wrap (i - (1 : Int))) = Value.int IntKind.i64 (IntKind.i64.wrap (i - (1 : Int))) ∧
    True) ∧
    VIs M (12 : Int) [VObj.arg (5 : TypeId) (1 : Nat) M.N M.f, VObj.cells (49 : TypeId) [Value.int IntKind.i64 (12 : Int), Value.string M.nm, Value.string M.ot, Value.int IntKind.i64 M.f1, Value.int IntKind.i64 M.f2, Value.int IntKind.i64 M.n1, Value.int IntKind.i64 M.n2, Value.int IntKind.i64 M.a, Value.int IntKind.i64 M.n, Value.slice (some { block := (0 : Nat), off := { block := (0 : Nat), off := (3 : Nat), spot := some (0 : Nat) : Addr }.off, spot := some (0 : Nat) : Addr }) M.L (0 : Nat)], VObj.cells (40 : TypeId) [Value.string M.e0, Value.int IntKind.i64 M.g1, Value.int IntKind.i64 M.g2, Value.int IntKind.i64 M.sz], VObj.cells (49 : TypeId) [Value.int IntKind.i64 (8 : Int), Value.string { data := #[] : ByteArray }, Value.string { data := #[] : ByteArray }, Value.int IntKind.i64 M.g1, Value.int IntKind.i64 M.g2, Value.int IntKind.i64 (0 : Int), Value.int IntKind.i64 (0 : Int), Value.int IntKind.i64 (0 : Int), Value.int IntKind.i64 (0 : Int), Value.slice none (0 : Nat) (0 : Nat)], VObj.cells (49 : TypeId) [Value.int IntKind.i64 (9 : Int), Value.string { data := #[] : ByteArray }, Value.string { data := #[] : ByteArray }, Value.int IntKind.i64 M.g1, Value.int IntKind.i64 M.g2, Value.int IntKind.i64 (0 : Int), Value.int IntKind.i64 (0 : Int), Value.int IntKind.i64 (0 : Int), Value.int IntKind.i64 (0 : Int), Value.slice none (0 : Nat) (0 : Nat)]] ∧
    Is ((1 : Nat) = (1 : Nat) ∧
    (0 : Nat) < (1 : Nat)) ∧
    At12 M (k - (1 : Nat)) (1 : Nat) (IntKind.i64.wrap (i - (1 : Int))))) ((Value.slice none (0 : Nat) (0 : Nat) = Value.slice none (0 : Nat) (0 : Nat) ∧
    True) ∧
    VIs M (12 : Int) [VObj.arg (5 : TypeId) (1 : Nat) M.N M.f, VObj.cells (49 : TypeId) [Value.int IntKind.i64 (12 : Int), Value.string M.nm, Value.string M.ot, Value.int IntKind.i64 M.f1, Value.int IntKind.i64 M.f2, Value.int IntKind.i64 M.n1, Value.int IntKind.i64 M.n2, Value.int IntKind.i64 M.a, Value.int IntKind.i64 M.n, Value.slice (some { block := (0 : Nat), off := { block := (0 : Nat), off := (3 : Nat), spot := some (0 : Nat) : Addr }.off, spot := some (0 : Nat) : Addr }) M.L (0 : Nat)], VObj.cells (40 : TypeId) [Value.string M.e0, Value.int IntKind.i64 M.g1, Value.int IntKind.i64 M.g2, Value.int IntKind.i64 M.sz], VObj.cells (49 : TypeId) [Value.int IntKind.i64 (8 : Int), Value.string { data := #[] : ByteArray }, Value.string { data := #[] : ByteArray }, Value.int IntKind.i64 M.g1, Value.int IntKind.i64 M.g2, Value.int IntKind.i64 (0 : Int), Value.int IntKind.i64 (0 : Int), Value.int IntKind.i64 (0 : Int), Value.int IntKind.i64 (0 : Int), Value.slice none (0 : Nat) (0 : Nat)], VObj.cells (49 : TypeId) [Value.int IntKind.i64 (9 : Int), Value.string { data := #[] : ByteArray }, Value.string { data := #[] : ByteArray }, Value.int IntKind.i64 M.g1, Value.int IntKind.i64 M.g2, Value.int IntKind.i64 (0 : Int), Value.int IntKind.i64 (0 : Int), Value.int IntKind.i64 (0 : Int), Value.int IntKind.i64 (0 : Int), Value.slice none (0 : Nat) (0 : Nat)]] ∧
    Cnt ((↑(0 : Nat) : Int) = tt12 M))) (by kernel_rfl) ?_
  obtain ⟨f1, f2, f3, f4, f5, f6, f7⟩ := hp.facts
  obtain ⟨b1, b2, b3, b4⟩ := h.bd hp
  have hb := hp.b1
  have hs := hp.s2; have hb2 := hp.b2
  obtain ⟨p1, p2, p3⟩ := tdq (x := M.n) (b := M.b) (m := 1048576) hp.n1 (by have := hp.n2; omega) hp.b1
  rw [p1, w64 (M.n / M.b) (by omega), w64 (i - 1) (by omega)]
  refine ⟨by omega, bsplit_iff.2 ⟨fun hi => ?_, fun hi => ?_⟩⟩
  · have hk : k ≠ 0 := fun e => (b3.1 e) (of_decide_eq_true hi)
    obtain ⟨c1, c2, c3, c4⟩ := b4 hk
    rw [w64 (i * M.b) (by omega)]
    refine bsplit_iff.2 ⟨fun hf => ?_, fun hf => ?_⟩
    · have hf : ¬ i * M.b ≥ M.n := by simpa using hf
      exact ⟨⟨rfl, by decide, c3⟩, ⟨rfl, rfl, trivial, c4⟩, fun f' => ⟨hk, ⟨rfl, rfl, rfl, trivial⟩, ⟨rfl⟩, ⟨rfl, by omega⟩, h.stale hp hk hf⟩⟩
    · have hf : i * M.b ≥ M.n := by simpa using hf
      exact ⟨⟨rfl, by decide, c3⟩, fun f' => ⟨hk, ⟨rfl, rfl, rfl, trivial⟩, ⟨rfl⟩, ⟨rfl, by omega⟩, h.fresh hp hk hf⟩⟩
  · have hk : k = 0 := b3.2 (of_decide_eq_false hi)
    exact ⟨⟨rfl, trivial⟩, ⟨rfl⟩, ⟨h.hz hk⟩⟩
theorem r12b (M : Mk) (i : Int) (k c : Nat) (g : Nat → List Value) (hc : 0 < c) (hp : Pre12 M) (h : At12 M k c i) :
    Does Tryz.prog (roundOf Tryz.f19 5) ⟨tm12 M (lv c) i, V5 M 12 ++ [.raw 126 16 c 0 g []]⟩ fun e S' => reshape 5 (selL S') (ks12 e) [] [] S' (roundR 5 (J12 M) k (K12 M) e) := by
  refine Does.shut (fun _ S' => blkT 7 S') ?_
  refine of_code (ctxG_ok (l := []) (cs := []) (bs := []) .nil .nil) (n := 300) .g ?_
  refine by_nf (B := (M.b = (0 : Int) → False) ∧
    bsplit (decide (i ≥ IntKind.i64.wrap (M.n.tdiv M.b)))
    (bsplit (!decide (IntKind.i64.wrap (i * M.b) ≥ M.n)) (((1 : Nat) = (1 : Nat) ∧
    c = c ∧
    True ∧
    fitsN (c + (1 : Nat)) (176 : Nat)) ∧
    ((1 : Nat) = (1 : Nat) ∧
    c + (1 : Nat) = c + (1 : Nat) ∧
    True ∧
    fitsN (c + (1 : Nat) + (1 : Nat)) (176 : Nat)) ∧
    ∀ (f' : Nat → List Value), (k = (0 : Nat) → False) ∧
    (Value.int IntKind.i64 M.b = Value.int IntKind.i64 M.b ∧
    Value.slice (some { block := (5 : Nat), off := { block := (11 : Nat), off := (1 : Nat), spot := some (0 : Nat) : Addr }.off, spot := some (0 : Nat) : Addr }) (c + (1 : Nat) + (1 : Nat)) (0 : Nat) = Value.slice (some { block := (5 : Nat), off := { block := (11 : Nat), off := (1 : Nat), spot := some (0 : Nat) : Addr }.off, spot := some (0 : Nat) : Addr }) (c + (1 : Nat) + (1 : Nat)) (0 : Nat) ∧
    Value.int IntKind.i64 (IntKind.i64.wrap (i - (1 : Int))) = Value.int IntKind.i64 (IntKind.i64.wrap (i - (1 : Int))) ∧
    True) ∧
    VIs M (12 : Int) [VObj.arg (5 : TypeId) (1 : Nat) M.N M.f, VObj.cells (49 : TypeId) [Value.int IntKind.i64 (12 : Int), Value.string M.nm, Value.string M.ot, Value.int IntKind.i64 M.f1, Value.int IntKind.i64 M.f2, Value.int IntKind.i64 M.n1, Value.int IntKind.i64 M.n2, Value.int IntKind.i64 M.a, Value.int IntKind.i64 M.n, Value.slice (some { block := (0 : Nat), off := { block := (0 : Nat), off := (3 : Nat), spot := some (0 : Nat) : Addr }.off, spot := some (0 : Nat) : Addr }) M.L (0 : Nat)], VObj.cells (40 : TypeId) [Value.string M.e0, Value.int IntKind.i64 M.g1, Value.int IntKind.i64 M.g2, Value.int IntKind.i64 M.sz], VObj.cells (49 : TypeId) [Value.int IntKind.i64 (8 : Int), Value.string { data := #[] : ByteArray }, Value.string { data := #[] : ByteArray }, Value.int IntKind.i64 M.g1, Value.int IntKind.i64 M.g2, Value.int IntKind.i64 (0 : Int), Value.int IntKind.i64 (0 : Int), Value.int IntKind.i64 (0 : Int), Value.int IntKind.i64 (0 : Int), Value.slice none (0 : Nat) (0 : Nat)], VObj.cells (49 : TypeId) [Value.int IntKind.i64 (9 : Int), Value.string { data := #[] : ByteArray }, Value.string { data := #[] : ByteArray }, Value.int IntKind.i64 M.g1, Value.int IntKind.i64 M.g2, Value.int IntKind.i64 (0 : Int), Value.int IntKind.i64 (0 : Int), Value.int IntKind.i64 (0 : Int), Value.int IntKind.i64 (0 : Int), Value.slice none (0 : Nat) (0 : Nat)]] ∧
    Is (c + (1 : Nat) + (1 : Nat) = c + (1 : Nat) + (1 : Nat) ∧
    (0 : Nat) < c + (1 : Nat) + (1 : Nat)) ∧
    At12 M (k - (1 : Nat)) (c + (1 : Nat) + (1 : Nat)) (IntKind.i64.wrap (i - (1 : Int)))) (((1 : Nat) = (1 : Nat) ∧
    c = c ∧
    True ∧
    fitsN (c + (1 : Nat)) (176 : Nat)) ∧
    ∀ (f' : Nat → List Value), (k = (0 : Nat) → False) ∧
    (Value.int IntKind.i64 M.b = Value.int IntKind.i64 M.b ∧
    Value.slice (some { block := (5 : Nat), off := { block := (9 : Nat), off := (1 : Nat), spot := some (0 : Nat) : Addr }.off, spot := some (0 : Nat) : Addr }) (c + (1 : Nat)) (0 : Nat) = Value.slice (some { block := (5 : Nat), off := { block := (9 : Nat), off := (1 : Nat), spot := some (0 : Nat) : Addr }.off, spot := some (0 : Nat) : Addr }) (c + (1 : Nat)) (0 : Nat) ∧
    Value.int IntKind.i64 (IntKind.i64.wrap (i - (1 : Int))) = Value.int IntKind.i64 (IntKind.i64.wrap (i - (1 : Int))) ∧
    True) ∧
    VIs M (12 : Int) [VObj.arg (5 : TypeId) (1 : Nat) M.N M.f, VObj.cells (49 : TypeId) [Value.int IntKind.i64 (12 : Int), Value.string M.nm, Value.string M.ot, Value.int IntKind.i64 M.f1, Value.int IntKind.i64 M.f2, Value.int IntKind.i64 M.n1, Value.int IntKind.i64 M.n2, Value.int IntKind.i64 M.a, Value.int IntKind.i64 M.n, Value.slice (some { block := (0 : Nat), off := { block := (0 : Nat), off := (3 : Nat), spot := some (0 : Nat) : Addr }.off, spot := some (0 : Nat) : Addr }) M.L (0 : Nat)], VObj.cells (40 : TypeId) [Value.string M.e0, Value.int IntKind.i64 M.g1, Value.int IntKind.i64 M.g2, Value.int IntKind.i64 M.sz], VObj.cells (49 : TypeId) [Value.int IntKind.i64 (8 : Int), Value.string { data := #[] : ByteArray }, Value.string { data := #[] : ByteArray }, Value.int IntKind.i64 M.g1, Value.int IntKind.i64 M.g2, Value.int IntKind.i64 (0 : Int), Value.int IntKind.i64 (0 : Int), Value.int IntKind.i64 (0 : Int), Value.int IntKind.i64 (0 : Int), Value.slice none (0 : Nat) (0 : Nat)], VObj.cells (49 : TypeId) [Value.int IntKind.i64 (9 : Int), Value.string { data := #[] : ByteArray }, Value.string { data := #[] : ByteArray }, Value.int IntKind.i64 M.g1, Value.int IntKind.i64 M.g2, Value.int IntKind.i64 (0 : Int), Value.int IntKind.i64 (0 : Int), Value.int IntKind.i64 (0 : Int), Value.int IntKind.i64 (0 : Int), Value.slice none (0 : Nat) (0 : Nat)]] ∧
    Is (c + (1 : Nat) = c + (1 : Nat) ∧
    (0 : Nat) < c + (1 : Nat)) ∧
    At12 M (k - (1 : Nat)) (c + (1 : Nat)) (IntKind.i64.wrap (i - (1 : Int))))) (∀ (f' : Nat → List Value), (Value.slice (some { block := (5 : Nat), off := { block := (5 : Nat), off := (1 : Nat), spot := some (0 : Nat) : Addr }.off, spot := some (0 : Nat) : Addr }) c (0 : Nat) = Value.slice (some { block := (5 : Nat), off := { block := (5 : Nat), off := (1 : Nat), spot := some (0 : Nat) : Addr }.off, spot := some (0 : Nat) : Addr }) c (0 : Nat) ∧
    True) ∧
    VIs M (12 : Int) [VObj.arg (5 : TypeId) (1 : Nat) M.N M.f, VObj.cells (49 : TypeId) [Value.int IntKind.i64 (12 : Int), Value.string M.nm, Value.string M.ot, Value.int IntKind.i64 M.f1, Value.int IntKind.i64 M.f2, Value.int IntKind.i64 M.n1, Value.int IntKind.i64 M.n2, Value.int IntKind.i64 M.a, Value.int IntKind.i64 M.n, Value.slice (some { block := (0 : Nat), off := { block := (0 : Nat), off := (3 : Nat), spot := some (0 : Nat) : Addr }.off, spot := some (0 : Nat) : Addr }) M.L (0 : Nat)], VObj.cells (40 : TypeId) [Value.string M.e0, Value.int IntKind.i64 M.g1, Value.int IntKind.i64 M.g2, Value.int IntKind.i64 M.sz], VObj.cells (49 : TypeId) [Value.int IntKind.i64 (8 : Int), Value.string { data := #[] : ByteArray }, Value.string { data := #[] : ByteArray }, Value.int IntKind.i64 M.g1, Value.int IntKind.i64 M.g2, Value.int IntKind.i64 (0 : Int), Value.int IntKind.i64 (0 : Int), Value.int IntKind.i64 (0 : Int), Value.int IntKind.i64 (0 : Int), Value.slice none (0 : Nat) (0 : Nat)], VObj.cells (49 : TypeId) [Value.int IntKind.i64 (9 : Int), Value.string { data := #[] : ByteArray }, Value.string { data := #[] : ByteArray }, Value.int IntKind.i64 M.g1, Value.int IntKind.i64 M.g2, Value.int IntKind.i64 (0 : Int), Value.int IntKind.i64 (0 : Int), Value.int IntKind.i64 (0 : Int), Value.int IntKind.i64 (0 : Int), Value.slice none (0 : Nat) (0 : Nat)]] ∧
    Is (c = c ∧
    (0 : Nat) < c) ∧
    Cnt ((↑c : Int) = tt12 M))) (by kernel_rfl) ?_
  obtain ⟨f1, f2, f3, f4, f5, f6, f7⟩ := hp.facts
  obtain ⟨b1, b2, b3, b4⟩ := h.bd hp
  have hb := hp.b1
  have hs := hp.s2; have hb2 := hp.b2
  obtain ⟨p1, p2, p3⟩ := tdq (x := M.n) (b := M.b) (m := 1048576) hp.n1 (by have := hp.n2; omega) hp.b1
  rw [p1, w64 (M.n / M.b) (by omega), w64 (i - 1) (by omega)]
  refine ⟨by omega, bsplit_iff.2 ⟨fun hi => ?_, fun hi => ?_⟩⟩
  · have hk : k ≠ 0 := fun e => (b3.1 e) (of_decide_eq_true hi)
    obtain ⟨c1, c2, c3, c4⟩ := b4 hk
    rw [w64 (i * M.b) (by omega)]
    refine bsplit_iff.2 ⟨fun hf => ?_, fun hf => ?_⟩
    · have hf : ¬ i * M.b ≥ M.n := by simpa using hf
      exact ⟨⟨rfl, rfl, trivial, c3⟩, ⟨rfl, rfl, trivial, c4⟩, fun f' => ⟨hk, ⟨rfl, rfl, rfl, trivial⟩, ⟨rfl⟩, ⟨rfl, by omega⟩, h.stale hp hk hf⟩⟩
    · have hf : i * M.b ≥ M.n := by simpa using hf
      exact ⟨⟨rfl, rfl, trivial, c3⟩, fun f' => ⟨hk, ⟨rfl, rfl, rfl, trivial⟩, ⟨rfl⟩, ⟨rfl, by omega⟩, h.fresh hp hk hf⟩⟩
  · have hk : k = 0 := b3.2 (of_decide_eq_false hi)
    exact fun f' => ⟨⟨rfl, trivial⟩, ⟨rfl⟩, ⟨rfl, hc⟩, ⟨h.hz hk⟩⟩
theorem J12_eq {M : Mk} {k : Nat} {S : VSt} (h : J12 M k S) : ∃ l i, leT (tm12 M l i) S.tmps ∧ okL M 12 l S.V fun c => At12 M k c i := by
  unfold J12 at h
  split at h
  · obtain ⟨h1, h3⟩ := h
    exact ⟨_, _, leQ_le h1, h3⟩
  · exact h.elim
/-- the loop of cutting -/
def B12 (M : Mk) : BlkS := fun S K =>
  reshape S.V.length (selL S) (ks12 .normal) [] [] S (J12 M ((M.sz - 1) / M.b - M.n / M.b + 1).toNat) ∧ S.V.length = 5 ∧ Is (Pre12 M) ∧
  ∀ (c : Nat) g, Is ((c : Int) = tt12 M ∧ 0 < c) → K .normal ⟨out12 (lv c), V5 M 12 ++ [.raw 126 16 c 0 g []]⟩
theorem l12 (M : Mk) (S : VSt) (K : Exit → VSt → Prop) (hB : B12 M S K) : Does Tryz.prog (.block 5 (.loop (roundOf Tryz.f19 5))) S K := by
  obtain ⟨h1, h2, ⟨hp⟩, h4⟩ := hB
  refine Does.mono (Does.loopR (K := K12 M) ks12 (fun _ S' => selL S') [] [] (J12 M) S (reshape_mono (fun S hS => ⟨_, hS⟩) h1) fun k S' hJ => ?_) fun e S' hK => ?_
  · obtain ⟨l, i, ht, hL⟩ := J12_eq hJ
    rw [h2]
    rcases okL_eq hL with ⟨rfl, hV, hA⟩ | ⟨c, g, hc, rfl, hV, hA⟩
    · exact Does.weaken (r12a M i k hp hA) ht hV.symm (.of rfl (V5_sc M 12))
    · exact Does.weaken (r12b M i k c g hc hp hA) ht hV.symm (.of rfl (V6_sc M 12 c g))
  · cases e with
    | normal =>
      obtain ⟨hT, hL⟩ := hK
      have hT := eqT_eq hT
      obtain ⟨T, V⟩ := S'
      change okL M 12 (nth undef T 7) V _ at hL
      change T = _ at hT
      rcases okL_eq hL with ⟨h5, rfl, ⟨hA⟩⟩ | ⟨c, g, hc, h5, rfl, ⟨hA⟩⟩
      · obtain ⟨f1, f2, _⟩ := hp.facts
        unfold tt12 at hA
        split at hA <;> omega
      · rw [h5] at hT; subst hT; exact h4 c g ⟨hA, hc⟩
    | _ => exact hK.elim
theorem mk12 (M : Mk) (hp : MkPre 12 M.a M.n M.L M.sz M.b) : CallDoes Tryz.prog 19 (mkArgs M 12) [.arg 5 1 M.N M.f] (mkR M (cnt 12 M.a M.n M.L M.sz M.b)) := by
  obtain ⟨⟨_, b1, b2, s1, s2, _, _, h12⟩, few⟩ := hp
  obtain ⟨n1, n2⟩ := h12 rfl
  have hcn : cnt 12 M.a M.n M.L M.sz M.b = (if M.n < M.sz then tt12 M + 1 else if M.n ≠ M.sz then 1 else 0) := by unfold cnt tt12; rw [if_neg (by decide), if_neg (by decide), if_pos rfl]
  refine CallDoes.reshape mkSel [] [] ?_
  refine CallDoes.shut blkV ?_
  refine of_run (ctxG_ok (l := []) (cs := []) (bs := [(5, B12 M)]) .nil .nil) (n := 400) Tryz.func19 rfl (.one rfl rfl (l12 M)) ?_
  refine by_nf (B := bsplit (decide (M.n < M.sz)) ((M.b = (0 : Int) → False) ∧
    ((Value.int IntKind.i64 M.b = Value.int IntKind.i64 M.b ∧
    Value.slice none (0 : Nat) (0 : Nat) = Value.slice none (0 : Nat) (0 : Nat) ∧
    Value.int IntKind.i64 (IntKind.i64.wrap ((IntKind.i64.wrap (M.sz - (1 : Int))).tdiv M.b)) = Value.int IntKind.i64 (IntKind.i64.wrap ((IntKind.i64.wrap (M.sz - (1 : Int))).tdiv M.b)) ∧
    True) ∧
    VIs M (12 : Int) [VObj.arg (5 : TypeId) (1 : Nat) M.N M.f, VObj.cells (49 : Nat) [Value.int IntKind.i64 (12 : Int), Value.string M.nm, Value.string M.ot, Value.int IntKind.i64 M.f1, Value.int IntKind.i64 M.f2, Value.int IntKind.i64 M.n1, Value.int IntKind.i64 M.n2, Value.int IntKind.i64 M.a, Value.int IntKind.i64 M.n, Value.slice (some { block := (0 : Nat), off := { block := (0 : Nat), off := (3 : Nat), spot := some (0 : Nat) : Addr }.off, spot := some (0 : Nat) : Addr }) M.L (0 : Nat)], VObj.cells (40 : Nat) [Value.string M.e0, Value.int IntKind.i64 M.g1, Value.int IntKind.i64 M.g2, Value.int IntKind.i64 M.sz], VObj.cells (49 : Nat) [Value.int IntKind.i64 (8 : Int), Value.string { data := #[] : ByteArray }, Value.string { data := #[] : ByteArray }, Value.int IntKind.i64 M.g1, Value.int IntKind.i64 M.g2, Value.int IntKind.i64 (0 : Int), Value.int IntKind.i64 (0 : Int), Value.int IntKind.i64 (0 : Int), Value.int IntKind.i64 (0 : Int), Value.slice none (0 : Nat) (0 : Nat)], VObj.cells (49 : Nat) [Value.int IntKind.i64 (9 : Int), Value.string { data := #[] : ByteArray }, Value.string { data := #[] : ByteArray }, Value.int IntKind.i64 M.g1, Value.int IntKind.i64 M.g2, Value.int IntKind.i64 (0 : Int), Value.int IntKind.i64 (0 : Int), Value.int IntKind.i64 (0 : Int), Value.int IntKind.i64 (0 : Int), Value.slice none (0 : Nat) (0 : Nat)]] ∧
    At12 M ((M.sz - (1 : Int)) / M.b - M.n / M.b + (1 : Int)).toNat (0 : Nat) (IntKind.i64.wrap ((IntKind.i64.wrap (M.sz - (1 : Int))).tdiv M.b))) ∧
    (5 : Nat) = (5 : Nat) ∧
    Is (Pre12 M) ∧
    ∀ (c : Nat) (g : Nat → List Value), Is ((↑c : Int) = tt12 M ∧
    (0 : Nat) < c) → bsplit (M.n != M.sz) (((1 : Nat) = (1 : Nat) ∧
    c = c ∧
    True ∧
    fitsN (c + (1 : Nat)) (176 : Nat)) ∧
    ∀ (f' : Nat → List Value), VEq [VObj.arg (5 : TypeId) (1 : Nat) M.N M.f] [VObj.arg (5 : TypeId) (1 : Nat) M.N M.f] ∧
    Is (c + (1 : Nat) = c + (1 : Nat) ∧
    (0 : Nat) < c + (1 : Nat)) ∧
    Cnt (cnt (12 : Int) M.a M.n (↑M.L : Int) M.sz M.b = (↑(c + (1 : Nat)) : Int))) (∀ (f' : Nat → List Value), VEq [VObj.arg (5 : TypeId) (1 : Nat) M.N M.f] [VObj.arg (5 : TypeId) (1 : Nat) M.N M.f] ∧
    Is (c = c ∧
    (0 : Nat) < c) ∧
    Cnt (cnt (12 : Int) M.a M.n (↑M.L : Int) M.sz M.b = (↑c : Int))))
    (bsplit (M.n != M.sz) (((1 : Nat) = (1 : Nat) ∧
    Nat.succ (0 : Nat) ≤ (1 : Nat) ∧
    fitsN (1 : Nat) (176 : Nat)) ∧
    ∀ (f' : Nat → List Value), VEq [VObj.arg (5 : TypeId) (1 : Nat) M.N M.f] [VObj.arg (5 : TypeId) (1 : Nat) M.N M.f] ∧
    Is ((1 : Nat) = (1 : Nat) ∧
    (0 : Nat) < (1 : Nat)) ∧
    Cnt (cnt (12 : Int) M.a M.n (↑M.L : Int) M.sz M.b = (↑(1 : Nat) : Int))) (VEq [VObj.arg (5 : TypeId) (1 : Nat) M.N M.f] [VObj.arg (5 : TypeId) (1 : Nat) M.N M.f] ∧
    Cnt (cnt (12 : Int) M.a M.n (↑M.L : Int) M.sz M.b = (0 : Int))))) (by kernel_rfl) ?_
  by_cases hlt : M.n < M.sz
  · rw [if_pos hlt] at hcn
    have hp : Pre12 M := ⟨b1, b2, n1, hlt, s2, by rw [hcn] at few; omega⟩
    obtain ⟨f1, f2, f3, f4, f5, f6, f7⟩ := hp.facts
    obtain ⟨q1, q2, q3⟩ := tdq (x := M.sz - 1) (b := M.b) (m := 1048576) (by omega) (by omega) b1
    rw [w64 (M.sz - 1) (by omega), q1, w64 ((M.sz - 1) / M.b) (by omega)]
    have hA : At12 M ((M.sz - 1) / M.b - M.n / M.b + 1).toNat 0 ((M.sz - 1) / M.b) := ⟨by omega, by omega, fun _ => by omega, fun h => by omega⟩
    refine bsplit_iff.2 ⟨fun _ => ⟨by omega, ⟨⟨rfl, rfl, rfl, trivial⟩, ⟨rfl⟩, hA⟩, rfl, ⟨hp⟩, fun c g hc => bsplit_iff.2 ⟨fun _ => ?_, fun hn => ?_⟩⟩, fun h => absurd hlt (of_decide_eq_false h)⟩
    · obtain ⟨⟨hc1, hc2⟩⟩ := hc
      have hf := hp.few
      exact ⟨⟨rfl, rfl, trivial, ⟨by omega, by omega⟩⟩, fun f' => ⟨⟨rfl⟩, ⟨rfl, by omega⟩, ⟨by rw [hcn]; omega⟩⟩⟩
    · have : M.n = M.sz := by simpa using hn
      omega
  · rw [if_neg hlt] at hcn
    refine bsplit_iff.2 ⟨fun h => absurd (of_decide_eq_true h) hlt, fun _ => bsplit_iff.2 ⟨fun hn => ?_, fun hn => ?_⟩⟩
    · have hn : M.n ≠ M.sz := by simpa using hn
      exact ⟨⟨rfl, by decide, ⟨by omega, by omega⟩⟩, fun f' => ⟨⟨rfl⟩, ⟨rfl, by decide⟩, ⟨by rw [hcn, if_pos hn]; rfl⟩⟩⟩
    · have hn : M.n = M.sz := by simpa using hn
      exact ⟨⟨rfl⟩, ⟨by rw [hcn, if_neg (by omega)]⟩⟩
end Go.Fil
