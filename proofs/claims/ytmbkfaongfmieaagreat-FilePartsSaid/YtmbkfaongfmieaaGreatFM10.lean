/- FileParts: the list of parts: reading. -/
import Derived.Test.YtmbkfaongfmieaaGreatFM0
set_option linter.unusedSimpArgs false
set_option linter.unusedVariables false
set_option linter.unusedSectionVars false
set_option maxRecDepth 100000
namespace Go.Fil
open Go Go.X Go.Proofs
variable [WI]
def tm10 (M : Mk) (l : Value) (e i : Int) : List Value := [unk, unk, .int .i64 M.b, pt 1, pt 2, unk, unk, l, pt 3, pt 4, .int .i64 e, .int .i64 i] ++ List.replicate 327 unk
structure At10 (M : Mk) (E : Int) (k c : Nat) (i : Int) : Prop where
  hi : i = M.a / M.b + c
  hk : M.a < E → (E - 1) / M.b - M.a / M.b + 1 = k + c
  hz : ¬ M.a < E → k + c = 0
  few : k + c ≤ 4000
structure Pre10 (M : Mk) (E : Int) : Prop where
  b1 : 1 ≤ M.b
  b2 : M.b ≤ 4096
  a1 : 0 ≤ M.a
  a2 : M.a ≤ 1048576 * M.b
  e1 : 0 ≤ E
  e2 : E ≤ 1048576 * M.b
def J10 (M : Mk) (E : Int) (k : Nat) (S : VSt) : Prop :=
  match nth undef S.tmps 7, nth undef S.tmps 10, nth undef S.tmps 11 with
  | l, .int .i64 e, .int .i64 i => leQ (tm10 M l e i) S.tmps ∧ Is (e = E) ∧ okL M 10 l S.V fun c => At10 M E k c i
  | _, _, _ => False
def out10 (l : Value) : List Value := [unk, unk, unk, unk, unk, unk, unk, l] ++ List.replicate 331 unk
def K10 (M : Mk) (E : Int) (e : Exit) (S : VSt) : Prop :=
  match e with
  | .normal => eqT S.tmps (out10 (nth undef S.tmps 7)) ∧ okL M 10 (nth undef S.tmps 7) S.V fun c => Cnt (c = (if M.a < E then ((E - 1) / M.b - M.a / M.b + 1).toNat else 0))
  | _ => False
def ks10 (e : Exit) : List Nat := match e with | .normal => [2, 3, 4, 7, 8, 9, 10, 11] | _ => [7]
theorem At10.next {M : Mk} {E i : Int} {k c : Nat} (hp : Pre10 M E) (h : At10 M E k c i) (hlt : M.a < E) (hi : i ≤ (E - 1) / M.b) : k ≠ 0 ∧ At10 M E (k - 1) (c + 1) (i + 1) := by
  obtain ⟨h1, h2, h3, h4⟩ := h
  have h2 := h2 hlt
  refine ⟨by omega, ⟨by omega, fun _ => by omega, fun h => absurd hlt h, by omega⟩⟩
theorem At10.last {M : Mk} {E i : Int} {k c : Nat} (h : At10 M E k c i) (hi : M.a < E → ¬ i ≤ (E - 1) / M.b) : c = (if M.a < E then ((E - 1) / M.b - M.a / M.b + 1).toNat else 0) := by
  obtain ⟨h1, h2, h3, h4⟩ := h
  split
  · rename_i hlt
    have h2 := h2 hlt
    have hi := hi hlt
    omega
  · rename_i hlt
    have := h3 hlt
    omega
theorem At10.bd {M : Mk} {E i : Int} {k c : Nat} (hp : Pre10 M E) (h : At10 M E k c i) : 0 ≤ i ∧ i ≤ 1048576 + 4000 ∧ fitsN (c + 1) 176 := by
  obtain ⟨h1, h2, h3, h4⟩ := h
  obtain ⟨p1, p2, p3⟩ := tdq (x := M.a) (m := 1048576) hp.a1 hp.a2 hp.b1
  exact ⟨by omega, by omega, ⟨by omega, by omega⟩⟩
theorem r10a (M : Mk) (E i : Int) (k : Nat) (hp : Pre10 M E) (h : At10 M E k 0 i) :
    Does Tryz.prog (roundOf Tryz.f19 1) ⟨tm10 M (.slice none 0 0) E i, V5 M 10⟩ fun e S' => reshape 5 (selL S') (ks10 e) [] [] S' (roundR 1 (J10 M E) k (K10 M E) e) := by
  refine Does.shut (fun _ S' => blkT 7 S') ?_
  refine of_code (ctxG_ok (l := []) (cs := []) (bs := []) .nil .nil) (n := 300) .g ?_
  refine by_nf (B := bsplit (decide (M.a < E)) ((M.b = (0 : Int) → False) ∧
    bsplit (decide (i ≤ IntKind.i64.wrap ((IntKind.i64.wrap (E - (1 : Int))).tdiv M.b))) ((M.b = (0 : Int) → False) ∧
    bsplit (i == IntKind.i64.wrap (M.a.tdiv M.b)) ((M.b = (0 : Int) → False) ∧
    bsplit (i == IntKind.i64.wrap ((IntKind.i64.wrap (E - (1 : Int))).tdiv M.b)) (((1 : Nat) = (1 : Nat) ∧
    Nat.succ (0 : Nat) ≤ (1 : Nat) ∧
    fitsN (1 : Nat) (176 : Nat)) ∧
    ∀ (f' : Nat → List Value), (k = (0 : Nat) → False) ∧
    (Value.int IntKind.i64 M.b = Value.int IntKind.i64 M.b ∧
    Value.slice (some { block := (5 : Nat), off := { block := (7 : Nat), off := (1 : Nat), spot := some (0 : Nat) : Addr }.off, spot := some (0 : Nat) : Addr }) (1 : Nat) (0 : Nat) = Value.slice (some { block := (5 : Nat), off := { block := (7 : Nat), off := (1 : Nat), spot := some (0 : Nat) : Addr }.off, spot := some (0 : Nat) : Addr }) (1 : Nat) (0 : Nat) ∧
    Value.int IntKind.i64 E = Value.int IntKind.i64 E ∧
    Value.int IntKind.i64 (IntKind.i64.wrap (i + (1 : Int))) = Value.int IntKind.i64 (IntKind.i64.wrap (i + (1 : Int))) ∧
    True) ∧
    Is (E = E) ∧
    VIs M (10 : Int) [VObj.arg (5 : TypeId) (1 : Nat) M.N M.f, VObj.cells (49 : TypeId) [Value.int IntKind.i64 (10 : Int), Value.string M.nm, Value.string M.ot, Value.int IntKind.i64 M.f1, Value.int IntKind.i64 M.f2, Value.int IntKind.i64 M.n1, Value.int IntKind.i64 M.n2, Value.int IntKind.i64 M.a, Value.int IntKind.i64 M.n, Value.slice (some { block := (0 : Nat), off := { block := (0 : Nat), off := (3 : Nat), spot := some (0 : Nat) : Addr }.off, spot := some (0 : Nat) : Addr }) M.L (0 : Nat)], VObj.cells (40 : TypeId) [Value.string M.e0, Value.int IntKind.i64 M.g1, Value.int IntKind.i64 M.g2, Value.int IntKind.i64 M.sz], VObj.cells (49 : TypeId) [Value.int IntKind.i64 (8 : Int), Value.string { data := #[] : ByteArray }, Value.string { data := #[] : ByteArray }, Value.int IntKind.i64 M.g1, Value.int IntKind.i64 M.g2, Value.int IntKind.i64 (0 : Int), Value.int IntKind.i64 (0 : Int), Value.int IntKind.i64 (0 : Int), Value.int IntKind.i64 (0 : Int), Value.slice none (0 : Nat) (0 : Nat)], VObj.cells (49 : TypeId) [Value.int IntKind.i64 (9 : Int), Value.string { data := #[] : ByteArray }, Value.string { data := #[] : ByteArray }, Value.int IntKind.i64 M.g1, Value.int IntKind.i64 M.g2, Value.int IntKind.i64 (0 : Int), Value.int IntKind.i64 (0 : Int), Value.int IntKind.i64 (0 : Int), Value.int IntKind.i64 (0 : Int), Value.slice none (0 : Nat) (0 : Nat)]] ∧
    Is ((1 : Nat) = (1 : Nat) ∧
    (0 : Nat) < (1 : Nat)) ∧
    At10 M E (k - (1 : Nat)) (1 : Nat) (IntKind.i64.wrap (i + (1 : Int)))) (((1 : Nat) = (1 : Nat) ∧
    Nat.succ (0 : Nat) ≤ (1 : Nat) ∧
    fitsN (1 : Nat) (176 : Nat)) ∧
    ∀ (f' : Nat → List Value), (k = (0 : Nat) → False) ∧
    (Value.int IntKind.i64 M.b = Value.int IntKind.i64 M.b ∧
    Value.slice (some { block := (5 : Nat), off := { block := (7 : Nat), off := (1 : Nat), spot := some (0 : Nat) : Addr }.off, spot := some (0 : Nat) : Addr }) (1 : Nat) (0 : Nat) = Value.slice (some { block := (5 : Nat), off := { block := (7 : Nat), off := (1 : Nat), spot := some (0 : Nat) : Addr }.off, spot := some (0 : Nat) : Addr }) (1 : Nat) (0 : Nat) ∧
    Value.int IntKind.i64 E = Value.int IntKind.i64 E ∧
    Value.int IntKind.i64 (IntKind.i64.wrap (i + (1 : Int))) = Value.int IntKind.i64 (IntKind.i64.wrap (i + (1 : Int))) ∧
    True) ∧
    Is (E = E) ∧
    VIs M (10 : Int) [VObj.arg (5 : TypeId) (1 : Nat) M.N M.f, VObj.cells (49 : TypeId) [Value.int IntKind.i64 (10 : Int), Value.string M.nm, Value.string M.ot, Value.int IntKind.i64 M.f1, Value.int IntKind.i64 M.f2, Value.int IntKind.i64 M.n1, Value.int IntKind.i64 M.n2, Value.int IntKind.i64 M.a, Value.int IntKind.i64 M.n, Value.slice (some { block := (0 : Nat), off := { block := (0 : Nat), off := (3 : Nat), spot := some (0 : Nat) : Addr }.off, spot := some (0 : Nat) : Addr }) M.L (0 : Nat)], VObj.cells (40 : TypeId) [Value.string M.e0, Value.int IntKind.i64 M.g1, Value.int IntKind.i64 M.g2, Value.int IntKind.i64 M.sz], VObj.cells (49 : TypeId) [Value.int IntKind.i64 (8 : Int), Value.string { data := #[] : ByteArray }, Value.string { data := #[] : ByteArray }, Value.int IntKind.i64 M.g1, Value.int IntKind.i64 M.g2, Value.int IntKind.i64 (0 : Int), Value.int IntKind.i64 (0 : Int), Value.int IntKind.i64 (0 : Int), Value.int IntKind.i64 (0 : Int), Value.slice none (0 : Nat) (0 : Nat)], VObj.cells (49 : TypeId) [Value.int IntKind.i64 (9 : Int), Value.string { data := #[] : ByteArray }, Value.string { data := #[] : ByteArray }, Value.int IntKind.i64 M.g1, Value.int IntKind.i64 M.g2, Value.int IntKind.i64 (0 : Int), Value.int IntKind.i64 (0 : Int), Value.int IntKind.i64 (0 : Int), Value.int IntKind.i64 (0 : Int), Value.slice none (0 : Nat) (0 : Nat)]] ∧
    Is ((1 : Nat) = (1 : Nat) ∧
    (0 : Nat) < (1 : Nat)) ∧
    At10 M E (k - (1 : Nat)) (1 : Nat) (IntKind.i64.wrap (i + (1 : Int))))) ((M.b = (0 : Int) → False) ∧
    bsplit (i == IntKind.i64.wrap ((IntKind.i64.wrap (E - (1 : Int))).tdiv M.b)) (((1 : Nat) = (1 : Nat) ∧
    Nat.succ (0 : Nat) ≤ (1 : Nat) ∧
    fitsN (1 : Nat) (176 : Nat)) ∧
    ∀ (f' : Nat → List Value), (k = (0 : Nat) → False) ∧
    (Value.int IntKind.i64 M.b = Value.int IntKind.i64 M.b ∧
    Value.slice (some { block := (5 : Nat), off := { block := (7 : Nat), off := (1 : Nat), spot := some (0 : Nat) : Addr }.off, spot := some (0 : Nat) : Addr }) (1 : Nat) (0 : Nat) = Value.slice (some { block := (5 : Nat), off := { block := (7 : Nat), off := (1 : Nat), spot := some (0 : Nat) : Addr }.off, spot := some (0 : Nat) : Addr }) (1 : Nat) (0 : Nat) ∧
    Value.int IntKind.i64 E = Value.int IntKind.i64 E ∧
    Value.int IntKind.i64 (IntKind.i64.wrap (i + (1 : Int))) = Value.int IntKind.i64 (IntKind.i64.wrap (i + (1 : Int))) ∧
    True) ∧
    Is (E = E) ∧
    VIs M (10 : Int) [VObj.arg (5 : TypeId) (1 : Nat) M.N M.f, VObj.cells (49 : TypeId) [Value.int IntKind.i64 (10 : Int), Value.string M.nm, Value.string M.ot, Value.int IntKind.i64 M.f1, Value.int IntKind.i64 M.f2, Value.int IntKind.i64 M.n1, Value.int IntKind.i64 M.n2, Value.int IntKind.i64 M.a, Value.int IntKind.i64 M.n, Value.slice (some { block := (0 : Nat), off := { block := (0 : Nat), off := (3 : Nat), spot := some (0 : Nat) : Addr }.off, spot := some (0 : Nat) : Addr }) M.L (0 : Nat)], VObj.cells (40 : TypeId) [Value.string M.e0, Value.int IntKind.i64 M.g1, Value.int IntKind.i64 M.g2, Value.int IntKind.i64 M.sz], VObj.cells (49 : TypeId) [Value.int IntKind.i64 (8 : Int), Value.string { data := #[] : ByteArray }, Value.string { data := #[] : ByteArray }, Value.int IntKind.i64 M.g1, Value.int IntKind.i64 M.g2, Value.int IntKind.i64 (0 : Int), Value.int IntKind.i64 (0 : Int), Value.int IntKind.i64 (0 : Int), Value.int IntKind.i64 (0 : Int), Value.slice none (0 : Nat) (0 : Nat)], VObj.cells (49 : TypeId) [Value.int IntKind.i64 (9 : Int), Value.string { data := #[] : ByteArray }, Value.string { data := #[] : ByteArray }, Value.int IntKind.i64 M.g1, Value.int IntKind.i64 M.g2, Value.int IntKind.i64 (0 : Int), Value.int IntKind.i64 (0 : Int), Value.int IntKind.i64 (0 : Int), Value.int IntKind.i64 (0 : Int), Value.slice none (0 : Nat) (0 : Nat)]] ∧
    Is ((1 : Nat) = (1 : Nat) ∧
    (0 : Nat) < (1 : Nat)) ∧
    At10 M E (k - (1 : Nat)) (1 : Nat) (IntKind.i64.wrap (i + (1 : Int)))) (((1 : Nat) = (1 : Nat) ∧
    Nat.succ (0 : Nat) ≤ (1 : Nat) ∧
    fitsN (1 : Nat) (176 : Nat)) ∧
    ∀ (f' : Nat → List Value), (k = (0 : Nat) → False) ∧
    (Value.int IntKind.i64 M.b = Value.int IntKind.i64 M.b ∧
    Value.slice (some { block := (5 : Nat), off := { block := (7 : Nat), off := (1 : Nat), spot := some (0 : Nat) : Addr }.off, spot := some (0 : Nat) : Addr }) (1 : Nat) (0 : Nat) = Value.slice (some { block := (5 : Nat), off := { block := (7 : Nat), off := (1 : Nat), spot := some (0 : Nat) : Addr }.off, spot := some (0 : Nat) : Addr }) (1 : Nat) (0 : Nat) ∧
    Value.int IntKind.i64 E = Value.int IntKind.i64 E ∧
    Value.int IntKind.i64 (IntKind.i64.wrap (i + (1 : Int))) = Value.int IntKind.i64 (IntKind.i64.wrap (i + (1 : Int))) ∧
    True) ∧
    Is (E = E) ∧
    VIs M (10 : Int) [VObj.arg (5 : TypeId) (1 : Nat) M.N M.f, VObj.cells (49 : TypeId) [Value.int IntKind.i64 (10 : Int), Value.string M.nm, Value.string M.ot, Value.int IntKind.i64 M.f1, Value.int IntKind.i64 M.f2, Value.int IntKind.i64 M.n1, Value.int IntKind.i64 M.n2, Value.int IntKind.i64 M.a, Value.int IntKind.i64 M.n, Value.slice (some { block := (0 : Nat), off := { block := (0 : Nat), off := (3 : Nat), spot := some (0 : Nat) : Addr }.off, spot := some (0 : Nat) : Addr }) M.L (0 : Nat)], VObj.cells (40 : TypeId) [Value.string M.e0, Value.int IntKind.i64 M.g1, Value.int IntKind.i64 M.g2, Value.int IntKind.i64 M.sz], VObj.cells (49 : TypeId) [Value.int IntKind.i64 (8 : Int), Value.string { data := #[] : ByteArray }, Value.string { data := #[] : ByteArray }, Value.int IntKind.i64 M.g1, Value.int IntKind.i64 M.g2, Value.int IntKind.i64 (0 : Int), Value.int IntKind.i64 (0 : Int), Value.int IntKind.i64 (0 : Int), Value.int IntKind.i64 (0 : Int), Value.slice none (0 : Nat) (0 : Nat)], VObj.cells (49 : TypeId) [Value.int IntKind.i64 (9 : Int), Value.string { data := #[] : ByteArray }, Value.string { data := #[] : ByteArray }, Value.int IntKind.i64 M.g1, Value.int IntKind.i64 M.g2, Value.int IntKind.i64 (0 : Int), Value.int IntKind.i64 (0 : Int), Value.int IntKind.i64 (0 : Int), Value.int IntKind.i64 (0 : Int), Value.slice none (0 : Nat) (0 : Nat)]] ∧
    Is ((1 : Nat) = (1 : Nat) ∧
    (0 : Nat) < (1 : Nat)) ∧
    At10 M E (k - (1 : Nat)) (1 : Nat) (IntKind.i64.wrap (i + (1 : Int)))))) ((Value.slice none (0 : Nat) (0 : Nat) = Value.slice none (0 : Nat) (0 : Nat) ∧
    True) ∧
    VIs M (10 : Int) [VObj.arg (5 : TypeId) (1 : Nat) M.N M.f, VObj.cells (49 : TypeId) [Value.int IntKind.i64 (10 : Int), Value.string M.nm, Value.string M.ot, Value.int IntKind.i64 M.f1, Value.int IntKind.i64 M.f2, Value.int IntKind.i64 M.n1, Value.int IntKind.i64 M.n2, Value.int IntKind.i64 M.a, Value.int IntKind.i64 M.n, Value.slice (some { block := (0 : Nat), off := { block := (0 : Nat), off := (3 : Nat), spot := some (0 : Nat) : Addr }.off, spot := some (0 : Nat) : Addr }) M.L (0 : Nat)], VObj.cells (40 : TypeId) [Value.string M.e0, Value.int IntKind.i64 M.g1, Value.int IntKind.i64 M.g2, Value.int IntKind.i64 M.sz], VObj.cells (49 : TypeId) [Value.int IntKind.i64 (8 : Int), Value.string { data := #[] : ByteArray }, Value.string { data := #[] : ByteArray }, Value.int IntKind.i64 M.g1, Value.int IntKind.i64 M.g2, Value.int IntKind.i64 (0 : Int), Value.int IntKind.i64 (0 : Int), Value.int IntKind.i64 (0 : Int), Value.int IntKind.i64 (0 : Int), Value.slice none (0 : Nat) (0 : Nat)], VObj.cells (49 : TypeId) [Value.int IntKind.i64 (9 : Int), Value.string { data := #[] : ByteArray }, Value.string { data := #[] : ByteArray }, Value.int IntKind.i64 M.g1, Value.int IntKind.i64 M.g2, Value.int IntKind.i64 (0 : Int), Value.int IntKind.i64 (0 : Int), Value.int IntKind.i64 (0 : Int), Value.int IntKind.i64 (0 : Int), Value.slice none (0 : Nat) (0 : Nat)]] ∧
    Cnt ((0 : Nat) = if M.a < E then ((E - (1 : Int)) / M.b - M.a / M.b + (1 : Int)).toNat else (0 : Nat)))) ((Value.slice none (0 : Nat) (0 : Nat) = Value.slice none (0 : Nat) (0 : Nat) ∧
    True) ∧
    VIs M (10 : Int) [VObj.arg (5 : TypeId) (1 : Nat) M.N M.f, VObj.cells (49 : TypeId) [Value.int IntKind.i64 (10 : Int), Value.string M.nm, Value.string M.ot, Value.int IntKind.i64 M.f1, Value.int IntKind.i64 M.f2, Value.int IntKind.i64 M.n1, Value.int IntKind.i64 M.n2, Value.int IntKind.i64 M.a, Value.int IntKind.i64 M.n, Value.slice (some { block := (0 : Nat), off := { block := (0 : Nat), off := (3 : Nat), spot := some (0 : Nat) : Addr }.off, spot := some (0 : Nat) : Addr }) M.L (0 : Nat)], VObj.cells (40 : TypeId) [Value.string M.e0, Value.int IntKind.i64 M.g1, Value.int IntKind.i64 M.g2, Value.int IntKind.i64 M.sz], VObj.cells (49 : TypeId) [Value.int IntKind.i64 (8 : Int), Value.string { data := #[] : ByteArray }, Value.string { data := #[] : ByteArray }, Value.int IntKind.i64 M.g1, Value.int IntKind.i64 M.g2, Value.int IntKind.i64 (0 : Int), Value.int IntKind.i64 (0 : Int), Value.int IntKind.i64 (0 : Int), Value.int IntKind.i64 (0 : Int), Value.slice none (0 : Nat) (0 : Nat)], VObj.cells (49 : TypeId) [Value.int IntKind.i64 (9 : Int), Value.string { data := #[] : ByteArray }, Value.string { data := #[] : ByteArray }, Value.int IntKind.i64 M.g1, Value.int IntKind.i64 M.g2, Value.int IntKind.i64 (0 : Int), Value.int IntKind.i64 (0 : Int), Value.int IntKind.i64 (0 : Int), Value.int IntKind.i64 (0 : Int), Value.slice none (0 : Nat) (0 : Nat)]] ∧
    Cnt ((0 : Nat) = if M.a < E then ((E - (1 : Int)) / M.b - M.a / M.b + (1 : Int)).toNat else (0 : Nat)))) (by kernel_rfl) ?_
  obtain ⟨p1, p2, p3⟩ := tdq (x := M.a) (m := 1048576) hp.a1 hp.a2 hp.b1
  obtain ⟨b1, b2, b3⟩ := h.bd hp
  have := hp.b1; have := hp.b2; have := hp.a1; have := hp.e1; have := hp.e2
  rw [w64 (E - 1) (by omega), p1, w64 (M.a / M.b) (by omega), w64 (i + 1) (by omega)]
  by_cases hlt : M.a < E
  · obtain ⟨q1, q2, q3⟩ := tdq (x := E - 1) (b := M.b) (m := 1048576) (by omega) (by omega) hp.b1
    rw [q1, w64 ((E - 1) / M.b) (by omega)]
    refine bsplit_iff.2 ⟨fun _ => ⟨by omega, bsplit_iff.2 ⟨fun hi => ?_, fun hi => ?_⟩⟩, fun hn => absurd hlt (of_decide_eq_false hn)⟩
    · obtain ⟨hk, hA⟩ := h.next hp hlt (of_decide_eq_true hi)
      refine ⟨by omega, bsplit_iff.2 ⟨fun _ => ⟨by omega, bsplit_iff.2 ⟨fun _ => ?_, fun _ => ?_⟩⟩, fun _ => ⟨by omega, bsplit_iff.2 ⟨fun _ => ?_, fun _ => ?_⟩⟩⟩⟩
      all_goals exact ⟨⟨rfl, by decide, b3⟩, fun f' => ⟨hk, ⟨rfl, rfl, rfl, rfl, trivial⟩, ⟨rfl⟩, ⟨rfl⟩, ⟨rfl, by decide⟩, hA⟩⟩
    · exact ⟨⟨rfl, trivial⟩, ⟨rfl⟩, ⟨h.last fun _ => of_decide_eq_false hi⟩⟩
  · exact bsplit_iff.2 ⟨fun hn => absurd (of_decide_eq_true hn) hlt, fun _ => ⟨⟨rfl, trivial⟩, ⟨rfl⟩, ⟨h.last fun h => absurd h hlt⟩⟩⟩
theorem r10b (M : Mk) (E i : Int) (k c : Nat) (g : Nat → List Value) (hc : 0 < c) (hp : Pre10 M E) (h : At10 M E k c i) :
    Does Tryz.prog (roundOf Tryz.f19 1) ⟨tm10 M (lv c) E i, V5 M 10 ++ [.raw 126 16 c 0 g []]⟩ fun e S' => reshape 5 (selL S') (ks10 e) [] [] S' (roundR 1 (J10 M E) k (K10 M E) e) := by
  refine Does.shut (fun _ S' => blkT 7 S') ?_
  refine of_code (ctxG_ok (l := []) (cs := []) (bs := []) .nil .nil) (n := 300) .g ?_
  refine by_nf (B := bsplit (decide (M.a < E)) ((M.b = (0 : Int) → False) ∧
    bsplit (decide (i ≤ IntKind.i64.wrap ((IntKind.i64.wrap (E - (1 : Int))).tdiv M.b))) ((M.b = (0 : Int) → False) ∧
    bsplit (i == IntKind.i64.wrap (M.a.tdiv M.b)) ((M.b = (0 : Int) → False) ∧
    bsplit (i == IntKind.i64.wrap ((IntKind.i64.wrap (E - (1 : Int))).tdiv M.b)) (((1 : Nat) = (1 : Nat) ∧
    c = c ∧
    True ∧
    fitsN (c + (1 : Nat)) (176 : Nat)) ∧
    ∀ (f' : Nat → List Value), (k = (0 : Nat) → False) ∧
    (Value.int IntKind.i64 M.b = Value.int IntKind.i64 M.b ∧
    Value.slice (some { block := (5 : Nat), off := { block := (8 : Nat), off := (1 : Nat), spot := some (0 : Nat) : Addr }.off, spot := some (0 : Nat) : Addr }) (c + (1 : Nat)) (0 : Nat) = Value.slice (some { block := (5 : Nat), off := { block := (8 : Nat), off := (1 : Nat), spot := some (0 : Nat) : Addr }.off, spot := some (0 : Nat) : Addr }) (c + (1 : Nat)) (0 : Nat) ∧
    Value.int IntKind.i64 E = Value.int IntKind.i64 E ∧
    Value.int IntKind.i64 (IntKind.i64.wrap (i + (1 : Int))) = Value.int IntKind.i64 (IntKind.i64.wrap (i + (1 : Int))) ∧
    True) ∧
    Is (E = E) ∧
    VIs M (10 : Int) [VObj.arg (5 : TypeId) (1 : Nat) M.N M.f, VObj.cells (49 : TypeId) [Value.int IntKind.i64 (10 : Int), Value.string M.nm, Value.string M.ot, Value.int IntKind.i64 M.f1, Value.int IntKind.i64 M.f2, Value.int IntKind.i64 M.n1, Value.int IntKind.i64 M.n2, Value.int IntKind.i64 M.a, Value.int IntKind.i64 M.n, Value.slice (some { block := (0 : Nat), off := { block := (0 : Nat), off := (3 : Nat), spot := some (0 : Nat) : Addr }.off, spot := some (0 : Nat) : Addr }) M.L (0 : Nat)], VObj.cells (40 : TypeId) [Value.string M.e0, Value.int IntKind.i64 M.g1, Value.int IntKind.i64 M.g2, Value.int IntKind.i64 M.sz], VObj.cells (49 : TypeId) [Value.int IntKind.i64 (8 : Int), Value.string { data := #[] : ByteArray }, Value.string { data := #[] : ByteArray }, Value.int IntKind.i64 M.g1, Value.int IntKind.i64 M.g2, Value.int IntKind.i64 (0 : Int), Value.int IntKind.i64 (0 : Int), Value.int IntKind.i64 (0 : Int), Value.int IntKind.i64 (0 : Int), Value.slice none (0 : Nat) (0 : Nat)], VObj.cells (49 : TypeId) [Value.int IntKind.i64 (9 : Int), Value.string { data := #[] : ByteArray }, Value.string { data := #[] : ByteArray }, Value.int IntKind.i64 M.g1, Value.int IntKind.i64 M.g2, Value.int IntKind.i64 (0 : Int), Value.int IntKind.i64 (0 : Int), Value.int IntKind.i64 (0 : Int), Value.int IntKind.i64 (0 : Int), Value.slice none (0 : Nat) (0 : Nat)]] ∧
    Is (c + (1 : Nat) = c + (1 : Nat) ∧
    (0 : Nat) < c + (1 : Nat)) ∧
    At10 M E (k - (1 : Nat)) (c + (1 : Nat)) (IntKind.i64.wrap (i + (1 : Int)))) (((1 : Nat) = (1 : Nat) ∧
    c = c ∧
    True ∧
    fitsN (c + (1 : Nat)) (176 : Nat)) ∧
    ∀ (f' : Nat → List Value), (k = (0 : Nat) → False) ∧
    (Value.int IntKind.i64 M.b = Value.int IntKind.i64 M.b ∧
    Value.slice (some { block := (5 : Nat), off := { block := (8 : Nat), off := (1 : Nat), spot := some (0 : Nat) : Addr }.off, spot := some (0 : Nat) : Addr }) (c + (1 : Nat)) (0 : Nat) = Value.slice (some { block := (5 : Nat), off := { block := (8 : Nat), off := (1 : Nat), spot := some (0 : Nat) : Addr }.off, spot := some (0 : Nat) : Addr }) (c + (1 : Nat)) (0 : Nat) ∧
    Value.int IntKind.i64 E = Value.int IntKind.i64 E ∧
    Value.int IntKind.i64 (IntKind.i64.wrap (i + (1 : Int))) = Value.int IntKind.i64 (IntKind.i64.wrap (i + (1 : Int))) ∧
    True) ∧
    Is (E = E) ∧
    VIs M (10 : Int) [VObj.arg (5 : TypeId) (1 : Nat) M.N M.f, VObj.cells (49 : TypeId) [Value.int IntKind.i64 (10 : Int), Value.string M.nm, Value.string M.ot, Value.int IntKind.i64 M.f1, Value.int IntKind.i64 M.f2, Value.int IntKind.i64 M.n1, Value.int IntKind.i64 M.n2, Value.int IntKind.i64 M.a, Value.int IntKind.i64 M.n, Value.slice (some { block := (0 : Nat), off := { block := (0 : Nat), off := (3 : Nat), spot := some (0 : Nat) : Addr }.off, spot := some (0 : Nat) : Addr }) M.L (0 : Nat)], VObj.cells (40 : TypeId) [Value.string M.e0, Value.int IntKind.i64 M.g1, Value.int IntKind.i64 M.g2, Value.int IntKind.i64 M.sz], VObj.cells (49 : TypeId) [Value.int IntKind.i64 (8 : Int), Value.string { data := #[] : ByteArray }, Value.string { data := #[] : ByteArray }, Value.int IntKind.i64 M.g1, Value.int IntKind.i64 M.g2, Value.int IntKind.i64 (0 : Int), Value.int IntKind.i64 (0 : Int), Value.int IntKind.i64 (0 : Int), Value.int IntKind.i64 (0 : Int), Value.slice none (0 : Nat) (0 : Nat)], VObj.cells (49 : TypeId) [Value.int IntKind.i64 (9 : Int), Value.string { data := #[] : ByteArray }, Value.string { data := #[] : ByteArray }, Value.int IntKind.i64 M.g1, Value.int IntKind.i64 M.g2, Value.int IntKind.i64 (0 : Int), Value.int IntKind.i64 (0 : Int), Value.int IntKind.i64 (0 : Int), Value.int IntKind.i64 (0 : Int), Value.slice none (0 : Nat) (0 : Nat)]] ∧
    Is (c + (1 : Nat) = c + (1 : Nat) ∧
    (0 : Nat) < c + (1 : Nat)) ∧
    At10 M E (k - (1 : Nat)) (c + (1 : Nat)) (IntKind.i64.wrap (i + (1 : Int))))) ((M.b = (0 : Int) → False) ∧
    bsplit (i == IntKind.i64.wrap ((IntKind.i64.wrap (E - (1 : Int))).tdiv M.b)) (((1 : Nat) = (1 : Nat) ∧
    c = c ∧
    True ∧
    fitsN (c + (1 : Nat)) (176 : Nat)) ∧
    ∀ (f' : Nat → List Value), (k = (0 : Nat) → False) ∧
    (Value.int IntKind.i64 M.b = Value.int IntKind.i64 M.b ∧
    Value.slice (some { block := (5 : Nat), off := { block := (8 : Nat), off := (1 : Nat), spot := some (0 : Nat) : Addr }.off, spot := some (0 : Nat) : Addr }) (c + (1 : Nat)) (0 : Nat) = Value.slice (some { block := (5 : Nat), off := { block := (8 : Nat), off := (1 : Nat), spot := some (0 : Nat) : Addr }.off, spot := some (0 : Nat) : Addr }) (c + (1 : Nat)) (0 : Nat) ∧
    Value.int IntKind.i64 E = Value.int IntKind.i64 E ∧
    Value.int IntKind.i64 (IntKind.i64.wrap (i + (1 : Int))) = Value.int IntKind.i64 (IntKind.i64.wrap (i + (1 : Int))) ∧
    True) ∧
    Is (E = E) ∧
    VIs M (10 : Int) [VObj.arg (5 : TypeId) (1 : Nat) M.N M.f, VObj.cells (49 : TypeId) [Value.int IntKind.i64 (10 : Int), Value.string M.nm, Value.string M.ot, Value.int IntKind.i64 M.f1, Value.int IntKind.i64 M.f2, Value.int IntKind.i64 M.n1, Value.int IntKind.i64 M.n2, Value.int IntKind.i64 M.a, Value.int IntKind.i64 M.n, Value.slice (some { block := (0 : Nat), off := { block := (0 : Nat), off := (3 : Nat), spot := some (0 : Nat) : Addr }.off, spot := some (0 : Nat) : Addr }) M.L (0 : Nat)], VObj.cells (40 : TypeId) [Value.string M.e0, Value.int IntKind.i64 M.g1, Value.int IntKind.i64 M.g2, Value.int IntKind.i64 M.sz], VObj.cells (49 : TypeId) [Value.int IntKind.i64 (8 : Int), Value.string { data := #[] : ByteArray }, Value.string { data := #[] : ByteArray }, Value.int IntKind.i64 M.g1, Value.int IntKind.i64 M.g2, Value.int IntKind.i64 (0 : Int), Value.int IntKind.i64 (0 : Int), Value.int IntKind.i64 (0 : Int), Value.int IntKind.i64 (0 : Int), Value.slice none (0 : Nat) (0 : Nat)], VObj.cells (49 : TypeId) [Value.int IntKind.i64 (9 : Int), Value.string { data := #[] : ByteArray }, Value.string { data := #[] : ByteArray }, Value.int IntKind.i64 M.g1, Value.int IntKind.i64 M.g2, Value.int IntKind.i64 (0 : Int), Value.int IntKind.i64 (0 : Int), Value.int IntKind.i64 (0 : Int), Value.int IntKind.i64 (0 : Int), Value.slice none (0 : Nat) (0 : Nat)]] ∧
    Is (c + (1 : Nat) = c + (1 : Nat) ∧
    (0 : Nat) < c + (1 : Nat)) ∧
    At10 M E (k - (1 : Nat)) (c + (1 : Nat)) (IntKind.i64.wrap (i + (1 : Int)))) (((1 : Nat) = (1 : Nat) ∧
    c = c ∧
    True ∧
    fitsN (c + (1 : Nat)) (176 : Nat)) ∧
    ∀ (f' : Nat → List Value), (k = (0 : Nat) → False) ∧
    (Value.int IntKind.i64 M.b = Value.int IntKind.i64 M.b ∧
    Value.slice (some { block := (5 : Nat), off := { block := (8 : Nat), off := (1 : Nat), spot := some (0 : Nat) : Addr }.off, spot := some (0 : Nat) : Addr }) (c + (1 : Nat)) (0 : Nat) = Value.slice (some { block := (5 : Nat), off := { block := (8 : Nat), off := (1 : Nat), spot := some (0 : Nat) : Addr }.off, spot := some (0 : Nat) : Addr }) (c + (1 : Nat)) (0 : Nat) ∧
    Value.int IntKind.i64 E = Value.int IntKind.i64 E ∧
    Value.int IntKind.i64 (IntKind.i64.wrap (i + (1 : Int))) = Value.int IntKind.i64 (IntKind.i64.wrap (i + (1 : Int))) ∧
    True) ∧
    Is (E = E) ∧
    VIs M (10 : Int) [VObj.arg (5 : TypeId) (1 : Nat) M.N M.f, VObj.cells (49 : TypeId) [Value.int IntKind.i64 (10 : Int), Value.string M.nm, Value.string M.ot, Value.int IntKind.i64 M.f1, Value.int IntKind.i64 M.f2, Value.int IntKind.i64 M.n1, Value.int IntKind.i64 M.n2, Value.int IntKind.i64 M.a, Value.int IntKind.i64 M.n, Value.slice (some { block := (0 : Nat), off := { block := (0 : Nat), off := (3 : Nat), spot := some (0 : Nat) : Addr }.off, spot := some (0 : Nat) : Addr }) M.L (0 : Nat)], VObj.cells (40 : TypeId) [Value.string M.e0, Value.int IntKind.i64 M.g1, Value.int IntKind.i64 M.g2, Value.int IntKind.i64 M.sz], VObj.cells (49 : TypeId) [Value.int IntKind.i64 (8 : Int), Value.string { data := #[] : ByteArray }, Value.string { data := #[] : ByteArray }, Value.int IntKind.i64 M.g1, Value.int IntKind.i64 M.g2, Value.int IntKind.i64 (0 : Int), Value.int IntKind.i64 (0 : Int), Value.int IntKind.i64 (0 : Int), Value.int IntKind.i64 (0 : Int), Value.slice none (0 : Nat) (0 : Nat)], VObj.cells (49 : TypeId) [Value.int IntKind.i64 (9 : Int), Value.string { data := #[] : ByteArray }, Value.string { data := #[] : ByteArray }, Value.int IntKind.i64 M.g1, Value.int IntKind.i64 M.g2, Value.int IntKind.i64 (0 : Int), Value.int IntKind.i64 (0 : Int), Value.int IntKind.i64 (0 : Int), Value.int IntKind.i64 (0 : Int), Value.slice none (0 : Nat) (0 : Nat)]] ∧
    Is (c + (1 : Nat) = c + (1 : Nat) ∧
    (0 : Nat) < c + (1 : Nat)) ∧
    At10 M E (k - (1 : Nat)) (c + (1 : Nat)) (IntKind.i64.wrap (i + (1 : Int)))))) (∀ (f' : Nat → List Value), (Value.slice (some { block := (5 : Nat), off := { block := (5 : Nat), off := (1 : Nat), spot := some (0 : Nat) : Addr }.off, spot := some (0 : Nat) : Addr }) c (0 : Nat) = Value.slice (some { block := (5 : Nat), off := { block := (5 : Nat), off := (1 : Nat), spot := some (0 : Nat) : Addr }.off, spot := some (0 : Nat) : Addr }) c (0 : Nat) ∧
    True) ∧
    VIs M (10 : Int) [VObj.arg (5 : TypeId) (1 : Nat) M.N M.f, VObj.cells (49 : TypeId) [Value.int IntKind.i64 (10 : Int), Value.string M.nm, Value.string M.ot, Value.int IntKind.i64 M.f1, Value.int IntKind.i64 M.f2, Value.int IntKind.i64 M.n1, Value.int IntKind.i64 M.n2, Value.int IntKind.i64 M.a, Value.int IntKind.i64 M.n, Value.slice (some { block := (0 : Nat), off := { block := (0 : Nat), off := (3 : Nat), spot := some (0 : Nat) : Addr }.off, spot := some (0 : Nat) : Addr }) M.L (0 : Nat)], VObj.cells (40 : TypeId) [Value.string M.e0, Value.int IntKind.i64 M.g1, Value.int IntKind.i64 M.g2, Value.int IntKind.i64 M.sz], VObj.cells (49 : TypeId) [Value.int IntKind.i64 (8 : Int), Value.string { data := #[] : ByteArray }, Value.string { data := #[] : ByteArray }, Value.int IntKind.i64 M.g1, Value.int IntKind.i64 M.g2, Value.int IntKind.i64 (0 : Int), Value.int IntKind.i64 (0 : Int), Value.int IntKind.i64 (0 : Int), Value.int IntKind.i64 (0 : Int), Value.slice none (0 : Nat) (0 : Nat)], VObj.cells (49 : TypeId) [Value.int IntKind.i64 (9 : Int), Value.string { data := #[] : ByteArray }, Value.string { data := #[] : ByteArray }, Value.int IntKind.i64 M.g1, Value.int IntKind.i64 M.g2, Value.int IntKind.i64 (0 : Int), Value.int IntKind.i64 (0 : Int), Value.int IntKind.i64 (0 : Int), Value.int IntKind.i64 (0 : Int), Value.slice none (0 : Nat) (0 : Nat)]] ∧
    Is (c = c ∧
    (0 : Nat) < c) ∧
    Cnt (c = if M.a < E then ((E - (1 : Int)) / M.b - M.a / M.b + (1 : Int)).toNat else (0 : Nat)))) (∀ (f' : Nat → List Value), (Value.slice (some { block := (5 : Nat), off := { block := (5 : Nat), off := (1 : Nat), spot := some (0 : Nat) : Addr }.off, spot := some (0 : Nat) : Addr }) c (0 : Nat) = Value.slice (some { block := (5 : Nat), off := { block := (5 : Nat), off := (1 : Nat), spot := some (0 : Nat) : Addr }.off, spot := some (0 : Nat) : Addr }) c (0 : Nat) ∧
    True) ∧
    VIs M (10 : Int) [VObj.arg (5 : TypeId) (1 : Nat) M.N M.f, VObj.cells (49 : TypeId) [Value.int IntKind.i64 (10 : Int), Value.string M.nm, Value.string M.ot, Value.int IntKind.i64 M.f1, Value.int IntKind.i64 M.f2, Value.int IntKind.i64 M.n1, Value.int IntKind.i64 M.n2, Value.int IntKind.i64 M.a, Value.int IntKind.i64 M.n, Value.slice (some { block := (0 : Nat), off := { block := (0 : Nat), off := (3 : Nat), spot := some (0 : Nat) : Addr }.off, spot := some (0 : Nat) : Addr }) M.L (0 : Nat)], VObj.cells (40 : TypeId) [Value.string M.e0, Value.int IntKind.i64 M.g1, Value.int IntKind.i64 M.g2, Value.int IntKind.i64 M.sz], VObj.cells (49 : TypeId) [Value.int IntKind.i64 (8 : Int), Value.string { data := #[] : ByteArray }, Value.string { data := #[] : ByteArray }, Value.int IntKind.i64 M.g1, Value.int IntKind.i64 M.g2, Value.int IntKind.i64 (0 : Int), Value.int IntKind.i64 (0 : Int), Value.int IntKind.i64 (0 : Int), Value.int IntKind.i64 (0 : Int), Value.slice none (0 : Nat) (0 : Nat)], VObj.cells (49 : TypeId) [Value.int IntKind.i64 (9 : Int), Value.string { data := #[] : ByteArray }, Value.string { data := #[] : ByteArray }, Value.int IntKind.i64 M.g1, Value.int IntKind.i64 M.g2, Value.int IntKind.i64 (0 : Int), Value.int IntKind.i64 (0 : Int), Value.int IntKind.i64 (0 : Int), Value.int IntKind.i64 (0 : Int), Value.slice none (0 : Nat) (0 : Nat)]] ∧
    Is (c = c ∧
    (0 : Nat) < c) ∧
    Cnt (c = if M.a < E then ((E - (1 : Int)) / M.b - M.a / M.b + (1 : Int)).toNat else (0 : Nat)))) (by kernel_rfl) ?_
  obtain ⟨p1, p2, p3⟩ := tdq (x := M.a) (m := 1048576) hp.a1 hp.a2 hp.b1
  obtain ⟨b1, b2, b3⟩ := h.bd hp
  have := hp.b1; have := hp.b2; have := hp.a1; have := hp.e1; have := hp.e2
  rw [w64 (E - 1) (by omega), p1, w64 (M.a / M.b) (by omega), w64 (i + 1) (by omega)]
  by_cases hlt : M.a < E
  · obtain ⟨q1, q2, q3⟩ := tdq (x := E - 1) (b := M.b) (m := 1048576) (by omega) (by omega) hp.b1
    rw [q1, w64 ((E - 1) / M.b) (by omega)]
    refine bsplit_iff.2 ⟨fun _ => ⟨by omega, bsplit_iff.2 ⟨fun hi => ?_, fun hi => ?_⟩⟩, fun hn => absurd hlt (of_decide_eq_false hn)⟩
    · obtain ⟨hk, hA⟩ := h.next hp hlt (of_decide_eq_true hi)
      refine ⟨by omega, bsplit_iff.2 ⟨fun _ => ⟨by omega, bsplit_iff.2 ⟨fun _ => ?_, fun _ => ?_⟩⟩, fun _ => ⟨by omega, bsplit_iff.2 ⟨fun _ => ?_, fun _ => ?_⟩⟩⟩⟩
      all_goals exact ⟨⟨rfl, rfl, trivial, b3⟩, fun f' => ⟨hk, ⟨rfl, rfl, rfl, rfl, trivial⟩, ⟨rfl⟩, ⟨rfl⟩, ⟨rfl, by omega⟩, hA⟩⟩
    · exact fun f' => ⟨⟨rfl, trivial⟩, ⟨rfl⟩, ⟨rfl, hc⟩, ⟨h.last fun _ => of_decide_eq_false hi⟩⟩
  · exact bsplit_iff.2 ⟨fun hn => absurd (of_decide_eq_true hn) hlt, fun _ => fun f' => ⟨⟨rfl, trivial⟩, ⟨rfl⟩, ⟨rfl, hc⟩, ⟨h.last fun h => absurd h hlt⟩⟩⟩
theorem J10_eq {M : Mk} {E : Int} {k : Nat} {S : VSt} (h : J10 M E k S) : ∃ l i, leT (tm10 M l E i) S.tmps ∧ okL M 10 l S.V fun c => At10 M E k c i := by
  unfold J10 at h
  split at h
  · obtain ⟨h1, ⟨rfl⟩, h3⟩ := h
    exact ⟨_, _, leQ_le h1, h3⟩
  · exact h.elim
/-- how many parts reading has -/
def cn10 (M : Mk) (E : Int) : Nat := if M.a < E then ((E - 1) / M.b - M.a / M.b + 1).toNat else 0
/-- the loop of reading -/
def B10 (M : Mk) (E : Int) : BlkS := fun S K =>
  reshape S.V.length (selL S) (ks10 .normal) [] [] S (J10 M E (cn10 M E)) ∧ S.V.length = 5 ∧
  (Is (cn10 M E = 0) → K .normal ⟨out10 (.slice none 0 0), V5 M 10⟩) ∧ ∀ c g, Is (cn10 M E = c ∧ 0 < c) → K .normal ⟨out10 (lv c), V5 M 10 ++ [.raw 126 16 c 0 g []]⟩
theorem l10 (M : Mk) (E : Int) (hp : Pre10 M E) (S : VSt) (K : Exit → VSt → Prop) (hB : B10 M E S K) : Does Tryz.prog (.block 1 (.loop (roundOf Tryz.f19 1))) S K := by
  obtain ⟨h1, h2, h3, h4⟩ := hB
  refine Does.mono (Does.loopR (K := K10 M E) ks10 (fun _ S' => selL S') [] [] (J10 M E) S (reshape_mono (fun S hS => ⟨_, hS⟩) h1) fun k S' hJ => ?_) fun e S' hK => ?_
  · obtain ⟨l, i, ht, hL⟩ := J10_eq hJ
    rw [h2]
    rcases okL_eq hL with ⟨rfl, hV, hA⟩ | ⟨c, g, hc, rfl, hV, hA⟩
    · exact Does.weaken (r10a M E i k hp hA) ht hV.symm (.of rfl (V5_sc M 10))
    · exact Does.weaken (r10b M E i k c g hc hp hA) ht hV.symm (.of rfl (V6_sc M 10 c g))
  · cases e with
    | normal =>
      obtain ⟨hT, hL⟩ := hK
      have hT := eqT_eq hT
      obtain ⟨T, V⟩ := S'
      change okL M 10 (nth undef T 7) V _ at hL
      change T = _ at hT
      rcases okL_eq hL with ⟨h5, rfl, ⟨hA⟩⟩ | ⟨c, g, hc, h5, rfl, ⟨hA⟩⟩
      · rw [h5] at hT; subst hT; exact h3 ⟨hA.symm⟩
      · rw [h5] at hT; subst hT; exact h4 c g ⟨hA.symm, hc⟩
    | _ => exact hK.elim
theorem mk10 (M : Mk) (hp : MkPre 10 M.a M.n M.L M.sz M.b) : CallDoes Tryz.prog 19 (mkArgs M 10) [.arg 5 1 M.N M.f] (mkR M (cnt 10 M.a M.n M.L M.sz M.b)) := by
  obtain ⟨⟨_, b1, b2, s1, s2, hk, _, _⟩, few⟩ := hp
  obtain ⟨a1, n1, an⟩ := hk rfl
  have hE : ∃ E : Int, E = (if M.sz < M.a + M.n then M.sz else M.a + M.n) := ⟨_, rfl⟩
  obtain ⟨E, hE⟩ := hE
  have hpre : Pre10 M E := ⟨b1, b2, a1, by omega, by rw [hE]; split <;> omega, by rw [hE]; split <;> omega⟩
  have hcn : cnt 10 M.a M.n M.L M.sz M.b = (cn10 M E : Int) := by
    unfold cnt cn10
    simp only [if_pos, ← hE]
    split
    · rename_i hlt
      have := divle b1 (show M.a ≤ E - 1 by omega)
      omega
    · rfl
  refine CallDoes.reshape mkSel [] [] ?_
  refine CallDoes.shut blkV ?_
  refine of_run (ctxG_ok (l := []) (cs := []) (bs := [(1, B10 M E)]) .nil .nil) (n := 400) Tryz.func19 rfl (.one rfl rfl (l10 M E hpre)) ?_
  refine by_nf (B := bsplit (decide (M.sz < IntKind.i64.wrap (M.a + M.n))) ((M.b = (0 : Int) → False) ∧
    ((Value.int IntKind.i64 M.b = Value.int IntKind.i64 M.b ∧
    Value.slice none (0 : Nat) (0 : Nat) = Value.slice none (0 : Nat) (0 : Nat) ∧
    Value.int IntKind.i64 M.sz = Value.int IntKind.i64 M.sz ∧
    Value.int IntKind.i64 (IntKind.i64.wrap (M.a.tdiv M.b)) = Value.int IntKind.i64 (IntKind.i64.wrap (M.a.tdiv M.b)) ∧
    True) ∧
    Is (M.sz = E) ∧
    VIs M (10 : Int) [VObj.arg (5 : TypeId) (1 : Nat) M.N M.f, VObj.cells (49 : Nat) [Value.int IntKind.i64 (10 : Int), Value.string M.nm, Value.string M.ot, Value.int IntKind.i64 M.f1, Value.int IntKind.i64 M.f2, Value.int IntKind.i64 M.n1, Value.int IntKind.i64 M.n2, Value.int IntKind.i64 M.a, Value.int IntKind.i64 M.n, Value.slice (some { block := (0 : Nat), off := { block := (0 : Nat), off := (3 : Nat), spot := some (0 : Nat) : Addr }.off, spot := some (0 : Nat) : Addr }) M.L (0 : Nat)], VObj.cells (40 : Nat) [Value.string M.e0, Value.int IntKind.i64 M.g1, Value.int IntKind.i64 M.g2, Value.int IntKind.i64 M.sz], VObj.cells (49 : Nat) [Value.int IntKind.i64 (8 : Int), Value.string { data := #[] : ByteArray }, Value.string { data := #[] : ByteArray }, Value.int IntKind.i64 M.g1, Value.int IntKind.i64 M.g2, Value.int IntKind.i64 (0 : Int), Value.int IntKind.i64 (0 : Int), Value.int IntKind.i64 (0 : Int), Value.int IntKind.i64 (0 : Int), Value.slice none (0 : Nat) (0 : Nat)], VObj.cells (49 : Nat) [Value.int IntKind.i64 (9 : Int), Value.string { data := #[] : ByteArray }, Value.string { data := #[] : ByteArray }, Value.int IntKind.i64 M.g1, Value.int IntKind.i64 M.g2, Value.int IntKind.i64 (0 : Int), Value.int IntKind.i64 (0 : Int), Value.int IntKind.i64 (0 : Int), Value.int IntKind.i64 (0 : Int), Value.slice none (0 : Nat) (0 : Nat)]] ∧
    At10 M E (cn10 M E) (0 : Nat) (IntKind.i64.wrap (M.a.tdiv M.b))) ∧
    (5 : Nat) = (5 : Nat) ∧
    (Is (cn10 M E = (0 : Nat)) → VEq [VObj.arg (5 : TypeId) (1 : Nat) M.N M.f] [VObj.arg (5 : TypeId) (1 : Nat) M.N M.f] ∧
    Cnt (cnt (10 : Int) M.a M.n (↑M.L : Int) M.sz M.b = (0 : Int))) ∧
    ∀ (c : Nat) (g : Nat → List Value), Is (cn10 M E = c ∧
    (0 : Nat) < c) → ∀ (f' : Nat → List Value), VEq [VObj.arg (5 : TypeId) (1 : Nat) M.N M.f] [VObj.arg (5 : TypeId) (1 : Nat) M.N M.f] ∧
    Is (c = c ∧
    (0 : Nat) < c) ∧
    Cnt (cnt (10 : Int) M.a M.n (↑M.L : Int) M.sz M.b = (↑c : Int))) ((M.b = (0 : Int) → False) ∧
    ((Value.int IntKind.i64 M.b = Value.int IntKind.i64 M.b ∧
    Value.slice none (0 : Nat) (0 : Nat) = Value.slice none (0 : Nat) (0 : Nat) ∧
    Value.int IntKind.i64 (IntKind.i64.wrap (M.a + M.n)) = Value.int IntKind.i64 (IntKind.i64.wrap (M.a + M.n)) ∧
    Value.int IntKind.i64 (IntKind.i64.wrap (M.a.tdiv M.b)) = Value.int IntKind.i64 (IntKind.i64.wrap (M.a.tdiv M.b)) ∧
    True) ∧
    Is (IntKind.i64.wrap (M.a + M.n) = E) ∧
    VIs M (10 : Int) [VObj.arg (5 : TypeId) (1 : Nat) M.N M.f, VObj.cells (49 : Nat) [Value.int IntKind.i64 (10 : Int), Value.string M.nm, Value.string M.ot, Value.int IntKind.i64 M.f1, Value.int IntKind.i64 M.f2, Value.int IntKind.i64 M.n1, Value.int IntKind.i64 M.n2, Value.int IntKind.i64 M.a, Value.int IntKind.i64 M.n, Value.slice (some { block := (0 : Nat), off := { block := (0 : Nat), off := (3 : Nat), spot := some (0 : Nat) : Addr }.off, spot := some (0 : Nat) : Addr }) M.L (0 : Nat)], VObj.cells (40 : Nat) [Value.string M.e0, Value.int IntKind.i64 M.g1, Value.int IntKind.i64 M.g2, Value.int IntKind.i64 M.sz], VObj.cells (49 : Nat) [Value.int IntKind.i64 (8 : Int), Value.string { data := #[] : ByteArray }, Value.string { data := #[] : ByteArray }, Value.int IntKind.i64 M.g1, Value.int IntKind.i64 M.g2, Value.int IntKind.i64 (0 : Int), Value.int IntKind.i64 (0 : Int), Value.int IntKind.i64 (0 : Int), Value.int IntKind.i64 (0 : Int), Value.slice none (0 : Nat) (0 : Nat)], VObj.cells (49 : Nat) [Value.int IntKind.i64 (9 : Int), Value.string { data := #[] : ByteArray }, Value.string { data := #[] : ByteArray }, Value.int IntKind.i64 M.g1, Value.int IntKind.i64 M.g2, Value.int IntKind.i64 (0 : Int), Value.int IntKind.i64 (0 : Int), Value.int IntKind.i64 (0 : Int), Value.int IntKind.i64 (0 : Int), Value.slice none (0 : Nat) (0 : Nat)]] ∧
    At10 M E (cn10 M E) (0 : Nat) (IntKind.i64.wrap (M.a.tdiv M.b))) ∧
    (5 : Nat) = (5 : Nat) ∧
    (Is (cn10 M E = (0 : Nat)) → VEq [VObj.arg (5 : TypeId) (1 : Nat) M.N M.f] [VObj.arg (5 : TypeId) (1 : Nat) M.N M.f] ∧
    Cnt (cnt (10 : Int) M.a M.n (↑M.L : Int) M.sz M.b = (0 : Int))) ∧
    ∀ (c : Nat) (g : Nat → List Value), Is (cn10 M E = c ∧
    (0 : Nat) < c) → ∀ (f' : Nat → List Value), VEq [VObj.arg (5 : TypeId) (1 : Nat) M.N M.f] [VObj.arg (5 : TypeId) (1 : Nat) M.N M.f] ∧
    Is (c = c ∧
    (0 : Nat) < c) ∧
    Cnt (cnt (10 : Int) M.a M.n (↑M.L : Int) M.sz M.b = (↑c : Int)))) (by kernel_rfl) ?_
  obtain ⟨p1, p2, p3⟩ := tdq (x := M.a) (m := 1048576) a1 (by omega) b1
  have hA : At10 M E (cn10 M E) 0 (M.a / M.b) := by
    rw [hcn] at few
    refine ⟨by omega, fun hlt => ?_, fun hlt => ?_, by omega⟩
    · have := divle b1 (show M.a ≤ E - 1 by omega)
      unfold cn10; rw [if_pos hlt]; omega
    · unfold cn10; rw [if_neg hlt]
  rw [w64 (M.a + M.n) (by omega), p1, w64 (M.a / M.b) (by omega)]
  refine bsplit_iff.2 ⟨fun hd => ⟨by omega, ⟨⟨rfl, rfl, rfl, rfl, trivial⟩, ⟨?_⟩, ⟨rfl⟩, hA⟩, rfl, fun h => ⟨⟨rfl⟩, ⟨?_⟩⟩, fun c g h f' => ⟨⟨rfl⟩, ⟨rfl, h.out.2⟩, ⟨?_⟩⟩⟩,
    fun hd => ⟨by omega, ⟨⟨rfl, rfl, rfl, rfl, trivial⟩, ⟨?_⟩, ⟨rfl⟩, hA⟩, rfl, fun h => ⟨⟨rfl⟩, ⟨?_⟩⟩, fun c g h f' => ⟨⟨rfl⟩, ⟨rfl, h.out.2⟩, ⟨?_⟩⟩⟩⟩
  · rw [hE, if_pos (of_decide_eq_true hd)]
  · rw [hcn, h.out]; rfl
  · rw [hcn, h.out.1]
  · rw [hE, if_neg (of_decide_eq_false hd)]
  · rw [hcn, h.out]; rfl
  · rw [hcn, h.out.1]
end Go.Fil
