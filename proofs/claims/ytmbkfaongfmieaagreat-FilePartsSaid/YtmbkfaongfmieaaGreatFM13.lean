/- FileParts: the list of parts: copying. -/
import Derived.Test.YtmbkfaongfmieaaGreatFM0
set_option linter.unusedSimpArgs false
set_option linter.unusedVariables false
set_option linter.unusedSectionVars false
set_option maxRecDepth 100000
namespace Go.Fil
open Go Go.X Go.Proofs
variable [WI]
def l7 (c : Nat) : Value := .slice (some ⟨7, 1, some 0⟩) c 0
def V8 (M : Mk) (c : Nat) (g : Nat → List Value) : VW := V5 M 13 ++ [.dead, .dead, .raw 126 16 c 0 g []]
def ok13 (M : Mk) (v : Value) (V : VW) (q : Nat → Prop) : Prop :=
  match v, V with
  | .slice (some ⟨7, 1, some 0⟩) c 0, [o0, o1, o2, o3, o4, .dead, .dead, .raw 126 16 n 0 g []] => VIs M 13 [o0, o1, o2, o3, o4] ∧ Is (c = n ∧ 0 < n) ∧ q n
  | _, _ => False
theorem ok13_eq {M : Mk} {v : Value} {V : VW} {q : Nat → Prop} (h : ok13 M v V q) : ∃ c g, 0 < c ∧ v = l7 c ∧ V = V8 M c g ∧ q c := by
  unfold ok13 at h
  split at h
  · rename_i g
    obtain ⟨⟨h1⟩, ⟨rfl, h3⟩, h4⟩ := h
    exact ⟨_, g, h3, rfl, by rw [V8, ← h1]; rfl, h4⟩
  · exact h.elim
def tm13 (M : Mk) (l : Value) (i : Int) : List Value := [unk, unk, .int .i64 M.b, pt 1, pt 2, unk, unk, l, pt 3, pt 4] ++ List.replicate 13 unk ++ [.int .i64 i] ++ List.replicate 315 unk
/-- how many rounds -/
def rd13 (M : Mk) : Nat := if 0 < M.sz then ((M.sz - 1) / M.b + 1).toNat else 0
structure At13 (M : Mk) (k c : Nat) (i : Int) : Prop where
  hi : i + k = rd13 M
  h0 : 0 ≤ i
  hc : (c : Int) = 1 + 2 * i
structure Pre13 (M : Mk) : Prop where
  b1 : 1 ≤ M.b
  b2 : M.b ≤ 4096
  s1 : 0 ≤ M.sz
  s2 : M.sz ≤ 1048576 * M.b
  few : rd13 M ≤ 2000
def J13 (M : Mk) (k : Nat) (S : VSt) : Prop :=
  match nth undef S.tmps 7, nth undef S.tmps 23 with
  | l, .int .i64 i => leQ (tm13 M l i) S.tmps ∧ ok13 M l S.V fun c => At13 M k c i
  | _, _ => False
def out13 (l : Value) : List Value := [unk, unk, unk, pt 1, pt 2, unk, unk, l] ++ List.replicate 331 unk
def K13 (M : Mk) (e : Exit) (S : VSt) : Prop :=
  match e with
  | .normal => eqT S.tmps (out13 (nth undef S.tmps 7)) ∧ ok13 M (nth undef S.tmps 7) S.V fun c => Cnt (c = 1 + 2 * rd13 M)
  | _ => False
def ks13 (e : Exit) : List Nat := match e with | .normal => [2, 3, 4, 7, 8, 9, 23] | _ => [3, 4, 7]
def sel7 (S : VSt) : List Sel := match nth undef S.tmps 7 with | .slice (some a) _ _ => (List.range 5).map Sel.keep ++ [.drop 5, .drop 6, Sel.keep a.block] | _ => []
theorem r13 (M : Mk) (i : Int) (k c : Nat) (g : Nat → List Value) (hc : 0 < c) (hp : Pre13 M) (h : At13 M k c i) :
    Does Tryz.prog (roundOf Tryz.f19 7) ⟨tm13 M (l7 c) i, V8 M c g⟩ fun e S' => reshape 7 (sel7 S') (ks13 e) [] [] S' (roundR 7 (J13 M) k (K13 M) e) := by
  refine Does.shut (fun _ S' => blkT 7 S') ?_
  refine of_code (ctxG_ok (l := []) (cs := []) (bs := []) .nil .nil) (n := 300) .g ?_
  refine by_nf (B := bsplit (decide (M.sz > (0 : Int))) ((M.b = (0 : Int) → False) ∧
    bsplit (decide (i ≤ IntKind.i64.wrap ((IntKind.i64.wrap (M.sz - (1 : Int))).tdiv M.b))) (((1 : Nat) = (1 : Nat) ∧
    c = c ∧
    True ∧
    fitsN (c + (1 : Nat)) (176 : Nat)) ∧
    ((1 : Nat) = (1 : Nat) ∧
    c + (1 : Nat) = c + (1 : Nat) ∧
    True ∧
    fitsN (c + (1 : Nat) + (1 : Nat)) (176 : Nat)) ∧
    ∀ (f' : Nat → List Value), (k = (0 : Nat) → False) ∧
    (Value.int IntKind.i64 M.b = Value.int IntKind.i64 M.b ∧
    Value.slice (some { block := (7 : Nat), off := { block := (13 : Nat), off := (1 : Nat), spot := some (0 : Nat) : Addr }.off, spot := some (0 : Nat) : Addr }) (c + (1 : Nat) + (1 : Nat)) (0 : Nat) = Value.slice (some { block := (7 : Nat), off := { block := (13 : Nat), off := (1 : Nat), spot := some (0 : Nat) : Addr }.off, spot := some (0 : Nat) : Addr }) (c + (1 : Nat) + (1 : Nat)) (0 : Nat) ∧
    Value.int IntKind.i64 (IntKind.i64.wrap (i + (1 : Int))) = Value.int IntKind.i64 (IntKind.i64.wrap (i + (1 : Int))) ∧
    True) ∧
    VIs M (13 : Int) [VObj.arg (5 : TypeId) (1 : Nat) M.N M.f, VObj.cells (49 : TypeId) [Value.int IntKind.i64 (13 : Int), Value.string M.nm, Value.string M.ot, Value.int IntKind.i64 M.f1, Value.int IntKind.i64 M.f2, Value.int IntKind.i64 M.n1, Value.int IntKind.i64 M.n2, Value.int IntKind.i64 M.a, Value.int IntKind.i64 M.n, Value.slice (some { block := (0 : Nat), off := { block := (0 : Nat), off := (3 : Nat), spot := some (0 : Nat) : Addr }.off, spot := some (0 : Nat) : Addr }) M.L (0 : Nat)], VObj.cells (40 : TypeId) [Value.string M.e0, Value.int IntKind.i64 M.g1, Value.int IntKind.i64 M.g2, Value.int IntKind.i64 M.sz], VObj.cells (49 : TypeId) [Value.int IntKind.i64 (8 : Int), Value.string { data := #[] : ByteArray }, Value.string { data := #[] : ByteArray }, Value.int IntKind.i64 M.g1, Value.int IntKind.i64 M.g2, Value.int IntKind.i64 (0 : Int), Value.int IntKind.i64 (0 : Int), Value.int IntKind.i64 (0 : Int), Value.int IntKind.i64 (0 : Int), Value.slice none (0 : Nat) (0 : Nat)], VObj.cells (49 : TypeId) [Value.int IntKind.i64 (9 : Int), Value.string { data := #[] : ByteArray }, Value.string { data := #[] : ByteArray }, Value.int IntKind.i64 M.g1, Value.int IntKind.i64 M.g2, Value.int IntKind.i64 (0 : Int), Value.int IntKind.i64 (0 : Int), Value.int IntKind.i64 (0 : Int), Value.int IntKind.i64 (0 : Int), Value.slice none (0 : Nat) (0 : Nat)]] ∧
    Is (c + (1 : Nat) + (1 : Nat) = c + (1 : Nat) + (1 : Nat) ∧
    (0 : Nat) < c + (1 : Nat) + (1 : Nat)) ∧
    At13 M (k - (1 : Nat)) (c + (1 : Nat) + (1 : Nat)) (IntKind.i64.wrap (i + (1 : Int)))) (∀ (f' : Nat → List Value), (Value.slice (some { block := (7 : Nat), off := { block := (7 : Nat), off := (1 : Nat), spot := some (0 : Nat) : Addr }.off, spot := some (0 : Nat) : Addr }) c (0 : Nat) = Value.slice (some { block := (7 : Nat), off := { block := (7 : Nat), off := (1 : Nat), spot := some (0 : Nat) : Addr }.off, spot := some (0 : Nat) : Addr }) c (0 : Nat) ∧
    True) ∧
    VIs M (13 : Int) [VObj.arg (5 : TypeId) (1 : Nat) M.N M.f, VObj.cells (49 : TypeId) [Value.int IntKind.i64 (13 : Int), Value.string M.nm, Value.string M.ot, Value.int IntKind.i64 M.f1, Value.int IntKind.i64 M.f2, Value.int IntKind.i64 M.n1, Value.int IntKind.i64 M.n2, Value.int IntKind.i64 M.a, Value.int IntKind.i64 M.n, Value.slice (some { block := (0 : Nat), off := { block := (0 : Nat), off := (3 : Nat), spot := some (0 : Nat) : Addr }.off, spot := some (0 : Nat) : Addr }) M.L (0 : Nat)], VObj.cells (40 : TypeId) [Value.string M.e0, Value.int IntKind.i64 M.g1, Value.int IntKind.i64 M.g2, Value.int IntKind.i64 M.sz], VObj.cells (49 : TypeId) [Value.int IntKind.i64 (8 : Int), Value.string { data := #[] : ByteArray }, Value.string { data := #[] : ByteArray }, Value.int IntKind.i64 M.g1, Value.int IntKind.i64 M.g2, Value.int IntKind.i64 (0 : Int), Value.int IntKind.i64 (0 : Int), Value.int IntKind.i64 (0 : Int), Value.int IntKind.i64 (0 : Int), Value.slice none (0 : Nat) (0 : Nat)], VObj.cells (49 : TypeId) [Value.int IntKind.i64 (9 : Int), Value.string { data := #[] : ByteArray }, Value.string { data := #[] : ByteArray }, Value.int IntKind.i64 M.g1, Value.int IntKind.i64 M.g2, Value.int IntKind.i64 (0 : Int), Value.int IntKind.i64 (0 : Int), Value.int IntKind.i64 (0 : Int), Value.int IntKind.i64 (0 : Int), Value.slice none (0 : Nat) (0 : Nat)]] ∧
    Is (c = c ∧
    (0 : Nat) < c) ∧
    Cnt (c = (1 : Nat) + (2 : Nat) * rd13 M))) (∀ (f' : Nat → List Value), (Value.slice (some { block := (7 : Nat), off := { block := (7 : Nat), off := (1 : Nat), spot := some (0 : Nat) : Addr }.off, spot := some (0 : Nat) : Addr }) c (0 : Nat) = Value.slice (some { block := (7 : Nat), off := { block := (7 : Nat), off := (1 : Nat), spot := some (0 : Nat) : Addr }.off, spot := some (0 : Nat) : Addr }) c (0 : Nat) ∧
    True) ∧
    VIs M (13 : Int) [VObj.arg (5 : TypeId) (1 : Nat) M.N M.f, VObj.cells (49 : TypeId) [Value.int IntKind.i64 (13 : Int), Value.string M.nm, Value.string M.ot, Value.int IntKind.i64 M.f1, Value.int IntKind.i64 M.f2, Value.int IntKind.i64 M.n1, Value.int IntKind.i64 M.n2, Value.int IntKind.i64 M.a, Value.int IntKind.i64 M.n, Value.slice (some { block := (0 : Nat), off := { block := (0 : Nat), off := (3 : Nat), spot := some (0 : Nat) : Addr }.off, spot := some (0 : Nat) : Addr }) M.L (0 : Nat)], VObj.cells (40 : TypeId) [Value.string M.e0, Value.int IntKind.i64 M.g1, Value.int IntKind.i64 M.g2, Value.int IntKind.i64 M.sz], VObj.cells (49 : TypeId) [Value.int IntKind.i64 (8 : Int), Value.string { data := #[] : ByteArray }, Value.string { data := #[] : ByteArray }, Value.int IntKind.i64 M.g1, Value.int IntKind.i64 M.g2, Value.int IntKind.i64 (0 : Int), Value.int IntKind.i64 (0 : Int), Value.int IntKind.i64 (0 : Int), Value.int IntKind.i64 (0 : Int), Value.slice none (0 : Nat) (0 : Nat)], VObj.cells (49 : TypeId) [Value.int IntKind.i64 (9 : Int), Value.string { data := #[] : ByteArray }, Value.string { data := #[] : ByteArray }, Value.int IntKind.i64 M.g1, Value.int IntKind.i64 M.g2, Value.int IntKind.i64 (0 : Int), Value.int IntKind.i64 (0 : Int), Value.int IntKind.i64 (0 : Int), Value.int IntKind.i64 (0 : Int), Value.slice none (0 : Nat) (0 : Nat)]] ∧
    Is (c = c ∧
    (0 : Nat) < c) ∧
    Cnt (c = (1 : Nat) + (2 : Nat) * rd13 M))) (by kernel_rfl) ?_
  have hb := hp.b1; have hb2 := hp.b2; have hs := hp.s1; have hs2 := hp.s2; have few := hp.few
  obtain ⟨h1, h2, h3⟩ := h
  rw [w64 (i + 1) (by omega)]
  by_cases hz : M.sz > 0
  · obtain ⟨q1, q2, q3⟩ := tdq (x := M.sz - 1) (b := M.b) (m := 1048576) (by omega) (by omega) hb
    have hr : (rd13 M : Int) = (M.sz - 1) / M.b + 1 := by unfold rd13; rw [if_pos hz]; omega
    rw [w64 (M.sz - 1) (by omega), q1, w64 ((M.sz - 1) / M.b) (by omega)]
    refine bsplit_iff.2 ⟨fun _ => ⟨by omega, bsplit_iff.2 ⟨fun hi => ?_, fun hi => ?_⟩⟩, fun h => absurd hz (of_decide_eq_false h)⟩
    · have hi := of_decide_eq_true hi
      exact ⟨⟨rfl, rfl, trivial, ⟨by omega, by omega⟩⟩, ⟨rfl, rfl, trivial, ⟨by omega, by omega⟩⟩, fun f' => ⟨by omega, ⟨rfl, rfl, rfl, trivial⟩, ⟨rfl⟩, ⟨rfl, by omega⟩, ⟨by omega, by omega, by omega⟩⟩⟩
    · have hi := of_decide_eq_false hi
      exact fun f' => ⟨⟨rfl, trivial⟩, ⟨rfl⟩, ⟨rfl, hc⟩, ⟨by omega⟩⟩
  · have hr : rd13 M = 0 := by unfold rd13; rw [if_neg (by omega)]
    exact bsplit_iff.2 ⟨fun h => absurd (of_decide_eq_true h) hz, fun _ f' => ⟨⟨rfl, trivial⟩, ⟨rfl⟩, ⟨rfl, hc⟩, ⟨by omega⟩⟩⟩
theorem J13_eq {M : Mk} {k : Nat} {S : VSt} (h : J13 M k S) : ∃ l i, leT (tm13 M l i) S.tmps ∧ ok13 M l S.V fun c => At13 M k c i := by
  unfold J13 at h
  split at h
  · obtain ⟨h1, h3⟩ := h
    exact ⟨_, _, leQ_le h1, h3⟩
  · exact h.elim
theorem V8_sc (M : Mk) (c : Nat) (g : Nat → List Value) (i : Nat) (o : VObj) (h : (V8 M c g)[i]? = some o) : ScO 8 o := by
  have hc : ∀ (l : List Value), l.all (scB 8 6) = true → ∀ v ∈ l, Sc 8 v := fun l hl v hv => scB_ok 6 v (List.all_eq_true.1 hl v hv)
  match i, h with
  | 0, h => simp [V8, V5] at h; subst h; exact trivial
  | 1, h => simp [V8, V5] at h; subst h; exact hc _ rfl
  | 2, h => simp [V8, V5] at h; subst h; exact hc _ rfl
  | 3, h => simp [V8, V5] at h; subst h; exact hc _ rfl
  | 4, h => simp [V8, V5] at h; subst h; exact hc _ rfl
  | 5, h => simp [V8, V5] at h; subst h; exact trivial
  | 6, h => simp [V8, V5] at h; subst h; exact trivial
  | 7, h => simp [V8, V5] at h; subst h; exact fun x hx => by simp at hx
  | i + 8, h => simp [V8, V5] at h
/-- the loop of copying -/
def B13 (M : Mk) : BlkS := fun S K =>
  shutS (blkT 7 S) S (fun S => reshape S.V.length (sel7 S) (ks13 .normal) [] [] S (J13 M (rd13 M)) ∧ S.V.length = 7) ∧ Is (Pre13 M) ∧
  ∀ (c : Nat) g, Is (c = 1 + 2 * rd13 M) → K .normal ⟨out13 (l7 c), V8 M c g⟩
theorem l13 (M : Mk) (S : VSt) (K : Exit → VSt → Prop) (hB : B13 M S K) : Does Tryz.prog (.block 7 (.loop (roundOf Tryz.f19 7))) S K := by
  obtain ⟨h1, ⟨hp⟩, h4⟩ := hB
  refine Does.shutIn _ (shutS_mono (fun S ⟨h1, h2⟩ => ?_) h1)
  refine Does.mono (Does.loopR (K := K13 M) ks13 (fun _ S' => sel7 S') [] [] (J13 M) S (reshape_mono (fun S hS => ⟨_, hS⟩) h1) fun k S' hJ => ?_) fun e S' hK => ?_
  · obtain ⟨l, i, ht, hL⟩ := J13_eq hJ
    rw [h2]
    obtain ⟨c, g, hc, rfl, hV, hA⟩ := ok13_eq hL
    exact Does.weaken (r13 M i k c g hc hp hA) ht hV.symm (.of rfl (V8_sc M c g))
  · cases e with
    | normal =>
      obtain ⟨hT, hL⟩ := hK
      have hT := eqT_eq hT
      obtain ⟨T, V⟩ := S'
      change ok13 M (nth undef T 7) V _ at hL
      change T = _ at hT
      obtain ⟨c, g, hc, h5, rfl, ⟨hA⟩⟩ := ok13_eq hL
      rw [h5] at hT; subst hT; exact h4 c g ⟨hA⟩
    | _ => exact hK.elim
theorem mk13 (M : Mk) (hp : MkPre 13 M.a M.n M.L M.sz M.b) : CallDoes Tryz.prog 19 (mkArgs M 13) [.arg 5 1 M.N M.f] (mkR M (cnt 13 M.a M.n M.L M.sz M.b)) := by
  obtain ⟨⟨_, b1, b2, s1, s2, _, _, _⟩, few⟩ := hp
  have hcn : cnt 13 M.a M.n M.L M.sz M.b = (if M.sz = 0 then 1 else 2 + 2 * ((M.sz - 1) / M.b + 1)) := by unfold cnt; rw [if_neg (by decide), if_neg (by decide), if_neg (by decide), if_pos rfl]
  have hc2 : cnt 13 M.a M.n M.L M.sz M.b = (if 0 < M.sz then 2 + 2 * (rd13 M : Int) else 1) ∧ (¬ 0 < M.sz → rd13 M = 0) := by
    rw [hcn]
    unfold rd13
    by_cases hz : 0 < M.sz
    · have : 0 ≤ (M.sz - 1) / M.b := Int.ediv_nonneg (by omega) (by omega)
      rw [if_neg (by omega), if_pos hz, if_pos hz]
      exact ⟨by omega, fun h => absurd hz h⟩
    · rw [if_pos (by omega), if_neg hz]
      exact ⟨rfl, fun _ => by rw [if_neg hz]⟩
  obtain ⟨hc2, hc3⟩ := hc2
  have hp : Pre13 M := ⟨b1, b2, s1, s2, by rw [hc2] at few; split at few <;> omega⟩
  refine CallDoes.reshape mkSel [] [] ?_
  refine CallDoes.shut blkV ?_
  refine of_run (ctxG_ok (l := []) (cs := []) (bs := [(7, B13 M)]) .nil .nil) (n := 400) Tryz.func19 rfl (.one rfl rfl (l13 M)) ?_
  refine by_nf (B := ((1 : Nat) = (1 : Nat) ∧
    Nat.succ (0 : Nat) ≤ (1 : Nat) ∧
    fitsN (1 : Nat) (176 : Nat)) ∧
    (∀ (f' : Nat → List Value), ((Value.int IntKind.i64 M.b = Value.int IntKind.i64 M.b ∧
    Value.slice (some { block := (7 : Nat), off := { block := (6 : Nat), off := (1 : Nat), spot := some (0 : Nat) : Addr }.off, spot := some (0 : Nat) : Addr }) (1 : Nat) (0 : Nat) = Value.slice (some { block := (7 : Nat), off := { block := (6 : Nat), off := (1 : Nat), spot := some (0 : Nat) : Addr }.off, spot := some (0 : Nat) : Addr }) (1 : Nat) (0 : Nat) ∧
    Value.int IntKind.i64 (0 : Int) = Value.int IntKind.i64 (0 : Int) ∧
    True) ∧
    VIs M (13 : Int) [VObj.arg (5 : TypeId) (1 : Nat) M.N M.f, VObj.cells (49 : Nat) [Value.int IntKind.i64 (13 : Int), Value.string M.nm, Value.string M.ot, Value.int IntKind.i64 M.f1, Value.int IntKind.i64 M.f2, Value.int IntKind.i64 M.n1, Value.int IntKind.i64 M.n2, Value.int IntKind.i64 M.a, Value.int IntKind.i64 M.n, Value.slice (some { block := (0 : Nat), off := { block := (0 : Nat), off := (3 : Nat), spot := some (0 : Nat) : Addr }.off, spot := some (0 : Nat) : Addr }) M.L (0 : Nat)], VObj.cells (40 : Nat) [Value.string M.e0, Value.int IntKind.i64 M.g1, Value.int IntKind.i64 M.g2, Value.int IntKind.i64 M.sz], VObj.cells (49 : Nat) [Value.int IntKind.i64 (8 : Int), Value.string { data := #[] : ByteArray }, Value.string { data := #[] : ByteArray }, Value.int IntKind.i64 M.g1, Value.int IntKind.i64 M.g2, Value.int IntKind.i64 (0 : Int), Value.int IntKind.i64 (0 : Int), Value.int IntKind.i64 (0 : Int), Value.int IntKind.i64 (0 : Int), Value.slice none (0 : Nat) (0 : Nat)], VObj.cells (49 : Nat) [Value.int IntKind.i64 (9 : Int), Value.string { data := #[] : ByteArray }, Value.string { data := #[] : ByteArray }, Value.int IntKind.i64 M.g1, Value.int IntKind.i64 M.g2, Value.int IntKind.i64 (0 : Int), Value.int IntKind.i64 (0 : Int), Value.int IntKind.i64 (0 : Int), Value.int IntKind.i64 (0 : Int), Value.slice none (0 : Nat) (0 : Nat)]] ∧
    Is ((1 : Nat) = (1 : Nat) ∧
    (0 : Nat) < (1 : Nat)) ∧
    At13 M (rd13 M) (1 : Nat) (0 : Int)) ∧
    (7 : Nat) = (7 : Nat)) ∧
    Is (Pre13 M) ∧
    ∀ (c : Nat) (g : Nat → List Value), Is (c = (1 : Nat) + (2 : Nat) * rd13 M) → bsplit (decide (M.sz > (0 : Int))) (((1 : Nat) = (1 : Nat) ∧
    c = c ∧
    True ∧
    fitsN (c + (1 : Nat)) (176 : Nat)) ∧
    ∀ (f' : Nat → List Value), VEq [VObj.arg (5 : TypeId) (1 : Nat) M.N M.f] [VObj.arg (5 : TypeId) (1 : Nat) M.N M.f] ∧
    Is (c + (1 : Nat) = c + (1 : Nat) ∧
    (0 : Nat) < c + (1 : Nat)) ∧
    Cnt (cnt (13 : Int) M.a M.n (↑M.L : Int) M.sz M.b = (↑(c + (1 : Nat)) : Int))) (∀ (f' : Nat → List Value), VEq [VObj.arg (5 : TypeId) (1 : Nat) M.N M.f] [VObj.arg (5 : TypeId) (1 : Nat) M.N M.f] ∧
    Is (c = c ∧
    (0 : Nat) < c) ∧
    Cnt (cnt (13 : Int) M.a M.n (↑M.L : Int) M.sz M.b = (↑c : Int)))) (by kernel_rfl) ?_
  have hf := hp.few
  refine ⟨⟨rfl, by decide, ⟨by omega, by omega⟩⟩, fun f' => ⟨⟨⟨rfl, rfl, rfl, trivial⟩, ⟨rfl⟩, ⟨rfl, by decide⟩, ⟨by omega, by omega, by omega⟩⟩, rfl⟩, ⟨hp⟩, fun c g hc => bsplit_iff.2 ⟨fun hz => ?_, fun hz => ?_⟩⟩
  · obtain ⟨hc⟩ := hc
    have hz := of_decide_eq_true hz
    rw [if_pos hz] at hc2
    exact ⟨⟨rfl, rfl, trivial, ⟨by omega, by omega⟩⟩, fun f' => ⟨⟨rfl⟩, ⟨rfl, by omega⟩, ⟨by rw [hc2]; omega⟩⟩⟩
  · obtain ⟨hc⟩ := hc
    have hz := of_decide_eq_false hz
    rw [if_neg hz] at hc2
    have := hc3 hz
    exact fun f' => ⟨⟨rfl⟩, ⟨rfl, by omega⟩, ⟨by rw [hc2]; omega⟩⟩
end Go.Fil
