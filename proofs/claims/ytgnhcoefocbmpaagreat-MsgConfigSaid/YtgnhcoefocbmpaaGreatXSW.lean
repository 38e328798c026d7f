/- What the symbolic run says of the real one: rows that are known but for some, whose slices are places. -/
import Derived.Test.YtgnhcoefocbmpaaGreatXSA
set_option linter.unusedSimpArgs false
set_option linter.unusedSectionVars false
set_option linter.unusedVariables false
namespace Go.X
open Go
variable [WI] [WD]
variable {P : Program} {env : Nat → Loc} {V : VW} {w : World}

theorem okRaw_ok {n : Nat} {ob : VObj} {k : Prop} (h : okRaw n ob k) : ScO n ob ∧ k := by
  unfold okRaw at h
  split at h
  · split at h
    · rename_i hc; exact ⟨holesOk_ok hc, h⟩
    · exact h.elim
  · exact h.elim

/-- rows of real cells, one of them written -/
theorem real_store {F F' : Nat → List Value} {b m n q r off : Nat} {t : TypeId} {cs : Array Value} {news : List Value} (hh : w.heap[b]? = some (.cells cs t (0, 0)))
    (hrows : ∀ k, k < n → (F k).length = m ∧ w.rangeAt b (0 + k * m) (F k)) (hr : r < n) (hoff : off + news.length ≤ m) (h1 : F' r = (F r).take off ++ news ++ (F r).drop (off + news.length)) (h2 : ∀ k, k < n → k ≠ r → F' k = F k)
    (hsz : cs.size = q * m) (hn : n ≤ q) :
    r * m + off + news.length ≤ cs.size ∧ ∀ k, k < n → (F' k).length = m ∧ (w.setRow b (cs.toList.take (r * m + off) ++ news ++ cs.toList.drop (r * m + off + news.length)).toArray).rangeAt b (0 + k * m) (F' k) := by
  have hrm : (r + 1) * m ≤ q * m := Nat.mul_le_mul_right m (by omega)
  rw [Nat.add_mul, Nat.one_mul] at hrm
  refine ⟨by omega, fun k hk => ⟨?_, fun j u hu => ?_⟩⟩
  · by_cases hkr : k = r
    · subst hkr
      rw [h1]
      have := (hrows k hk).1
      simp; omega
    · rw [h2 k hk hkr]; exact (hrows k hk).1
  · rw [cell_of_row _ _ _ _ _ _ (setRow_heap w _ _ _ _ _ hh), List.getElem?_toArray, take_app_drop _ _ _ (by simp; omega)]
    simp only [Array.getElem?_toList]
    by_cases hkr : k = r
    · subst hkr
      rw [h1, take_app_drop _ _ _ (by have := (hrows k hk).1; omega)] at hu
      by_cases hin : off ≤ j ∧ j < off + news.length
      · rw [if_pos (by omega)]
        rw [if_pos hin] at hu
        rw [← hu]; congr 1; omega
      · rw [if_neg (by omega)]
        rw [if_neg hin] at hu
        have := (hrows k hk).2 j u hu
        rw [cell_of_row _ _ _ _ _ _ hh] at this
        exact this
    · rw [h2 k hk hkr] at hu
      have hj : j < m := by
        have := (List.getElem?_eq_some_iff.1 hu).1
        rwa [(hrows k hk).1] at this
      have hne : ¬ (r * m + off ≤ 0 + k * m + j ∧ 0 + k * m + j < r * m + off + news.length) := by
        rcases Nat.lt_or_gt_of_ne hkr with hlt | hgt
        · have : (k + 1) * m ≤ r * m := Nat.mul_le_mul_right m (by omega)
          rw [Nat.add_mul, Nat.one_mul] at this
          omega
        · have : (r + 1) * m ≤ k * m := Nat.mul_le_mul_right m (by omega)
          rw [Nat.add_mul, Nat.one_mul] at this
          omega
      rw [if_neg hne]
      have := (hrows k hk).2 j u hu
      rw [cell_of_row _ _ _ _ _ _ hh] at this
      exact this

theorem storeR_known {t : TypeId} {p : Addr} {v : Value} {q : Prop} {i : Nat} {ob : VObj} (h : xstoreR P V t p v = .sto q i ob) : isC v = false := by
  unfold xstoreR at h
  split at h
  · assumption
  · cases h

theorem rawRow_one_at (f : Nat → List Value) (r : Nat) (c : List Value) : rawRow env f [(r, c)] r = c.map (ren env) := by simp [rawRow]
theorem rawRow_one_ne (f : Nat → List Value) {r k : Nat} (c : List Value) (h : k ≠ r) : rawRow env f [(r, c)] k = f k := by
  unfold rawRow
  have : (r == k) = false := by simpa using fun e => h e.symm
  simp [List.find?, this]
theorem rawRow_nil (f : Nat → List Value) (r : Nat) : rawRow env f [] r = f r := rfl

theorem splice_cells {cs new c' : List Value} {off : Nat} (h : splice cs off new = some c') (hl : ∀ v ∈ c', cellC v = true) : ∀ v ∈ c', (ren env v).oneCell' = true := fun v hv => oneCell_ren env (hl v hv)

theorem store_raw_ok (hR : RepW env V w) {t : TypeId} {p : Addr} {v : Value} {i : Nat} {q : Prop} {ob : VObj} (h : xstoreR P V t p v = .sto q i ob) (hq : q) (hsc : ScO V.length ob) :
    ∃ w', (storeVar t (renA env p) (ren env v)).run P w = .ok () w' ∧ RepW env (V.set i ob) w' ∧ Fr env V w env (V.set i ob) w' := by
  unfold xstoreR at h
  split at h
  case' h_2 => cases h
  rename_i inf hc hcell hi
  split at h
  case' isFalse => cases h
  rename_i hl
  split at h
  · rename_i t' m n cap f k c r hv hs
    split at h
    case' h_2 => cases h
    rename_i c' hsp
    cases h
    obtain ⟨rfl, hr⟩ := hq
    obtain ⟨hle, he⟩ := splice_eq hsp
    obtain ⟨h0, hm, hrows, hbase, cs, hh, hcs, hn⟩ := hR.mat _ _ hv
    have hlen : c.length = m := by have := (hrows r hr).1; rwa [rawRow_one_at, List.length_map] at this
    have hst := real_store (w := w) (F := rawRow env f [(r, c)]) (F' := rawRow env f [(r, c')]) (m := m) (n := n) (off := p.off) (news := (vcells v).map (ren env)) hh (fun k hk => by
        rw [← hbase]; exact ⟨(hrows k hk).1, (hrows k hk).2.2⟩) hr (by rw [List.length_map]; omega) (by
        rw [rawRow_one_at, rawRow_one_at, he]
        simp [List.map_take, List.map_drop]) (fun k hk hne => by rw [rawRow_one_ne _ _ hne, rawRow_one_ne _ _ hne]) hcs hn.1
    rw [List.length_map] at hst
    have hrow := storeVar_row hi hl hc hcell env w (env p.block).blk (r * m + p.off) _ _ hh hst.1
    have hra : renA env p = ⟨(env p.block).blk, r * m + p.off, none⟩ := by simp [renA, hs, hbase, hm]
    rw [hra, hrow]
    refine ⟨_, rfl, hR.setRow hv rfl rfl _ ⟨fun x hx => ?_, hm, fun k hk => ⟨(hst.2 k hk).1, ?_, ?_⟩, hbase, _, setRow_heap w _ _ _ _ _ hh, ?_, hn⟩ hsc trivial⟩
    · simp only [List.mem_singleton] at hx
      subst hx
      exact hr
    · by_cases hkr : k = r
      · subst hkr
        rw [rawRow_one_at]
        intro u hu
        obtain ⟨y, hy, rfl⟩ := List.mem_map.1 hu
        exact oneCell_ren env ((hsc _ (List.mem_singleton.2 rfl)) y hy).2
      · have := (hrows k hk).2.1
        rw [rawRow_one_ne _ _ hkr] at this ⊢
        exact this
    · rw [hbase]; exact (hst.2 k hk).2
    · have := hst.1
      simp; omega
  · rename_i t' m n cap f r hv hs
    split at h
    case' h_2 => cases h
    rename_i hoff hvl
    cases h
    have hr : r < n := hq
    have hoff : p.off = 0 := Nat.eq_of_beq_eq_true hoff
    have hvl : (vcells v).length = m := Nat.eq_of_beq_eq_true hvl
    obtain ⟨h0, hm, hrows, hbase, cs, hh, hcs, hn⟩ := hR.mat _ _ hv
    have hlen : (f r).length = m := (hrows r hr).1
    have hst := real_store (w := w) (F := rawRow env f []) (F' := rawRow env f [(r, vcells v)]) (m := m) (n := n) (off := 0) (news := (vcells v).map (ren env)) hh (fun k hk => by
        rw [← hbase]; exact ⟨(hrows k hk).1, (hrows k hk).2.2⟩) hr (by rw [List.length_map]; omega) (by
        rw [rawRow_one_at, rawRow_nil, List.length_map, List.drop_eq_nil_of_le (by omega)]
        simp) (fun k hk hne => by rw [rawRow_one_ne _ _ hne, rawRow_nil]) hcs hn.1
    rw [List.length_map] at hst
    have hrow := storeVar_row hi hl hc hcell env w (env p.block).blk (r * m + 0) _ _ hh hst.1
    have hra : renA env p = ⟨(env p.block).blk, r * m + 0, none⟩ := by simp [renA, hs, hbase, hm, hoff]
    rw [hra, hrow]
    refine ⟨_, rfl, hR.setRow hv rfl rfl _ ⟨fun x hx => ?_, hm, fun k hk => ⟨(hst.2 k hk).1, ?_, ?_⟩, hbase, _, setRow_heap w _ _ _ _ _ hh, ?_, hn⟩ hsc trivial⟩
    · simp only [List.mem_singleton] at hx
      subst hx
      exact hr
    · by_cases hkr : k = r
      · subst hkr
        rw [rawRow_one_at]
        intro u hu
        obtain ⟨y, hy, rfl⟩ := List.mem_map.1 hu
        exact oneCell_ren env ((hsc _ (List.mem_singleton.2 rfl)) y hy).2
      · have := (hrows k hk).2.1
        rw [rawRow_one_ne _ _ hkr]
        exact this
    · rw [hbase]; exact (hst.2 k hk).2
    · have := hst.1
      simp; omega
  · cases h

/-! ### Rows that are made -/
theorem numH_find : ∀ (rows : List (List Value)) (i r : Nat), (numH i rows).find? (fun h => h.1 == i + r) = (rows[r]?).map fun c => (i + r, c)
  | [], i, r => by simp [numH]
  | c :: cs, i, r => by
    cases r with
    | zero => simp [numH]
    | succ r =>
      have hne : (i == i + (r + 1)) = false := by simp
      have ih := numH_find cs (i + 1) r
      rw [show i + 1 + r = i + (r + 1) by omega] at ih
      simp only [numH, List.find?, hne, ih]
      simp

theorem numH_mem : ∀ {rows : List (List Value)} {i : Nat} {x : Nat × List Value}, x ∈ numH i rows → x.1 < i + rows.length ∧ x.2 ∈ rows
  | [], i, x, h => by simp [numH] at h
  | c :: cs, i, x, h => by
    simp only [numH, List.mem_cons] at h
    rcases h with rfl | h
    · simp
    · obtain ⟨h1, h2⟩ := numH_mem h
      exact ⟨by simp only [List.length_cons]; omega, List.mem_cons_of_mem _ h2⟩

theorem allocRaw_ok (hR : RepW env V w) {t : TypeId} {m : Nat} {rows : List (List Value)} (hsc : ScO V.length (.raw t m rows.length rows.length (fun _ => []) (numH 0 rows))) (hm : ∀ x ∈ rows, x.length = m) :
    let env' : Nat → Loc := fun i => if i = V.length then ⟨w.heap.size, 0, m, rows.length⟩ else env i
    RepW env' (V ++ [.raw t m rows.length rows.length (fun _ => []) (numH 0 rows)]) (w.alloc (.cells (rows.flatten.map (ren env)).toArray t)) ∧
      Fr env V w env' (V ++ [.raw t m rows.length rows.length (fun _ => []) (numH 0 rows)]) (w.alloc (.cells (rows.flatten.map (ren env)).toArray t)) := by
  refine hR.allocO hsc fun env' hag => ?_
  have hrow : ∀ r, (hr : r < rows.length) → rawRow env' (fun _ => []) (numH 0 rows) r = (rows[r]).map (ren env) ∧ (r, rows[r]) ∈ numH 0 rows := fun r hr => by
    have hf := numH_find rows 0 r
    rw [Nat.zero_add, List.getElem?_eq_getElem hr] at hf
    have hmem := List.mem_of_find?_eq_some hf
    refine ⟨?_, hmem⟩
    unfold rawRow
    rw [hf]
    exact map_congr_sc (fun v hv => (hsc _ hmem v hv).1) hag
  refine ⟨fun x hx => by have := (numH_mem hx).1; omega, rfl, fun r hr => ?_, rfl, _, heap_alloc_new w _, ?_, Nat.le_refl _, fun _ => rfl⟩
  · obtain ⟨h1, h2⟩ := hrow r hr
    rw [h1]
    have hl : (rows[r]).length = m := hm _ (List.getElem_mem hr)
    refine ⟨by rw [List.length_map, hl], fun u hu => ?_, fun j v hv => ?_⟩
    · obtain ⟨y, hy, rfl⟩ := List.mem_map.1 hu
      exact oneCell_ren env (hsc _ h2 y hy).2
    · have hj : j < m := by
        have := (List.getElem?_eq_some_iff.1 hv).1
        rwa [List.length_map, hl] at this
      rw [cell_of_row _ _ _ _ _ _ (heap_alloc_new w _)]
      simp only [List.getElem?_toArray, List.getElem?_map, Nat.zero_add]
      rw [flatten_get rows m r j hm hr hj, nth_eq]
      rw [List.getElem?_map] at hv
      simpa [List.getD, hr] using hv
  · simp only [List.size_toArray, List.length_map]
    have : ∀ (l : List (List Value)), (∀ x ∈ l, x.length = m) → l.flatten.length = l.length * m := by
      intro l
      induction l with
      | nil => intro _; simp
      | cons x xs ih =>
        intro h
        simp only [List.flatten_cons, List.length_append, List.length_cons]
        rw [ih (fun y hy => h y (by simp [hy])), h x (by simp), Nat.add_mul, Nat.one_mul, Nat.add_comm]
    exact this rows hm

/-! ### APPEND -/
theorem appH_eq : ∀ (a b : List (Nat × List Value)), appH a b = a ++ b
  | [], b => rfl
  | h :: r, b => by simp [appH, appH_eq r b]

theorem shiftH_find : ∀ (hs : List (Nat × List Value)) (len r : Nat), (shiftH len hs).find? (fun h => h.1 == len + r) = (hs.find? (fun h => h.1 == r)).map fun h => (len + h.1, h.2)
  | [], len, r => rfl
  | (i, c) :: hs, len, r => by
    simp only [shiftH, List.find?]
    have e : (len + i == len + r) = (i == r) := by
      rw [Bool.eq_iff_iff]; simp only [beq_iff_eq]; omega
    rw [e]
    cases i == r
    · exact shiftH_find hs len r
    · rfl

theorem shiftH_mem : ∀ {hs : List (Nat × List Value)} {len : Nat} {x : Nat × List Value}, x ∈ shiftH len hs → ∃ y ∈ hs, x = (len + y.1, y.2)
  | [], len, x, h => by simp [shiftH] at h
  | (i, c) :: hs, len, x, h => by
    simp only [shiftH, List.mem_cons] at h
    rcases h with rfl | h
    · exact ⟨(i, c), by simp, rfl⟩
    · obtain ⟨y, h1, h2⟩ := shiftH_mem h
      exact ⟨y, List.mem_cons_of_mem _ h1, h2⟩

theorem rawRow_app {f g : Nat → List Value} {hs hs' : List (Nat × List Value)} {len : Nat} (h : ∀ x ∈ hs, x.1 < len) (r : Nat) :
    rawRow env (joinF len f g) (appH hs (shiftH len hs')) r = if r < len then rawRow env f hs r else rawRow env g hs' (r - len) := by
  unfold rawRow
  rw [appH_eq, List.find?_append]
  split
  all_goals
    rename_i hr
  · by_cases hlt : r < len
    · rw [if_pos hlt]
      have hno : (shiftH len hs').find? (fun h => h.1 == r) = none := by
        rw [List.find?_eq_none]
        intro x hx
        obtain ⟨y, _, rfl⟩ := shiftH_mem hx
        simp only [beq_iff_eq]; omega
      rw [hno, Option.or_none] at hr
      rw [hr]
    · rw [if_neg hlt]
      have hno : hs.find? (fun h => h.1 == r) = none := by
        rw [List.find?_eq_none]
        intro x hx
        have := h x hx
        simp only [beq_iff_eq]; omega
      rw [hno, Option.none_or] at hr
      have := shiftH_find hs' len (r - len)
      rw [show len + (r - len) = r by omega, hr] at this
      cases hf : hs'.find? (fun h => h.1 == r - len) with
      | none => rw [hf] at this; cases this
      | some y => rw [hf] at this; simp only [Option.map_some, Option.some.injEq] at this; rw [this]
  · by_cases hlt : r < len
    · rw [if_pos hlt]
      cases hf : hs.find? (fun h => h.1 == r) with
      | none => simp [joinF, hlt]
      | some y => rw [hf] at hr; simp at hr
    · rw [if_neg hlt]
      have hno : hs.find? (fun h => h.1 == r) = none := by
        rw [List.find?_eq_none]
        intro x hx
        have := h x hx
        simp only [beq_iff_eq]; omega
      rw [hno, Option.none_or] at hr
      have := shiftH_find hs' len (r - len)
      rw [show len + (r - len) = r by omega, hr] at this
      cases hf : hs'.find? (fun h => h.1 == r - len) with
      | none => simp [joinF, hlt]
      | some y => rw [hf] at this; cases this

/-- the cells of rows -/
theorem real_there {F : Nat → List Value} {b m n k : Nat} (hrows : ∀ q, q < n → (F q).length = m ∧ w.rangeAt b (0 + q * m) (F q)) (hm : 0 < m) (hk : k ≤ n) :
    ∀ j v, (rowsOf k F)[j]? = some v → w.cell? ((⟨b, 0, none⟩ : Addr).add j) = some v := by
  intro j v hj
  have hl : ∀ j, j < k → (F j).length = m := fun j hj => (hrows j (by omega)).1
  have hjk : j < k * m := by
    have := (List.getElem?_eq_some_iff.1 hj).1
    rwa [rowsOf_length hl] at this
  have hr : j / m < k := by rw [Nat.div_lt_iff_lt_mul hm]; exact hjk
  have hjm : j % m < m := Nat.mod_lt _ hm
  have e : j = (j / m) * m + j % m := by rw [Nat.mul_comm]; exact (Nat.div_add_mod j m).symm
  rw [e, rowsOf_get hl hr hjm] at hj
  have := (hrows (j / m) (by omega)).2 (j % m) v hj
  have hadd : (⟨b, 0, none⟩ : Addr).add j = ⟨b, 0 + (j / m) * m + j % m, none⟩ := by
    unfold Addr.add
    by_cases hj0 : j = 0
    · subst hj0; simp
    · simp only [hj0, if_false]
      congr 1
      omega
  rw [hadd]
  exact this

theorem appR_known {t u : TypeId} {s x : Value} {p : Prop} {i : Option Nat} {ob : VObj} {n : Nat} (h : xappR P V t u s x = .app p i ob n) : s ≠ unk ∧ x ≠ unk := by
  constructor
  · rintro rfl
    unfold xappR unk at h
    (repeat' split at h) <;> first | (cases h; done) | simp_all
  · rintro rfl
    unfold xappR unk at h
    (repeat' split at h) <;> first | (cases h; done) | simp_all

theorem grown_raw (hR : RepW env V w) {e : TypeId} {m k q : Nat} {g : Nat → List Value} {hs : List (Nat × List Value)} {cs : Array Value} (h0 : ∀ x ∈ hs, x.1 < k) (hl : ∀ j, j < k → (rawRow env g hs j).length = m) (h1 : ∀ j, j < k → ∀ u ∈ rawRow env g hs j, u.oneCell' = true)
    (hsc : ScO V.length (.raw e m k 0 g hs)) (hsz : cs.size = q * m) (hq : k ≤ q) (hpre : ∀ (j : Nat) (v : Value), (rowsOf k (rawRow env g hs))[j]? = some v → cs[j]? = some v) :
    let env' : Nat → Loc := fun i => if i = V.length then ⟨w.heap.size, 0, m, q⟩ else env i
    RepW env' (V ++ [.raw e m k 0 g hs]) (w.drew.alloc (.cells cs e)) ∧ Fr env V w env' (V ++ [.raw e m k 0 g hs]) (w.drew.alloc (.cells cs e)) := by
  have hR' := drewW hR
  have := hR'.allocO (o := .raw e m k 0 g hs) (ob := .cells cs e) (m := m) (q := q) hsc fun env' hag => by
    have hrow : ∀ r, rawRow env' g hs r = rawRow env g hs r := fun r => by
      unfold rawRow
      split
      · rename_i x hx
        exact map_congr_sc (fun v hv => (hsc x (List.mem_of_find?_eq_some hx) v hv).1) hag
      · rfl
    refine ⟨h0, rfl, fun r hr => ?_, rfl, cs, heap_alloc_new _ _, hsz, hq, fun h => absurd rfl h⟩
    rw [hrow r]
    refine ⟨hl r hr, h1 r hr, fun j v hj => ?_⟩
    have hjm : j < m := by
      have := (List.getElem?_eq_some_iff.1 hj).1
      rwa [hl r hr] at this
    rw [cell_of_row _ _ _ _ _ _ (heap_alloc_new _ _)]
    refine (show cs[0 + r * m + j]? = some v from ?_)
    rw [Nat.zero_add]
    apply hpre
    rw [rowsOf_get hl hr hjm]
    exact hj
  obtain ⟨h1, h2⟩ := this
  exact ⟨h1, ⟨h2.agree, h2.len, h2.os, h2.tape, h2.output, h2.size, h2.keep, h2.own⟩⟩

theorem appH_below {hs hs' : List (Nat × List Value)} {len k : Nat} (h : ∀ x ∈ hs, x.1 < len) (h' : ∀ x ∈ hs', x.1 < k) : ∀ x ∈ appH hs (shiftH len hs'), x.1 < len + k := by
  rw [appH_eq]
  intro x hx
  rcases List.mem_append.1 hx with hx | hx
  · have := h x hx; omega
  · obtain ⟨y, hy, rfl⟩ := shiftH_mem hx
    have := h' y hy
    show len + y.1 < len + k
    omega

theorem rowsOf_congr {k : Nat} {f g : Nat → List Value} (h : ∀ j, j < k → f j = g j) : rowsOf k f = rowsOf k g := by
  unfold rowsOf
  congr 1
  exact List.map_congr_left fun j hj => h j (by simpa using hj)

theorem append_raw_ok (hR : RepW env V w) {t u ty : TypeId} {s x : Value} {p : Prop} {i : Option Nat} {ob : VObj} {N : Nat} (h : xappR P V t u s x = .app p i ob N) (hp : p) (hsc : ScO V.length ob) :
    ∃ u' w' env', (Builtin.append_ #[t, u] ty #[ren env s, ren env x]).run P w = .ok u' w' ∧ u' = ren env' (.slice (some ⟨V.length, 1, some 0⟩) N 0) ∧ RepW env' (killV V i ++ [ob]) w' ∧ Fr env V w env' (killV V i ++ [ob]) w' := by
  unfold xappR at h
  split at h
  case' h_2 => cases h
  rename_i e e2 b k cb ht hu
  split at h
  case' h_2 => cases h
  rename_i ie hie
  split at h
  case' h_2 => cases h
  rename_i z hz
  split at h
  case' h_2 => cases h
  rename_i hc hzl hpos hboff
  split at h
  case' h_2 => cases h
  rename_i bt m' n' bcap g hs' hbs hbv
  split at h
  case' isFalse => cases h
  rename_i hmm'
  subst hmm'
  have hzs : z.cells.size = ie.size := zsize hc (Nat.eq_of_beq_eq_true hzl)
  have hm : 0 < ie.size := by rwa [Nat.blt_eq] at hpos
  have hboff : b.off < 2 := by rwa [Nat.blt_eq] at hboff
  obtain ⟨hb0, hbm, hbrows, hbbase, _, _, _, _⟩ := hR.mat _ _ hbv
  have hbrows' : ∀ q, q < n' → (rawRow env g hs' q).length = ie.size ∧ w.rangeAt (env b.block).blk (0 + q * ie.size) (rawRow env g hs' q) := fun q hq => by
    have := hbrows q hq; rw [hbbase] at this; exact ⟨this.1, this.2.2⟩
  have hbA : renA env { b with off := 0 } = ⟨(env b.block).blk, 0, none⟩ := by simp [renA, hbs, hbbase]
  have src : k = n' → SrcOK P w ie.size k (ren env (.slice (some b) k cb)) (rowsOf k (rawRow env g hs')) := fun hk => by
    rw [ren_slice env _ _ hboff, hbA]
    refine ⟨by simp [Builtin.lenOf], fun w2 hw => ?_⟩
    refine run_firstCells_some w2 ie.size k _ k _ _ (rowsOf_length fun j hj => (hbrows j (by omega)).1) fun j v hj => ?_
    have := real_there hbrows' hm (show k ≤ n' by omega) j v hj
    simpa [World.cell?, hw] using this
  have one : k = n' → ∀ v ∈ rowsOf k (rawRow env g hs'), v.oneCell' = true := fun hk v hv => by
    obtain ⟨j, hj, hvj⟩ := mem_rowsOf hv
    exact (hbrows j (by omega)).2.1 v hvj
  split at h
  · cases h
    obtain ⟨hk, hk0, h63, h47⟩ := hp
    have hgl : ∀ j, j < N → (rawRow env g hs' j).length = ie.size := fun j hj => (hbrows j (by omega)).1
    have hrun := run_app_grow t u ty e ie z _ ht hu (.inr ⟨_, rfl⟩) hie hz none 0 0 N [] (run_firstCells_none w.drew ie.size 0 0 0) (ren env (.slice (some b) N cb)) _ (src hk) (by omega) (by omega) (growslice_fits (by omega) (by simpa using h47))
    rw [ren_snone, hrun]
    have hcap := grownCap_ge w (0 + N) 0 e
    obtain ⟨hW, hF⟩ := grown_raw hR (e := e) (m := ie.size) (k := N) (q := grownCap w (0 + N) 0 e) (g := g) (hs := hs')
      (cs := #[] ++ (rowsOf N (rawRow env g hs')).toArray ++ Builtin.zeroCells z.cells (grownCap w (0 + N) 0 e - (0 + N))) (fun x hx => by have := hb0 x hx; omega) hgl (fun j hj => (hbrows j (by omega)).2.1) hsc
      (by
        simp only [Array.size_append, size_zeroCells, hzs, List.size_toArray, rowsOf_length (m := ie.size) hgl, Array.size_empty]
        simp only [Nat.zero_add] at hcap ⊢
        rw [List.length_nil, Nat.zero_add, ← Nat.add_mul]
        congr 1; omega) (by omega) (fun j v hj => by
        have hlt := (List.getElem?_eq_some_iff.1 hj).1
        simp only [Array.empty_append]
        rw [Array.getElem?_append_left (by simpa using hlt)]
        simpa using hj)
    refine ⟨_, _, _, rfl, ?_, hW, hF⟩
    rw [ren_slice1]
    simp [renA]
  · rename_i a len cap
    split at h
    case' h_2 => cases h
    rename_i t' m n cap' f hs hsp hv
    split at h
    case' isFalse => cases h
    rename_i hte
    split at h
    case' isFalse => cases h
    rename_i hme
    cases h
    subst hte
    subst hme
    obtain ⟨hk, hlen, hoff, h63, h47⟩ := hp
    subst hlen
    obtain ⟨ha0, hmm, hrows, hbase, cur, hheap, hcsz, hncap, hcapE⟩ := hR.mat _ _ hv
    have hne2 : a.off < 2 := by
      revert hoff
      generalize a.off = o
      intro hoff
      match o, hoff with
      | 0, _ => decide
      | 1, _ => decide
      | _ + 2, h => exact h.elim
    have hC : rcap env a cap = (env a.block).cap := by
      unfold rcap
      split
      · rename_i ho
        simp only [ho] at hoff
        rw [hoff.2, hcapE (by omega)]
      · rw [hsp]; rfl
    have hbaseA : renA env { a with off := 0 } = ⟨(env a.block).blk, 0, none⟩ := by simp [renA, hsp, hbase]
    have hrows' : ∀ q, q < len → (rawRow env f hs q).length = ie.size ∧ w.rangeAt (env a.block).blk (0 + q * ie.size) (rawRow env f hs q) := fun q hq => by
      have := hrows q hq; rw [hbase] at this; exact ⟨this.1, this.2.2⟩
    have hfl : ∀ j, j < len → (rawRow env f hs j).length = ie.size := fun j hj => (hrows j hj).1
    have hgl : ∀ j, j < k → (rawRow env g hs' j).length = ie.size := fun j hj => (hbrows j (by omega)).1
    have hJ : ∀ r, rawRow env (joinF len f g) (appH hs (shiftH len hs')) r = joinF len (rawRow env f hs) (rawRow env g hs') r := fun r => by rw [rawRow_app ha0]; rfl
    have hjl : ∀ j, j < len + k → (rawRow env (joinF len f g) (appH hs (shiftH len hs')) j).length = ie.size := fun j hj => by rw [hJ]; exact joinF_len hfl hgl j hj
    have hj1 : ∀ j, j < len + k → ∀ u ∈ rawRow env (joinF len f g) (appH hs (shiftH len hs')) j, u.oneCell' = true := fun j hj => by
      rw [hJ]
      unfold joinF
      split
      · exact (hrows j ‹_›).2.1
      · exact (hbrows (j - len) (by omega)).2.1
    have hbelow := appH_below ha0 (k := k) (fun x hx => by have := hb0 x hx; omega : ∀ x ∈ hs', x.1 < k)
    have hgL : (rowsOf k (rawRow env g hs')).length = k * ie.size := rowsOf_length hgl
    rw [ren_slice env _ _ hne2, hC, hbaseA]
    by_cases hroom : len + k ≤ (env a.block).cap
    · have hfit : len * ie.size + (rowsOf k (rawRow env g hs')).length ≤ cur.size := by
        rw [hgL, hcsz, ← Nat.add_mul]
        exact Nat.mul_le_mul_right _ hroom
      have hrun := run_app_room (w := w) t u ty t' ie _ ht hu (.inr ⟨_, rfl⟩) hie (env a.block).blk len (env a.block).cap k cur hheap (ren env (.slice (some b) k cb)) _ hgL (src hk) (one hk) hroom hfit
      rw [hrun]
      have hmul : len * ie.size ≤ cur.size := by omega
      obtain ⟨hW1, hF1⟩ := hR.setRow hv rfl (o' := .raw t' ie.size (len + k) 0 (joinF len f g) (appH hs (shiftH len hs'))) rfl
        ((cur.toList.take (len * ie.size) ++ rowsOf k (rawRow env g hs') ++ cur.toList.drop (len * ie.size + (rowsOf k (rawRow env g hs')).length)).toArray)
        ⟨hbelow, hmm, fun r hr => ⟨hjl r hr, hj1 r hr, fun j y hj => by
          rw [hbase, Nat.zero_add, cell_of_row _ _ _ _ _ _ (setRow_heap w _ _ _ _ _ hheap)]
          have hjm : j < ie.size := by
            have := (List.getElem?_eq_some_iff.1 hj).1
            rwa [hjl r hr] at this
          simp only [List.getElem?_toArray]
          rw [take_app_drop _ _ _ (by simpa using hfit)]
          rw [hgL]
          rw [hJ] at hj
          unfold joinF at hj
          by_cases hrl : r < len
          · rw [if_pos hrl] at hj
            have hle : (r + 1) * ie.size ≤ len * ie.size := Nat.mul_le_mul_right _ (by omega)
            rw [Nat.add_mul, Nat.one_mul] at hle
            rw [if_neg (by omega)]
            have := (hrows' r (by omega)).2 j y hj
            rw [Nat.zero_add, cell_of_row _ _ _ _ _ _ hheap] at this
            simpa using this
          · rw [if_neg hrl] at hj
            have hle : len * ie.size ≤ r * ie.size := Nat.mul_le_mul_right _ (by omega)
            have hle2 : (r + 1) * ie.size ≤ (len + k) * ie.size := Nat.mul_le_mul_right _ (by omega)
            rw [Nat.add_mul, Nat.one_mul, Nat.add_mul] at hle2
            rw [if_pos (by omega)]
            have e1 : r * ie.size + j - len * ie.size = (r - len) * ie.size + j := by
              rw [Nat.sub_mul]; omega
            rw [e1, rowsOf_get hgl (by omega) hjm]
            exact hj⟩, hbase, _, setRow_heap w _ _ _ _ _ hheap, by
              simp only [List.size_toArray, List.length_append, List.length_take, List.length_drop, Array.length_toList]
              rw [← hcsz]; omega, hroom, fun h => absurd rfl h⟩ hsc trivial
      have hget1 : (V.set a.block (.raw t' ie.size (len + k) 0 (joinF len f g) (appH hs (shiftH len hs'))))[a.block]? = some (.raw t' ie.size (len + k) 0 (joinF len f g) (appH hs (shiftH len hs'))) := by
        have := (List.getElem?_eq_some_iff.1 hv).1
        simp [List.getElem?_set, this]
      obtain ⟨hW2, hF2⟩ := hW1.move hget1 rfl
      rw [List.set_set, List.length_set] at hW2 hF2
      refine ⟨_, _, _, rfl, ?_, hW2, hF1.trans hF2⟩
      rw [ren_slice1]
      simp [renA, hbase]
    · have hcap := grownCap_ge w (len + k) (env a.block).cap t'
      have holds := run_firstCells_some (P := P) w.drew ie.size len (⟨(env a.block).blk, 0, none⟩ : Addr) len (env a.block).cap (rowsOf len (rawRow env f hs)) (rowsOf_length hfl)
        (fun j v hj => real_there hrows' hm (Nat.le_refl len) j v hj)
      have hrun := run_app_grow t u ty t' ie z _ ht hu (.inr ⟨_, rfl⟩) hie hz (some ⟨(env a.block).blk, 0, none⟩) len (env a.block).cap k _ holds (ren env (.slice (some b) k cb)) _ (src hk) (by omega) (by omega) (growslice_fits (by omega) h47)
      rw [hrun]
      obtain ⟨hW, hF⟩ := grown_raw hR (e := t') (m := ie.size) (k := len + k) (q := grownCap w (len + k) (env a.block).cap t') (g := joinF len f g) (hs := appH hs (shiftH len hs'))
        (cs := (rowsOf len (rawRow env f hs)).toArray ++ (rowsOf k (rawRow env g hs')).toArray ++ Builtin.zeroCells z.cells (grownCap w (len + k) (env a.block).cap t' - (len + k))) hbelow hjl hj1 hsc
        (by
          simp only [Array.size_append, size_zeroCells, hzs, List.size_toArray, rowsOf_length hgl, rowsOf_length hfl]
          rw [← Nat.add_mul, ← Nat.add_mul]
          congr 1; omega) hcap (fun j v hj => by
          rw [rowsOf_congr (fun j _ => hJ j), rowsOf_join] at hj
          have hlt := (List.getElem?_eq_some_iff.1 hj).1
          rw [Array.getElem?_append_left (by simpa using hlt)]
          simpa using hj)
      have hil := (List.getElem?_eq_some_iff.1 hv).1
      have hset : (V ++ [VObj.raw t' ie.size (len + k) 0 (joinF len f g) (appH hs (shiftH len hs'))]).set a.block .dead = V.set a.block .dead ++ [VObj.raw t' ie.size (len + k) 0 (joinF len f g) (appH hs (shiftH len hs'))] := by
        rw [List.set_append_left _ _ hil]
      have hget : (V ++ [VObj.raw t' ie.size (len + k) 0 (joinF len f g) (appH hs (shiftH len hs'))])[a.block]? = some (.raw t' ie.size len cap' f hs) := by rw [List.getElem?_append_left hil]; exact hv
      have hW' := hW.kill (i := a.block) hget rfl
      have hF' := hF.kill (i := a.block) hget rfl
      rw [hset] at hW' hF'
      refine ⟨_, _, _, rfl, ?_, hW', hF'⟩
      rw [ren_slice1]
      simp [renA]
  · cases h
end Go.X
