/- What the symbolic run says of the real one: append. -/
import Derived.Test.YtgnhcoefocbmpaaGreatXS5
import Derived.Laws.AppendOwn
import Derived.Lib.Strings
set_option linter.unusedSimpArgs false
set_option linter.unusedSectionVars false
set_option linter.unusedVariables false
namespace Go.X
open Go
variable [WI] [WD]
variable {P : Program} {env : Nat → Loc} {V : VW} {w : World}

theorem get_app {V : VW} {o o' : VObj} {i : Nat} (h : (V ++ [o])[i]? = some o') : (i < V.length ∧ V[i]? = some o') ∨ (i = V.length ∧ o' = o) := by
  rw [List.getElem?_append] at h
  split at h
  · exact .inl ⟨‹_›, h⟩
  · right
    have : i - V.length = 0 := by
      rcases Nat.eq_zero_or_pos (i - V.length) with h0 | h0
      · exact h0
      · rw [List.getElem?_eq_none (by simp; omega)] at h; cases h
    rw [this] at h
    exact ⟨by omega, by simpa using h.symm⟩

theorem ScO.mono {n m : Nat} {o : VObj} (h : ScO n o) (hn : n ≤ m) : ScO m o := by
  cases o with
  | cells _ _ => exact fun x hx => (h x hx).mono hn
  | rows _ _ _ _ _ _ => exact h
  | iter _ _ => trivial
  | mp es _ => exact fun e hm => ⟨(h e hm).1.mono hn, (h e hm).2.mono hn⟩
  | mq _ => trivial
  | vec _ _ _ _ => exact h
  | arg _ _ _ _ => trivial
  | tab _ _ _ _ => trivial
  | raw _ _ _ _ _ _ => exact fun x hx v hv => ⟨(h x hx v hv).1.mono hn, (h x hx v hv).2⟩
  | dead => trivial

theorem Fr.kill {env' : Nat → Loc} {V' : VW} {w' : World} (h : Fr env V w env' V' w') {i : Nat} {o : VObj} (hi : V'[i]? = some o) (ho : o.owned = true) : Fr env V w env' (V'.set i .dead) w' :=
  ⟨h.agree, by rw [List.length_set]; exact h.len, h.os, h.tape, h.output, h.size, h.keep, fun j oj hj ho' => by
    rcases setV_get hj with ⟨rfl, rfl, _⟩ | ⟨_, hj'⟩
    · exact ho'.2.elim
    · exact h.own j oj hj' ho'⟩

/-- a place is forgotten -/
theorem RepW.kill (hR : RepW env V w) {i : Nat} {o : VObj} (hi : V[i]? = some o) (ho : o.owned = true) : RepW env (V.set i .dead) w := by
  refine hR.mk' ((Fr.refl env V w).kill hi ho) (fun j oj hj => ?_) (fun j oj hj => ?_) (fun j oj hj hB => ?_) (fun j k oj ok hj hk hjk hw hl hBj hBk => ?_)
  · rcases setV_get hj with ⟨rfl, rfl, _⟩ | ⟨_, hj'⟩
    · trivial
    · exact hR.mat j oj hj'
  · rw [List.length_set]
    rcases setV_get hj with ⟨rfl, rfl, _⟩ | ⟨_, hj'⟩
    · trivial
    · exact hR.sc j oj hj'
  · rcases setV_get hj with ⟨rfl, rfl, _⟩ | ⟨_, hj'⟩
    · exact hB.elim
    · exact hR.blk j oj hj' hB
  · rcases setV_get hj with ⟨rfl, rfl, _⟩ | ⟨_, hj'⟩
    · cases hw
    · rcases setV_get hk with ⟨rfl, rfl, _⟩ | ⟨_, hk'⟩
      · cases hl
      · exact hR.sep j k oj ok hj' hk' hjk hw hl hBj hBk

/-- a place goes to a new number -/
theorem RepW.move (hR : RepW env V w) {i : Nat} {o : VObj} (hi : V[i]? = some o) (hw : o.writes = true) :
    let env' : Nat → Loc := fun j => if j = V.length then env i else env j
    RepW env' (V.set i .dead ++ [o]) w ∧ Fr env V w env' (V.set i .dead ++ [o]) w := by
  intro env'
  have hl : o.live = true := by cases o <;> simp_all [VObj.writes, VObj.live]
  have hown : o.owned = true := by cases o <;> simp_all [VObj.writes, VObj.owned]
  have hil : i < V.length := (List.getElem?_eq_some_iff.1 hi).1
  have hag : ∀ j, j < V.length → env' j = env j := fun j hj => by simp [env', Nat.ne_of_lt hj]
  have hnew : env' V.length = env i := by simp [env']
  have hget : ∀ {j : Nat} {oj : VObj}, (V.set i .dead ++ [o])[j]? = some oj → (j = i ∧ oj = .dead) ∨ (j < V.length ∧ j ≠ i ∧ V[j]? = some oj) ∨ (j = V.length ∧ oj = o) := by
    intro j oj h
    rcases get_app h with ⟨_, h⟩ | ⟨h1, h2⟩
    · rcases setV_get h with ⟨hji, rfl, _⟩ | ⟨hne, h⟩
      · exact .inl ⟨hji, rfl⟩
      · exact .inr (.inl ⟨(List.getElem?_eq_some_iff.1 h).1, hne, h⟩)
    · exact .inr (.inr ⟨by simpa using h1, h2⟩)
  refine pairRF hR (fun j oj hj => ?_) (fun j oj hj => ?_) (fun j oj hj hB => ?_) (fun j k oj ok hj hk hjk hw' hl' hBj hBk => ?_) ⟨hag, by simp, rfl, rfl, rfl, Nat.le_refl _, fun _ _ _ => rfl, fun j oj hj ho => ?_⟩
  · rcases hget hj with ⟨rfl, rfl⟩ | ⟨hlt, _, h⟩ | ⟨rfl, rfl⟩
    · trivial
    · rw [hag j hlt]; exact (hR.mat j oj h).keep (fun _ => rfl) (hR.sc j oj h) hag
    · rw [hnew]; exact (hR.mat i _ hi).keep (fun _ => rfl) (hR.sc i _ hi) hag
  · rw [List.length_append, List.length_set, List.length_singleton]
    rcases hget hj with ⟨rfl, rfl⟩ | ⟨hlt, _, h⟩ | ⟨rfl, rfl⟩
    · trivial
    · exact (hR.sc j oj h).mono (by omega)
    · exact (hR.sc i _ hi).mono (by omega)
  · rcases hget hj with ⟨rfl, rfl⟩ | ⟨hlt, hne, h⟩ | ⟨rfl, rfl⟩
    · exact hB.elim
    · rw [hag j hlt] at hB ⊢; exact hR.blk j oj h hB
    · rw [hnew] at hB ⊢; exact hR.blk i _ hi hB
  · rcases hget hj with ⟨rfl, rfl⟩ | ⟨hlt, hne, h⟩ | ⟨rfl, rfl⟩
    · cases hw'
    · rcases hget hk with ⟨rfl, rfl⟩ | ⟨hlt2, hne2, h2⟩ | ⟨rfl, rfl⟩
      · cases hl'
      · rw [hag j hlt] at hBj ⊢; rw [hag k hlt2] at hBk ⊢; exact hR.sep j k oj ok h h2 hjk hw' hl' hBj hBk
      · rw [hag j hlt] at hBj ⊢; rw [hnew] at hBk ⊢; exact hR.sep j i oj _ h hi hne hw' hl' hBj hBk
    · rcases hget hk with ⟨rfl, rfl⟩ | ⟨hlt2, hne2, h2⟩ | ⟨rfl, rfl⟩
      · cases hl'
      · rw [hag k hlt2] at hBk ⊢; rw [hnew] at hBj ⊢; exact hR.sep i k _ ok hi h2 (Ne.symm hne2) hw' hl' hBj hBk
      · exact absurd rfl hjk
  · rcases hget hj with ⟨rfl, rfl⟩ | ⟨hlt, hne, h⟩ | ⟨rfl, rfl⟩
    · exact ho.2.elim
    · rw [hag j hlt] at ho ⊢; exact .inl ⟨j, oj, h, ho, rfl⟩
    · rw [hnew] at ho ⊢; exact .inl ⟨i, _, hi, ho, rfl⟩

/-! ### The rows of a function -/
def rowsOf (k : Nat) (g : Nat → List Value) : List Value := ((List.range k).map g).flatten

theorem rowsOf_succ (k : Nat) (g : Nat → List Value) : rowsOf (k + 1) g = rowsOf k g ++ g k := by
  simp [rowsOf, List.range_succ]

theorem rowsOf_length {k m : Nat} {g : Nat → List Value} (h : ∀ j, j < k → (g j).length = m) : (rowsOf k g).length = k * m := by
  induction k with
  | zero => simp [rowsOf]
  | succ k ih =>
    rw [rowsOf_succ, List.length_append, ih (fun j hj => h j (by omega)), h k (by omega), Nat.add_mul, Nat.one_mul]

theorem rowsOf_get {k m : Nat} {g : Nat → List Value} (h : ∀ j, j < k → (g j).length = m) {r j : Nat} (hr : r < k) (hj : j < m) : (rowsOf k g)[r * m + j]? = (g r)[j]? := by
  have := flatten_get ((List.range k).map g) m r j (fun x hx => by
    obtain ⟨y, hy, rfl⟩ := List.mem_map.1 hx
    exact h y (by simpa using hy)) (by simpa using hr) hj
  rw [rowsOf, this, nth_eq]
  simp [List.getD, hr]

theorem rowsOf_join (n k : Nat) (f g : Nat → List Value) : rowsOf (n + k) (joinF n f g) = rowsOf n f ++ rowsOf k g := by
  have h1 : ∀ k, rowsOf (n + k) (joinF n f g) = rowsOf n f ++ rowsOf k g := by
    intro k
    induction k with
    | zero =>
      have : rowsOf n (joinF n f g) = rowsOf n f := by
        unfold rowsOf
        congr 1
        apply List.map_congr_left
        intro j hj
        simp at hj
        simp [joinF, hj]
      rw [Nat.add_zero, this]; simp [rowsOf]
    | succ k ih =>
      rw [show n + (k + 1) = (n + k) + 1 by omega, rowsOf_succ, ih, rowsOf_succ, List.append_assoc]
      congr 2
      have : ¬ (n + k < n) := by omega
      simp [joinF, this]
  exact h1 k

theorem rowsOf_eq {cs : List Value} {k m : Nat} {g : Nat → List Value} (h : ∀ j, j < k → (g j).length = m) (hl : cs.length = k * m)
    (hget : ∀ r j, r < k → j < m → cs[r * m + j]? = (g r)[j]?) : cs = rowsOf k g := by
  apply List.ext_getElem?
  intro i
  by_cases hi : i < k * m
  · have hm : 0 < m := by
      rcases Nat.eq_zero_or_pos m with h0 | h0
      · subst h0; simp at hi
      · exact h0
    have hr : i / m < k := by rw [Nat.div_lt_iff_lt_mul hm]; exact hi
    have hj : i % m < m := Nat.mod_lt _ hm
    have e : i = (i / m) * m + i % m := by rw [Nat.mul_comm]; exact (Nat.div_add_mod i m).symm
    rw [e, hget _ _ hr hj, rowsOf_get h hr hj]
  · rw [List.getElem?_eq_none (by omega), List.getElem?_eq_none (by rw [rowsOf_length h]; omega)]

/-! ### append, as the model runs it -/
structure SrcOK (P : Program) (w : World) (m k : Nat) (x : Value) (news : List Value) : Prop where
  len : (Builtin.lenOf x).run P w = .ok k w
  first : ∀ w2 : World, w2.heap = w.heap → (Builtin.firstCells m k x).run P w2 = .ok news.toArray w2

theorem run_app_room (t u ty e : TypeId) (i : TypeInfo) (d : TypeDesc) (ht : P.underlying t = some (.slice e)) (hu : P.underlying u = some d) (hd : d = .string ∨ ∃ e', d = .slice e') (hi : P.info? e = some i)
    (g sLen sCap k : Nat) (cur : Array Value) (hg : w.heap[g]? = some (.cells cur e (0, 0))) (x : Value) (news : List Value) (hl : news.length = k * i.size) (hx : SrcOK P w i.size k x news)
    (h1 : ∀ u ∈ news, u.oneCell' = true) (hroom : sLen + k ≤ sCap) (hfit : sLen * i.size + news.length ≤ cur.size) :
    (Builtin.append_ #[t, u] ty #[.slice (some ⟨g, 0, none⟩) sLen sCap, x]).run P w =
      .ok (.slice (some ⟨g, 0, none⟩) (sLen + k) sCap) (w.setRow g (cur.toList.take (sLen * i.size) ++ news ++ cur.toList.drop (sLen * i.size + news.length)).toArray) := by
  have hf := hx.first w rfl
  have hst := run_storeCells_at P g (sLen * i.size) e news 0 cur w hg (by simpa using hfit) h1
  simp only [Nat.add_zero] at hst
  rcases hd with rfl | ⟨e', rfl⟩ <;> simp [Builtin.append_, run_underlying ht, run_underlying hu, sizeOf, typeInfo, hi, hx.len, hroom, hf, Addr.add_lit, hst]

theorem run_app_grow (t u ty e : TypeId) (i : TypeInfo) (z : Value) (d : TypeDesc) (ht : P.underlying t = some (.slice e)) (hu : P.underlying u = some d) (hd : d = .string ∨ ∃ e', d = .slice e') (hi : P.info? e = some i) (hz : i.zero = some z)
    (b : Option Addr) (sLen sCap k : Nat) (olds : List Value) (holds : (Builtin.firstCells i.size sLen (.slice b sLen sCap)).run P w.drew = .ok olds.toArray w.drew)
    (x : Value) (news : List Value) (hx : SrcOK P w i.size k x news)
    (hg : sCap < sLen + k) (h63 : ((sLen + k : Nat) : Int) ≤ 9223372036854775807) (hfit : Builtin.nextslicecap (sLen + k) sCap * i.bytes ≤ 281474976710656) :
    (Builtin.append_ #[t, u] ty #[.slice b sLen sCap, x]).run P w =
      .ok (.slice (some ⟨w.heap.size, 0, none⟩) (sLen + k) (grownCap w (sLen + k) sCap e))
        (w.drew.alloc (.cells (olds.toArray ++ news.toArray ++ Builtin.zeroCells z.cells (grownCap w (sLen + k) sCap e - (sLen + k))) e)) := by
  have hn : ¬ (sLen + k ≤ sCap) := by omega
  have h63' : ¬ (9223372036854775807 < ((sLen : Int) + (k : Int))) := by omega
  have h48' : ¬ (281474976710656 < Builtin.nextslicecap (sLen + k) sCap * i.bytes) := by omega
  have hf := hx.first w.drew rfl
  have e1 : (olds ++ news).toArray = olds.toArray ++ news.toArray := by apply Array.ext'; simp
  rcases hd with rfl | ⟨e', rfl⟩ <;> simp [Builtin.append_, run_underlying ht, run_underlying hu, sizeOf, typeInfo, zeroValue, hi, hz, hx.len, hn, h63', h48', Question.forced, hf, holds, newRow, grownCap, e1, -List.append_toArray]

theorem oneCell_ren (env : Nat → Loc) {v : Value} (h : cellC v = true) : (ren env v).oneCell' = true := by
  cases v <;> first | (simp [cellC] at h; done) | simp [Value.oneCell', ren_iface, ren_func] | skip
  case pointer a => cases a <;> simp [ren_ptr, Value.oneCell']
  case slice a l c =>
    cases a with
    | none => simp [Value.oneCell']
    | some a => obtain ⟨p, c', h'⟩ := ren_slice_form env a l c; simp [h', Value.oneCell']
  case map a => cases a <;> simp [ren_map, Value.oneCell']

theorem mem_rowsOf {k : Nat} {g : Nat → List Value} {v : Value} (h : v ∈ rowsOf k g) : ∃ j, j < k ∧ v ∈ g j := by
  obtain ⟨x, hx, hv⟩ := List.mem_flatten.1 h
  obtain ⟨j, hj, rfl⟩ := List.mem_map.1 hx
  exact ⟨j, by simpa using hj, hv⟩

/-- the cells of some rows of a place -/
theorem rows_there (hR : RepW env V w) {a : Addr} {r k : Nat} {own : Bool} {t : TypeId} {m n cap : Nat} {f : Nat → List Value} (hs : a.spot = some r) (hv : V[a.block]? = some (.rows own t m n cap f)) (hm : 0 < m)
    (hk : r + k ≤ n) : (∀ j, j < k → (f (r + j)).length = m) ∧ ∀ j v, ((rowsOf k fun j => f (r + j)).map (ren env))[j]? = some v → w.cell? ((renA env { a with off := 0 }).add j) = some v := by
  obtain ⟨hmm, hrows, _⟩ := hR.mat _ _ hv
  have hl : ∀ j, j < k → (f (r + j)).length = m := fun j hj => (hrows (r + j) (by omega)).1
  refine ⟨hl, fun j v hj => ?_⟩
  have hjk : j < k * m := by
    have := (List.getElem?_eq_some_iff.1 hj).1
    rwa [List.length_map, rowsOf_length (g := fun j => f (r + j)) hl] at this
  have hr : j / m < k := by rw [Nat.div_lt_iff_lt_mul hm]; exact hjk
  have hjm : j % m < m := Nat.mod_lt _ hm
  have e : j = (j / m) * m + j % m := by rw [Nat.mul_comm]; exact (Nat.div_add_mod j m).symm
  have h1 : ((f (r + j / m)).map (ren env))[j % m]? = some v := by
    rw [List.getElem?_map] at hj ⊢
    rw [e, rowsOf_get (g := fun j => f (r + j)) hl hr hjm] at hj
    exact hj
  have := (hrows (r + j / m) (by omega)).2 (j % m) v h1
  have hadd : (renA env { a with off := 0 }).add j = ⟨(env a.block).blk, (env a.block).base + (r + j / m) * m + j % m, none⟩ := by
    unfold renA Addr.add
    simp only [hs, hmm]
    have e2 : (r + j / m) * m + j % m = r * m + j := by rw [Nat.add_mul, Nat.add_assoc, ← e]
    by_cases hj0 : j = 0
    · subst hj0; simp
    · simp only [hj0, if_false]
      congr 1
      omega
  rw [hadd]
  exact this

/-- the cells of some rows of what was there at the start -/
theorem args_there (hR : RepW env V w) {a : Addr} {r k : Nat} {t : TypeId} {m n : Nat} {f : Nat → List Value} (hs : a.spot = some r) (hv : V[a.block]? = some (.arg t m n f)) (hm : 0 < m)
    (hk : r + k ≤ n) : (∀ j, j < k → (f (r + j)).length = m ∧ (f (r + j)).all plainC = true) ∧ ∀ j v, ((rowsOf k fun j => f (r + j)).map (ren env))[j]? = some v → w.cell? ((renA env { a with off := 0 }).add j) = some v := by
  have hrows : ∀ q, q < n → (f q).length = m ∧ w.rangeAt (env a.block).blk ((env a.block).base + q * m) ((f q).map (ren env)) := fun q hq => by
    obtain ⟨_, hmm, h1, _, h2⟩ := argAt hR hv hq
    exact ⟨h1, by rw [hmm] at h2; exact h2⟩
  have hl : ∀ j, j < k → (f (r + j)).length = m := fun j hj => (hrows (r + j) (by omega)).1
  refine ⟨fun j hj => ⟨hl j hj, (argAt hR hv (r := r + j) (by omega)).2.2.2.1⟩, fun j v hj => ?_⟩
  have hjk : j < k * m := by
    have := (List.getElem?_eq_some_iff.1 hj).1
    rwa [List.length_map, rowsOf_length (g := fun j => f (r + j)) hl] at this
  have hr : j / m < k := by rw [Nat.div_lt_iff_lt_mul hm]; exact hjk
  have hjm : j % m < m := Nat.mod_lt _ hm
  have e : j = (j / m) * m + j % m := by rw [Nat.mul_comm]; exact (Nat.div_add_mod j m).symm
  have h1 : ((f (r + j / m)).map (ren env))[j % m]? = some v := by
    rw [List.getElem?_map] at hj ⊢
    rw [e, rowsOf_get (g := fun j => f (r + j)) hl hr hjm] at hj
    exact hj
  have := (hrows (r + j / m) (by omega)).2 (j % m) v h1
  have hmm : (env a.block).m = m := (argAt hR hv (r := r + j / m) (by omega)).2.1
  have hadd : (renA env { a with off := 0 }).add j = ⟨(env a.block).blk, (env a.block).base + (r + j / m) * m + j % m, none⟩ := by
    unfold renA Addr.add
    simp only [hs, hmm]
    have e2 : (r + j / m) * m + j % m = r * m + j := by rw [Nat.add_mul, Nat.add_assoc, ← e]
    by_cases hj0 : j = 0
    · subst hj0; simp
    · simp only [hj0, if_false]
      congr 1
      omega
  rw [hadd]
  exact this

theorem plain_cellC {v : Value} (h : plainC v = true) : cellC v = true := by
  cases v <;> first | rfl | (simp [plainC] at h; done)

theorem xsrc_ok (hR : RepW env V w) {u : TypeId} {m k : Nat} {x : Value} {q : Prop} {g : Nat → List Value} (h : xsrc P V u m x = .src q k g) (hq : q) (hm : 0 < m) :
    (∃ d, P.underlying u = some d ∧ (d = .string ∨ ∃ e', d = .slice e')) ∧ (∀ j, j < k → (g j).length = m ∧ ∀ v ∈ g j, Sc 0 v ∧ cellC v = true) ∧ SrcOK P w m k (ren env x) ((rowsOf k g).map (ren env)) := by
  unfold xsrc at h
  split at h
  · rename_i s hu
    split at h
    · rename_i hm1
      cases h
      have hm1' := Nat.eq_of_beq_eq_true hm1
      subst hm1'
      refine ⟨⟨_, hu, .inl rfl⟩, fun j hj => ⟨rfl, fun v hv => ?_⟩, ?_⟩
      · simp only [u8, List.mem_singleton] at hv
        subst hv
        exact ⟨.plain rfl, rfl⟩
      · refine ⟨by simp [Builtin.lenOf], fun w2 hw => ?_⟩
        simp only [ren_string, Builtin.firstCells, Sem.run_pure]
        congr 1
        apply Array.ext'
        have h1 : (s.extract 0 s.size).data = s.data := by
          apply Array.ext'
          rw [Lib.extract_data, List.drop_zero, Nat.sub_zero]
          exact List.take_of_length_le (by rw [Lib.size_eq]; exact Nat.le_refl _)
        rw [h1]
        simp only [Array.toList_map, List.toList_toArray]
        apply List.ext_getElem?
        intro j
        have hsz : s.size = s.data.toList.length := rfl
        by_cases hj : j < s.size
        · have hg := rowsOf_get (k := s.size) (m := 1) (g := u8 s) (fun _ _ => rfl) (r := j) (j := 0) hj (by omega)
          simp only [Nat.mul_one, Nat.add_zero] at hg
          rw [List.getElem?_map, List.getElem?_map, hg, List.getElem?_eq_getElem (by rw [← hsz]; exact hj)]
          simp [u8, List.getD, List.getElem?_eq_getElem (show j < s.data.toList.length by rw [← hsz]; exact hj)]
        · rw [List.getElem?_eq_none (by simp; rw [hsz] at hj; simpa using hj), List.getElem?_eq_none]
          rw [List.length_map, rowsOf_length (m := 1) (fun _ _ => rfl)]; omega
    · cases h
  · rename_i e b k' c hu
    split at h
    · rename_i r own t' m' n cap f hs hv
      split at h
      · rename_i hmm
        split at h
        · cases h
        rename_i hoff
        have hoff : b.off < 2 := Nat.blt_eq ▸ hoff
        cases h
        subst hmm
        obtain ⟨hl, hc⟩ := rows_there hR hs hv hm hq
        have hsc := hR.sc _ _ hv
        refine ⟨⟨_, hu, .inr ⟨_, rfl⟩⟩, fun j hj => ⟨hl j hj, hsc (r + j) (by omega)⟩, ?_⟩
        rw [ren_slice env _ _ hoff]
        refine ⟨by simp [Builtin.lenOf], fun w2 hw => ?_⟩
        refine run_firstCells_some w2 m' k (renA env { b with off := 0 }) k (rcap env b c) _ (by rw [List.length_map, rowsOf_length (g := fun j => f (r + j)) hl]) fun j v hj => ?_
        have := hc j v hj
        simpa [World.cell?, hw] using this
      · cases h
    · rename_i r t' m' n f hs hv
      split at h
      · rename_i hmm
        split at h
        · cases h
        rename_i hoff
        have hoff : b.off = 3 := Nat.eq_of_beq_eq_true hoff
        cases h
        subst hmm
        obtain ⟨hl, hc⟩ := args_there hR hs hv hm hq
        refine ⟨⟨_, hu, .inr ⟨_, rfl⟩⟩, fun j hj => ⟨(hl j hj).1, fun v hv => ?_⟩, ?_⟩
        · have := List.all_eq_true.1 (hl j hj).2 v hv
          exact ⟨.plain this, plain_cellC this⟩
        obtain ⟨hz, hnz, _⟩ := hR.mat _ _ hv
        have zero : (env b.block).cap < 2 → k = 0 := fun hc => by have := hz hc; omega
        rcases cap3 (env b.block).cap with hcap | hcap | hcap
        · have hk0 := zero (by omega)
          subst hk0
          rw [slice30 env _ _ hoff hcap]
          refine ⟨by simp [Builtin.lenOf], fun w2 hw => ?_⟩
          rw [run_firstCells_none]
          simp [rowsOf]
        · have hk0 := zero (by omega)
          subst hk0
          rw [slice31 env _ _ hoff hcap]
          refine ⟨by simp [Builtin.lenOf], fun w2 hw => ?_⟩
          exact run_firstCells_some w2 m' 0 _ 0 _ _ (by simp [rowsOf]) fun j v hj => by simp [rowsOf] at hj
        · rw [slice3 env k c hoff hcap]
          refine ⟨by simp [Builtin.lenOf], fun w2 hw => ?_⟩
          refine run_firstCells_some w2 m' k (renA env { b with off := 0 }) k _ _ (by rw [List.length_map, rowsOf_length (g := fun j => f (r + j)) (fun j hj => (hl j hj).1)]) fun j v hj => ?_
          have := hc j v hj
          simpa [World.cell?, hw] using this
      · cases h
    · cases h
  · cases h

def killV (V : VW) (i : Option Nat) : VW := match i with | some i => V.set i .dead | none => V

theorem killK_eq {β : Type} (V : VW) (i : Option Nat) (k : VW → β) : killK V i k = k (killV V i) := by
  cases i <;> simp [killK, killV, setK_eq]

theorem killV_len (V : VW) (i : Option Nat) : (killV V i).length = V.length := by cases i <;> simp [killV]

theorem drewW (hR : RepW env V w) : RepW env V w.drew :=
  ⟨fun i o hi => by
    have := hR.mat i o hi
    cases o with
    | cells t c => exact this
    | rows own t m n cap f => exact this
    | iter s pos => exact this
    | mp => exact this
    | mq g => exact this
    | vec t m n f => exact this
    | arg t m n f => exact this
    | tab t m n f => exact this
    | raw t m n cap f hs => exact this
    | dead => trivial, hR.sc, hR.blk, hR.sep, WI.keep w w.drew (fun _ _ => rfl) hR.inv, hR.low, hR.room⟩

theorem joinF_len {m n k : Nat} {f g : Nat → List Value} (hf : ∀ j, j < n → (f j).length = m) (hg : ∀ j, j < k → (g j).length = m) : ∀ j, j < n + k → (joinF n f g j).length = m := by
  intro j hj
  unfold joinF
  split
  · exact hf j ‹_›
  · exact hg (j - n) (by omega)

/-- a new block that begins with the rows of a function -/
theorem grown_ok (hR : RepW env V w) {e : TypeId} {m k q : Nat} {g : Nat → List Value} {cs : Array Value} (hl : ∀ j, j < k → (g j).length = m) (hsc : ∀ j, j < k → ∀ v ∈ g j, Sc 0 v ∧ cellC v = true)
    (hsz : cs.size = q * m) (hq : k ≤ q) (hpre : ∀ (j : Nat) (v : Value), ((rowsOf k g).map (ren env))[j]? = some v → cs[j]? = some v) :
    let env' : Nat → Loc := fun i => if i = V.length then ⟨w.heap.size, 0, m, q⟩ else env i
    RepW env' (V ++ [.rows true e m k 0 g]) (w.drew.alloc (.cells cs e)) ∧ Fr env V w env' (V ++ [.rows true e m k 0 g]) (w.drew.alloc (.cells cs e)) := by
  have hR' := drewW hR
  have hs0 : (w.drew).heap.size = w.heap.size := rfl
  have := hR'.allocO (o := .rows true e m k 0 g) (ob := .cells cs e) (m := m) (q := q) hsc fun env' hag => by
    refine ⟨rfl, fun r hr => ⟨hl r hr, fun j v hj => ?_⟩, fun _ => ⟨rfl, cs, heap_alloc_new _ _, hsz, hq, fun h => absurd rfl h⟩⟩
    have hjm : j < m := by
      have := (List.getElem?_eq_some_iff.1 hj).1
      rwa [List.length_map, hl r hr] at this
    rw [cell_of_row _ _ _ _ _ _ (heap_alloc_new _ _)]
    refine (show cs[0 + r * m + j]? = some v from ?_)
    rw [Nat.zero_add]
    apply hpre
    rw [List.getElem?_map, rowsOf_get hl hr hjm]
    rw [List.getElem?_map] at hj
    cases hgj : (g r)[j]? with
    | none => rw [hgj] at hj; cases hj
    | some y =>
      rw [hgj] at hj
      simp only [Option.map_some, Option.some.injEq] at hj ⊢
      rw [← hj]
      exact (hsc r hr y (List.mem_of_getElem? hgj)).1 env env' (fun i hi => absurd hi (Nat.not_lt_zero i))
  obtain ⟨h1, h2⟩ := this
  exact ⟨h1, ⟨h2.agree, h2.len, h2.os, h2.tape, h2.output, h2.size, h2.keep, h2.own⟩⟩

theorem zsize {z : Value} {m : Nat} (hc : isC z = false) (hl : (vcells z).length = m) : z.cells.size = m := by
  have : z.cells = (vcells z).toArray := by cases z <;> simp_all [vcells, Value.cells, isC]
  rw [this]; simpa using hl

theorem grownCap_size (w : World) (need old : Nat) (e : TypeId) (a b : Nat) (h : a = need) : need ≤ grownCap w need old e := grownCap_ge w need old e

/-- APPEND -/
theorem append_ok0 (hR : RepW env V w) {t u ty : TypeId} {s x : Value} {v : Nat → Value} {p : Prop} {i : Option Nat} {ob : VObj} (h : xappend0 P V t u s x = .grow p i ob v) (hp : p) :
    ∃ u' w' env', (Builtin.append_ #[t, u] ty #[ren env s, ren env x]).run P w = .ok u' w' ∧ u' = ren env' (v V.length) ∧ RepW env' (killV V i ++ [ob]) w' ∧ Fr env V w env' (killV V i ++ [ob]) w' := by
  unfold xappend0 at h
  split at h
  · rename_i e ht
    split at h
    · rename_i ie hie
      split at h
      · rename_i z hz
        split at h
        · rename_i q k g hc hzl hpos hsrc
          have hzs : z.cells.size = ie.size := zsize hc (Nat.eq_of_beq_eq_true hzl)
          have hm : 0 < ie.size := by rwa [Nat.blt_eq] at hpos
          split at h
          · cases h
            obtain ⟨hq, hk, h63, h47⟩ := hp
            obtain ⟨⟨d, hu, hd⟩, hg, hsok⟩ := xsrc_ok hR hsrc hq hm
            have hrun := run_app_grow t u ty e ie z d ht hu hd hie hz none 0 0 k [] (run_firstCells_none w.drew ie.size 0 0 0) (ren env x) _ hsok (by omega) (by omega) (growslice_fits (by omega) (by simpa using h47))
            rw [ren_snone, hrun]
            have hcap := grownCap_ge w (0 + k) 0 e
            obtain ⟨hW, hF⟩ := grown_ok hR (e := e) (m := ie.size) (k := k) (q := grownCap w (0 + k) 0 e) (g := g)
              (cs := #[] ++ ((rowsOf k g).map (ren env)).toArray ++ Builtin.zeroCells z.cells (grownCap w (0 + k) 0 e - (0 + k))) (fun j hj => (hg j hj).1) (fun j hj => (hg j hj).2)
              (by
                simp only [Array.size_append, size_zeroCells, hzs, List.size_toArray, List.length_map, rowsOf_length (m := ie.size) (fun j hj => (hg j hj).1), Array.size_empty]
                simp only [Nat.zero_add] at hcap ⊢
                rw [List.length_nil, Nat.zero_add, ← Nat.add_mul]
                congr 1; omega) (by omega) (fun j v hj => by
                have hlt := (List.getElem?_eq_some_iff.1 hj).1
                simp only [Array.empty_append]
                rw [Array.getElem?_append_left (by simpa using hlt)]
                simpa using hj)
            refine ⟨_, _, _, rfl, ?_, hW, hF⟩
            dsimp only
            rw [ren_slice1]
            simp [renA]
          · rename_i a len cap
            split at h
            · rename_i t' m n cap' f hs hv
              split at h
              · rename_i hte
                split at h
                · rename_i hme
                  cases h
                  subst hte
                  subst hme
                  obtain ⟨hq, hlen, hoff, h63, h47⟩ := hp
                  obtain ⟨⟨d, hu, hd⟩, hg, hsok⟩ := xsrc_ok hR hsrc hq hm
                  obtain ⟨hmm, hrows, hown⟩ := hR.mat _ _ hv
                  obtain ⟨hbase, cur, hheap, hcsz, hncap, hcapE⟩ := hown rfl
                  have hne2 : a.off < 2 := by
                    revert hoff
                    generalize a.off = o
                    intro hoff
                    match o, hoff with
                    | 0, _ => decide
                    | 1, _ => decide
                    | _ + 2, h => exact h.elim
                  have hC : rcap env a cap = (env a.block).cap := by
                    unfold rcap
                    split
                    · rename_i ho
                      simp only [ho] at hoff
                      rw [hoff.2, hcapE (by omega)]
                    · rw [hs]; rfl
                  have hbaseA : renA env { a with off := 0 } = ⟨(env a.block).blk, 0, none⟩ := by simp [renA, hs, hbase]
                  have hscf := hR.sc _ _ hv
                  have hfl : ∀ j, j < len → (f j).length = ie.size := fun j hj => (hrows j (by omega)).1
                  have hgl : ∀ j, j < k → (g j).length = ie.size := fun j hj => (hg j hj).1
                  have hjl := joinF_len hfl hgl
                  have hjsc : ∀ j, j < len + k → ∀ v ∈ joinF len f g j, Sc 0 v ∧ cellC v = true := by
                    intro j hj
                    unfold joinF
                    split
                    · exact hscf j (by omega)
                    · exact (hg (j - len) (by omega)).2
                  have hgL : ((rowsOf k g).map (ren env)).length = k * ie.size := by rw [List.length_map, rowsOf_length hgl]
                  rw [ren_slice env _ _ hne2, hC, hbaseA]
                  by_cases hroom : len + k ≤ (env a.block).cap
                  · have hfit : len * ie.size + ((rowsOf k g).map (ren env)).length ≤ cur.size := by
                      rw [hgL, hcsz, ← Nat.add_mul]
                      exact Nat.mul_le_mul_right _ hroom
                    have hrun := run_app_room (w := w) t u ty t' ie d ht hu hd hie (env a.block).blk len (env a.block).cap k cur hheap (ren env x) _ hgL hsok (fun y hy => by
                      obtain ⟨y', hy', rfl⟩ := List.mem_map.1 hy
                      obtain ⟨j, hj, hy2⟩ := mem_rowsOf hy'
                      exact oneCell_ren env ((hg j hj).2 y' hy2).2) hroom hfit
                    rw [hrun]
                    have hmul : len * ie.size ≤ cur.size := by omega
                    obtain ⟨hW1, hF1⟩ := hR.setRow hv rfl (o' := .rows true t' ie.size (len + k) 0 (joinF len f g)) rfl
                      ((cur.toList.take (len * ie.size) ++ (rowsOf k g).map (ren env) ++ cur.toList.drop (len * ie.size + ((rowsOf k g).map (ren env)).length)).toArray)
                      ⟨hmm, fun r hr => ⟨hjl r hr, fun j y hj => by
                        rw [hbase, Nat.zero_add, cell_of_row _ _ _ _ _ _ (setRow_heap w _ _ _ _ _ hheap)]
                        have hjm : j < ie.size := by
                          have := (List.getElem?_eq_some_iff.1 hj).1
                          rwa [List.length_map, hjl r hr] at this
                        simp only [List.getElem?_toArray]
                        rw [take_app_drop _ _ _ (by simpa using hfit)]
                        rw [hgL]
                        unfold joinF at hj
                        by_cases hrl : r < len
                        · rw [if_pos hrl] at hj
                          have hle : (r + 1) * ie.size ≤ len * ie.size := Nat.mul_le_mul_right _ (by omega)
                          rw [Nat.add_mul, Nat.one_mul] at hle
                          rw [if_neg (by omega)]
                          have := (hrows r (by omega)).2 j y hj
                          rw [hbase, Nat.zero_add, cell_of_row _ _ _ _ _ _ hheap] at this
                          simpa using this
                        · rw [if_neg hrl] at hj
                          have hle : len * ie.size ≤ r * ie.size := Nat.mul_le_mul_right _ (by omega)
                          have hle2 : (r + 1) * ie.size ≤ (len + k) * ie.size := Nat.mul_le_mul_right _ (by omega)
                          rw [Nat.add_mul, Nat.one_mul, Nat.add_mul] at hle2
                          rw [if_pos (by omega)]
                          have e1 : r * ie.size + j - len * ie.size = (r - len) * ie.size + j := by
                            rw [Nat.sub_mul]; omega
                          rw [e1, List.getElem?_map, rowsOf_get hgl (by omega) hjm, ← List.getElem?_map]
                          exact hj⟩, fun _ => ⟨hbase, _, setRow_heap w _ _ _ _ _ hheap, by
                            simp only [List.size_toArray, List.length_append, List.length_take, List.length_drop, Array.length_toList]
                            rw [← hcsz]; omega, hroom, fun h => absurd rfl h⟩⟩ hjsc trivial
                    have hget1 : (V.set a.block (.rows true t' ie.size (len + k) 0 (joinF len f g)))[a.block]? = some (.rows true t' ie.size (len + k) 0 (joinF len f g)) := by
                      have := (List.getElem?_eq_some_iff.1 hv).1
                      simp [List.getElem?_set, this]
                    obtain ⟨hW2, hF2⟩ := hW1.move hget1 rfl
                    rw [List.set_set] at hW2 hF2
                    refine ⟨_, _, _, rfl, ?_, hW2, hF1.trans hF2⟩
                    dsimp only
                    rw [ren_slice1]
                    simp [renA, hbase]
                  · have hcap := grownCap_ge w (len + k) (env a.block).cap t'
                    obtain ⟨_, hth⟩ := rows_there hR hs hv hm (r := 0) (k := len) (by omega)
                    simp only [Nat.zero_add] at hth
                    have holds := run_firstCells_some (P := P) w.drew ie.size len (renA env { a with off := 0 }) len (env a.block).cap ((rowsOf len f).map (ren env)) (by rw [List.length_map, rowsOf_length hfl])
                      (fun j v hj => hth j v hj)
                    rw [hbaseA] at holds
                    have hrun := run_app_grow t u ty t' ie z d ht hu hd hie hz (some ⟨(env a.block).blk, 0, none⟩) len (env a.block).cap k _ holds (ren env x) _ hsok (by omega) (by omega) (growslice_fits (by omega) h47)
                    rw [hrun]
                    obtain ⟨hW, hF⟩ := grown_ok hR (e := t') (m := ie.size) (k := len + k) (q := grownCap w (len + k) (env a.block).cap t') (g := joinF len f g)
                      (cs := ((rowsOf len f).map (ren env)).toArray ++ ((rowsOf k g).map (ren env)).toArray ++ Builtin.zeroCells z.cells (grownCap w (len + k) (env a.block).cap t' - (len + k))) hjl hjsc
                      (by
                        simp only [Array.size_append, size_zeroCells, hzs, List.size_toArray, List.length_map, rowsOf_length hgl, rowsOf_length hfl]
                        rw [← Nat.add_mul, ← Nat.add_mul]
                        congr 1; omega) hcap (fun j v hj => by
                        rw [rowsOf_join, List.map_append] at hj
                        have hlt := (List.getElem?_eq_some_iff.1 hj).1
                        rw [Array.getElem?_append_left (by simpa using hlt)]
                        simpa using hj)
                    have hil := (List.getElem?_eq_some_iff.1 hv).1
                    have hset : (V ++ [VObj.rows true t' ie.size (len + k) 0 (joinF len f g)]).set a.block .dead = V.set a.block .dead ++ [VObj.rows true t' ie.size (len + k) 0 (joinF len f g)] := by
                      rw [List.set_append_left _ _ hil]
                    have hW' := hW.kill (i := a.block) (o := .rows true t' ie.size n cap' f) (by rw [List.getElem?_append_left hil]; exact hv) rfl
                    have hF' := hF.kill (i := a.block) (o := .rows true t' ie.size n cap' f) (by rw [List.getElem?_append_left hil]; exact hv) rfl
                    rw [hset] at hW' hF'
                    refine ⟨_, _, _, rfl, ?_, hW', hF'⟩
                    dsimp only
                    rw [ren_slice1]
                    simp [renA]
                · cases h
              · cases h
            · cases h
          · cases h
        · cases h
      · cases h
    · cases h
  · cases h

/-- APPEND where there is room: the row goes on in its block -/
theorem append_in_okK (hR : RepW env V w) {t u ty : TypeId} {a : Addr} {len cz : Nat} {x : Value} {v : Value} {p : Prop} {i : Nat} {ob : VObj} (hoff : a.off = 4) (h : xappendK P V t u a len x true = .cpy p i ob v) (hp : p) :
    ∃ w', (Builtin.append_ #[t, u] ty #[ren env (.slice (some a) len cz), ren env x]).run P w = .ok (ren env v) w' ∧ RepW env (V.set i ob) w' ∧ Fr env V w env (V.set i ob) w' := by
  unfold xappendK at h
  split at h
  case' h_2 => cases h
  rename_i e ht
  split at h
  case' h_2 => cases h
  rename_i ie hie
  split at h
  case' h_2 => cases h
  rename_i z hz
  split at h
  case' h_2 => cases h
  rename_i q k g hc hzl hpos hsrc
  have hzs : z.cells.size = ie.size := zsize hc (Nat.eq_of_beq_eq_true hzl)
  have hm : 0 < ie.size := by rwa [Nat.blt_eq] at hpos
  split at h
  case' h_2 => cases h
  rename_i t' m n cap' f hs hv
  split at h
  case' isFalse => cases h
  rename_i hte
  split at h
  case' isFalse => cases h
  rename_i hme
  cases h
  subst hte
  subst hme
  obtain ⟨hq, hlen, hcap0, hroom0⟩ := hp
  obtain ⟨⟨d, hu, hd⟩, hg, hsok⟩ := xsrc_ok hR hsrc hq hm
  obtain ⟨hmm, hrows, hown⟩ := hR.mat _ _ hv
  obtain ⟨hbase, cur, hheap, hcsz, hncap, hcapE⟩ := hown rfl
  have hC : rcap env a cz = (env a.block).cap := by
    unfold rcap
    rw [hoff, hs]
    rfl
  have hcc : (env a.block).cap = cap' := hcapE (by omega)
  have hsl : ren env (.slice (some a) len cz) = .slice (some (renA env { a with off := 0 })) len (rcap env a cz) := ren_sliceK env _ _ (by omega) (by omega) (by omega)
  have hbaseA : renA env { a with off := 0 } = ⟨(env a.block).blk, 0, none⟩ := by simp [renA, hs, hbase]
  have hscf := hR.sc _ _ hv
  have hfl : ∀ j, j < len → (f j).length = ie.size := fun j hj => (hrows j (by omega)).1
  have hgl : ∀ j, j < k → (g j).length = ie.size := fun j hj => (hg j hj).1
  have hjl := joinF_len hfl hgl
  have hjsc : ∀ j, j < len + k → ∀ v ∈ joinF len f g j, Sc 0 v ∧ cellC v = true := by
    intro j hj
    unfold joinF
    split
    · exact hscf j (by omega)
    · exact (hg (j - len) (by omega)).2
  have hgL : ((rowsOf k g).map (ren env)).length = k * ie.size := by rw [List.length_map, rowsOf_length hgl]
  rw [hsl, hC, hbaseA]
  have hroom : len + k ≤ (env a.block).cap := by omega
  have hfit : len * ie.size + ((rowsOf k g).map (ren env)).length ≤ cur.size := by
    rw [hgL, hcsz, ← Nat.add_mul]
    exact Nat.mul_le_mul_right _ hroom
  have hrun := run_app_room (w := w) t u ty t' ie d ht hu hd hie (env a.block).blk len (env a.block).cap k cur hheap (ren env x) _ hgL hsok (fun y hy => by
    obtain ⟨y', hy', rfl⟩ := List.mem_map.1 hy
    obtain ⟨j, hj, hy2⟩ := mem_rowsOf hy'
    exact oneCell_ren env ((hg j hj).2 y' hy2).2) hroom hfit
  rw [hrun]
  have hmul : len * ie.size ≤ cur.size := by omega
  obtain ⟨hW1, hF1⟩ := hR.setRow hv rfl (o' := .rows true t' ie.size (len + k) cap' (joinF len f g)) rfl
    ((cur.toList.take (len * ie.size) ++ (rowsOf k g).map (ren env) ++ cur.toList.drop (len * ie.size + ((rowsOf k g).map (ren env)).length)).toArray)
    ⟨hmm, fun r hr => ⟨hjl r hr, fun j y hj => by
      rw [hbase, Nat.zero_add, cell_of_row _ _ _ _ _ _ (setRow_heap w _ _ _ _ _ hheap)]
      have hjm : j < ie.size := by
        have := (List.getElem?_eq_some_iff.1 hj).1
        rwa [List.length_map, hjl r hr] at this
      simp only [List.getElem?_toArray]
      rw [take_app_drop _ _ _ (by simpa using hfit)]
      rw [hgL]
      unfold joinF at hj
      by_cases hrl : r < len
      · rw [if_pos hrl] at hj
        have hle : (r + 1) * ie.size ≤ len * ie.size := Nat.mul_le_mul_right _ (by omega)
        rw [Nat.add_mul, Nat.one_mul] at hle
        rw [if_neg (by omega)]
        have := (hrows r (by omega)).2 j y hj
        rw [hbase, Nat.zero_add, cell_of_row _ _ _ _ _ _ hheap] at this
        simpa using this
      · rw [if_neg hrl] at hj
        have hle : len * ie.size ≤ r * ie.size := Nat.mul_le_mul_right _ (by omega)
        have hle2 : (r + 1) * ie.size ≤ (len + k) * ie.size := Nat.mul_le_mul_right _ (by omega)
        rw [Nat.add_mul, Nat.one_mul, Nat.add_mul] at hle2
        rw [if_pos (by omega)]
        have e1 : r * ie.size + j - len * ie.size = (r - len) * ie.size + j := by
          rw [Nat.sub_mul]; omega
        rw [e1, List.getElem?_map, rowsOf_get hgl (by omega) hjm, ← List.getElem?_map]
        exact hj⟩, fun _ => ⟨hbase, _, setRow_heap w _ _ _ _ _ hheap, by
          simp only [List.size_toArray, List.length_append, List.length_take, List.length_drop, Array.length_toList]
          rw [← hcsz]; omega, hroom, hcapE⟩⟩ hjsc trivial
  refine ⟨_, ?_, hW1, hF1⟩
  rw [ren_slice1]
  simp [renA, hbase]

/-- APPEND where there is none: a new row; the old one stays -/
theorem append_new_okK (hR : RepW env V w) {t u ty : TypeId} {a : Addr} {len cz : Nat} {x : Value} {v : Nat → Value} {p : Prop} {i : Option Nat} {ob : VObj} (hoff : a.off = 5) (h : xappendK P V t u a len x false = .grow p i ob v) (hp : p) :
    ∃ u' w' env', (Builtin.append_ #[t, u] ty #[ren env (.slice (some a) len cz), ren env x]).run P w = .ok u' w' ∧ u' = ren env' (v V.length) ∧ RepW env' (killV V i ++ [ob]) w' ∧ Fr env V w env' (killV V i ++ [ob]) w' := by
  unfold xappendK at h
  split at h
  case' h_2 => cases h
  rename_i e ht
  split at h
  case' h_2 => cases h
  rename_i ie hie
  split at h
  case' h_2 => cases h
  rename_i z hz
  split at h
  case' h_2 => cases h
  rename_i q k g hc hzl hpos hsrc
  have hzs : z.cells.size = ie.size := zsize hc (Nat.eq_of_beq_eq_true hzl)
  have hm : 0 < ie.size := by rwa [Nat.blt_eq] at hpos
  split at h
  case' h_2 => cases h
  rename_i t' m n cap' f hs hv
  split at h
  case' isFalse => cases h
  rename_i hte
  split at h
  case' isFalse => cases h
  rename_i hme
  cases h
  subst hte
  subst hme
  obtain ⟨hq, hlen, hcap0, hno, h63, h47⟩ := hp
  obtain ⟨⟨d, hu, hd⟩, hg, hsok⟩ := xsrc_ok hR hsrc hq hm
  obtain ⟨hmm, hrows, hown⟩ := hR.mat _ _ hv
  obtain ⟨hbase, cur, hheap, hcsz, hncap, hcapE⟩ := hown rfl
  have hC : rcap env a cz = (env a.block).cap := by
    unfold rcap
    rw [hoff, hs]
    rfl
  have hcc : (env a.block).cap = cap' := hcapE (by omega)
  have hsl : ren env (.slice (some a) len cz) = .slice (some (renA env { a with off := 0 })) len (rcap env a cz) := ren_sliceK env _ _ (by omega) (by omega) (by omega)
  have hbaseA : renA env { a with off := 0 } = ⟨(env a.block).blk, 0, none⟩ := by simp [renA, hs, hbase]
  have hscf := hR.sc _ _ hv
  have hfl : ∀ j, j < len → (f j).length = ie.size := fun j hj => (hrows j (by omega)).1
  have hgl : ∀ j, j < k → (g j).length = ie.size := fun j hj => (hg j hj).1
  have hjl := joinF_len hfl hgl
  have hjsc : ∀ j, j < len + k → ∀ v ∈ joinF len f g j, Sc 0 v ∧ cellC v = true := by
    intro j hj
    unfold joinF
    split
    · exact hscf j (by omega)
    · exact (hg (j - len) (by omega)).2
  have hgL : ((rowsOf k g).map (ren env)).length = k * ie.size := by rw [List.length_map, rowsOf_length hgl]
  rw [hsl, hC, hbaseA]
  have hroom : ¬ (len + k ≤ (env a.block).cap) := by omega
  have hcap := grownCap_ge w (len + k) (env a.block).cap t'
  obtain ⟨_, hth⟩ := rows_there hR hs hv hm (r := 0) (k := len) (by omega)
  simp only [Nat.zero_add] at hth
  have holds := run_firstCells_some (P := P) w.drew ie.size len (renA env { a with off := 0 }) len (env a.block).cap ((rowsOf len f).map (ren env)) (by rw [List.length_map, rowsOf_length hfl])
    (fun j v hj => hth j v hj)
  rw [hbaseA] at holds
  have hrun := run_app_grow t u ty t' ie z d ht hu hd hie hz (some ⟨(env a.block).blk, 0, none⟩) len (env a.block).cap k _ holds (ren env x) _ hsok (by omega) (by omega) (growslice_fits (by omega) h47)
  rw [hrun]
  obtain ⟨hW, hF⟩ := grown_ok hR (e := t') (m := ie.size) (k := len + k) (q := grownCap w (len + k) (env a.block).cap t') (g := joinF len f g)
    (cs := ((rowsOf len f).map (ren env)).toArray ++ ((rowsOf k g).map (ren env)).toArray ++ Builtin.zeroCells z.cells (grownCap w (len + k) (env a.block).cap t' - (len + k))) hjl hjsc
    (by
      simp only [Array.size_append, size_zeroCells, hzs, List.size_toArray, List.length_map, rowsOf_length hgl, rowsOf_length hfl]
      rw [← Nat.add_mul, ← Nat.add_mul]
      congr 1; omega) hcap (fun j v hj => by
      rw [rowsOf_join, List.map_append] at hj
      have hlt := (List.getElem?_eq_some_iff.1 hj).1
      rw [Array.getElem?_append_left (by simpa using hlt)]
      simpa using hj)
  refine ⟨_, _, _, rfl, ?_, hW, hF⟩
  dsimp only
  rw [ren_slice1]
  simp [renA]

theorem append_in_ok (hR : RepW env V w) {t u ty : TypeId} {s x : Value} {v : Value} {p : Prop} {i : Nat} {ob : VObj} (h : xappend P V t u s x = .cpy p i ob v) (hp : p) :
    s ≠ unk ∧ x ≠ unk ∧ ∃ w', (Builtin.append_ #[t, u] ty #[ren env s, ren env x]).run P w = .ok (ren env v) w' ∧ RepW env (V.set i ob) w' ∧ Fr env V w env (V.set i ob) w' := by
  have h00 : ∀ s, xappend0 P V t u s x = .cpy p i ob v → False := fun s h => by
    unfold xappend0 at h
    (repeat' split at h) <;> cases h
  unfold xappend at h
  split at h
  case' h_2 => exact (h00 _ h).elim
  rename_i a len c
  split at h
  case' h_5 => exact (h00 _ h).elim
  case' h_4 => exact (h00 _ h).elim
  case' h_2 =>
    rcases xappendK_kind (P := P) (V := V) (t := t) (u := u) (a := a) (len := len) (x := x) (room := false) with ⟨_, _, _, _, he, _⟩ | ⟨_, _, _, _, _, he⟩ | he
    · rw [he] at h; cases h
    · cases he
    · rw [he] at h; cases h
  case' h_3 =>
    split at h
    · unfold xappendV at h
      (repeat' split at h) <;> cases h
    · cases h
  rename_i hoff
  refine ⟨(fun hu => by cases hu), ?_, append_in_okK hR hoff h hp⟩
  intro hu
  subst hu
  unfold xappendK at h
  have : ∀ m, xsrc P V u m unk = .none := fun m => by
    unfold xsrc unk
    split <;> first | rfl | (rename_i hh; cases hh)
  simp only [this] at h
  (repeat' split at h) <;> first | (cases h; done) | (exfalso; simp_all; done)

theorem joinF_zero (f g : Nat → List Value) : joinF 0 f g = g := by
  funext j
  simp [joinF]

/-- a row that may be nil and is not is a row -/
theorem RepW.unvec (hR : RepW env V w) {i : Nat} {t : TypeId} {m n : Nat} {f : Nat → List Value} (hv : V[i]? = some (.vec t m n f)) (hc : (env i).cap ≠ 0) :
    RepW env (V.set i (.rows true t m n 0 f)) w ∧ Fr env V w env (V.set i (.rows true t m n 0 f)) w := by
  obtain ⟨hm, _, h3⟩ := hR.mat i _ hv
  obtain ⟨hrows, hbase, cs, hh, hsz, hn⟩ := h3 hc
  refine pairRF hR (fun j oj hj => ?_) (fun j oj hj => ?_) (fun j oj hj hB => ?_) (fun j k oj ok hj hk hjk hw hl hBj hBk => ?_) ⟨fun _ _ => rfl, by simp, rfl, rfl, rfl, Nat.le_refl _, fun _ _ _ => rfl, fun j oj hj ho => ?_⟩
  · rcases setV_get hj with ⟨rfl, rfl, _⟩ | ⟨_, hj'⟩
    · exact ⟨hm, hrows, fun _ => ⟨hbase, cs, hh, hsz, hn, fun h => absurd rfl h⟩⟩
    · exact hR.mat j oj hj'
  · rw [List.length_set]
    rcases setV_get hj with ⟨rfl, rfl, _⟩ | ⟨_, hj'⟩
    · have := hR.sc _ _ hv; exact this
    · exact hR.sc j oj hj'
  · rcases setV_get hj with ⟨rfl, rfl, _⟩ | ⟨_, hj'⟩
    · exact hR.blk _ _ hv hc
    · exact hR.blk j oj hj' hB
  · rcases setV_get hj with ⟨rfl, rfl, _⟩ | ⟨_, hj'⟩
    · rcases setV_get hk with ⟨rfl, rfl, _⟩ | ⟨_, hk'⟩
      · exact absurd rfl hjk
      · exact hR.sep _ _ _ ok hv hk' hjk rfl hl hc hBk
    · rcases setV_get hk with ⟨rfl, rfl, _⟩ | ⟨_, hk'⟩
      · exact hR.sep _ _ oj _ hj' hv hjk hw rfl hBj hc
      · exact hR.sep _ _ oj ok hj' hk' hjk hw hl hBj hBk
  · rcases setV_get hj with ⟨rfl, rfl, _⟩ | ⟨_, hj'⟩
    · exact .inl ⟨_, _, hv, ⟨rfl, hc⟩, rfl⟩
    · exact .inl ⟨j, oj, hj', ho, rfl⟩

theorem append_ok6 (hR : RepW env V w) {t u ty : TypeId} {a : Addr} {len cz : Nat} {x : Value} {v : Nat → Value} {p : Prop} {i : Option Nat} {ob : VObj} (hoff : a.off = 6)
    (h : xappend0 P V t u (match len with | 0 => .slice none 0 0 | _ + 1 => unk) x = .grow p i ob v) (hp : p) :
    ∃ u' w' env', (Builtin.append_ #[t, u] ty #[ren env (.slice (some a) len cz), ren env x]).run P w = .ok u' w' ∧ u' = ren env' (v V.length) ∧ RepW env' (killV V i ++ [ob]) w' ∧ Fr env V w env' (killV V i ++ [ob]) w' := by
  cases len with
  | succ n =>
    unfold xappend0 at h
    dsimp only [unk] at h
    (repeat' split at h) <;> first | (cases h; done) | (rename_i hh _ _ _ _ _ _ _ _ _; cases hh; done) | skip
    all_goals (exfalso; simp_all; done)
  | zero =>
  dsimp only at h
  have hren := ren_slice6 env 0 cz hoff
  unfold xappend0 at h
  split at h
  · rename_i e ht
    split at h
    · rename_i ie hie
      split at h
      · rename_i z hz
        split at h
        · rename_i q k g hc hzl hpos hsrc
          have hzs : z.cells.size = ie.size := zsize hc (Nat.eq_of_beq_eq_true hzl)
          have hm : 0 < ie.size := by rwa [Nat.blt_eq] at hpos
          cases h
          obtain ⟨hq, hk, h63, h47⟩ := hp
          obtain ⟨⟨d, hu, hd⟩, hg, hsok⟩ := xsrc_ok hR hsrc hq hm
          have hrun := run_app_grow t u ty e ie z d ht hu hd hie hz (some (renA env { a with off := 0 })) 0 0 k [] (run_firstCells_some w.drew ie.size 0 _ 0 _ _ (by simp) fun j v hj => by simp at hj) (ren env x) _ hsok (by omega) (by omega) (growslice_fits (by omega) (by simpa using h47))
          rw [hren, hrun]
          have hcap := grownCap_ge w (0 + k) 0 e
          obtain ⟨hW, hF⟩ := grown_ok hR (e := e) (m := ie.size) (k := k) (q := grownCap w (0 + k) 0 e) (g := g)
            (cs := #[] ++ ((rowsOf k g).map (ren env)).toArray ++ Builtin.zeroCells z.cells (grownCap w (0 + k) 0 e - (0 + k))) (fun j hj => (hg j hj).1) (fun j hj => (hg j hj).2)
            (by
              simp only [Array.size_append, size_zeroCells, hzs, List.size_toArray, List.length_map, rowsOf_length (m := ie.size) (fun j hj => (hg j hj).1), Array.size_empty]
              simp only [Nat.zero_add] at hcap ⊢
              rw [List.length_nil, Nat.zero_add, ← Nat.add_mul]
              congr 1; omega) (by omega) (fun j v hj => by
              have hlt := (List.getElem?_eq_some_iff.1 hj).1
              simp only [Array.empty_append]
              rw [Array.getElem?_append_left (by simpa using hlt)]
              simpa using hj)
          refine ⟨_, _, _, rfl, ?_, hW, hF⟩
          dsimp only
          rw [ren_slice1]
          simp [renA]
        · cases h
      · cases h
    · cases h
  · cases h

/-- APPEND -/
theorem append_ok (hR : RepW env V w) {t u ty : TypeId} {s x : Value} {v : Nat → Value} {p : Prop} {i : Option Nat} {ob : VObj} (h : xappend P V t u s x = .grow p i ob v) (hp : p) :
    ∃ u' w' env', (Builtin.append_ #[t, u] ty #[ren env s, ren env x]).run P w = .ok u' w' ∧ u' = ren env' (v V.length) ∧ RepW env' (killV V i ++ [ob]) w' ∧ Fr env V w env' (killV V i ++ [ob]) w' := by
  unfold xappend at h
  split at h
  case' h_2 => exact append_ok0 hR h hp
  rename_i a len c
  split at h
  case' h_5 => exact append_ok0 hR h hp
  case' h_4 => exact append_ok6 hR ‹_› h hp
  case' h_1 =>
    rcases xappendK_kind (P := P) (V := V) (t := t) (u := u) (a := a) (len := len) (x := x) (room := true) with ⟨_, _, _, _, _, he⟩ | ⟨_, _, _, _, he, _⟩ | he
    · cases he
    · rw [he] at h; cases h
    · rw [he] at h; cases h
  case' h_2 => exact append_new_okK hR ‹_› h hp
  rename_i hoff
  split at h
  case' h_2 => cases h
  rename_i t' m n f hs hv
  unfold xappendV at h
  split at h
  case' h_2 => cases h
  rename_i e ht
  split at h
  case' h_2 => cases h
  rename_i ie hie
  split at h
  case' h_2 => cases h
  rename_i z hz
  split at h
  case' h_2 => cases h
  rename_i q k g hc hzl hpos hsrc
  split at h
  case' isFalse => cases h
  rename_i hte
  split at h
  case' isFalse => cases h
  rename_i hme
  cases h
  subst hte
  subst hme
  obtain ⟨hq, hlen, hk, h63, h47⟩ := hp
  obtain ⟨hmm, hz0, _⟩ := hR.mat _ _ hv
  have hil := (List.getElem?_eq_some_iff.1 hv).1
  by_cases hcap : (env a.block).cap = 0
  · have hn := hz0 hcap
    have hl0 : len = 0 := by omega
    subst hl0
    have hr : ren env (.slice (some a) 0 c) = ren env (.slice none 0 0) := by
      rw [ren_slice2 env _ _ hoff, hcap, ren_snone]
    have h0 : xappend0 P V t u (.slice none 0 0) x = .grow (q ∧ 0 < k ∧ fitsN k ie.bytes) none (.rows true t' ie.size k 0 g) (fun N => .slice (some ⟨N, 1, some 0⟩) k 0) := by
      unfold xappend0
      simp only [ht, hie, hz, hc, hzl, hpos, hsrc]
    rw [Nat.zero_add] at h63 h47
    obtain ⟨u', w', env', hrun, hu, hW, hF⟩ := append_ok0 (ty := ty) hR h0 ⟨hq, hk, h63, h47⟩
    rw [hr]
    have hget : (killV V none ++ [VObj.rows true t' ie.size k 0 g])[a.block]? = some (.vec t' ie.size n f) := by
      rw [List.getElem?_append_left (by simpa [killV] using hil)]; exact hv
    have hW' := hW.kill hget rfl
    have hF' := hF.kill hget rfl
    have hset : (killV V none ++ [VObj.rows true t' ie.size k 0 g]).set a.block .dead = killV V (some a.block) ++ [VObj.rows true t' ie.size k 0 g] := by
      show (V ++ _).set a.block .dead = V.set a.block .dead ++ _
      rw [List.set_append_left _ _ hil]
    rw [hset] at hW' hF'
    rw [joinF_zero, Nat.zero_add]
    exact ⟨u', w', env', hrun, hu, hW', hF'⟩
  · obtain ⟨hW1, hF1⟩ := hR.unvec hv hcap
    have hr : ren env (.slice (some a) len c) = ren env (.slice (some ⟨a.block, 1, a.spot⟩) len 0) := by
      rw [ren_slice2 env _ _ hoff, ren_slice1]
      cases hcc : (env a.block).cap with
      | zero => exact absurd hcc hcap
      | succ q => rfl
    have hsrc1 : xsrc P (V.set a.block (.rows true t' ie.size n 0 f)) u ie.size x = .src q k g := by
      unfold xsrc at hsrc ⊢
      split at hsrc
      · exact hsrc
      · rename_i e' b k' c' hu
        have hb : b.block ≠ a.block := by
          intro hb
          rw [hb, hv] at hsrc
          revert hsrc
          cases b.spot <;> (intro hsrc; cases hsrc)
        rw [List.getElem?_set, if_neg (Ne.symm hb)]
        exact hsrc
      · cases hsrc
    have h0 : xappend0 P (V.set a.block (.rows true t' ie.size n 0 f)) t u (.slice (some ⟨a.block, 1, a.spot⟩) len 0) x = .grow (q ∧ len ≤ n ∧ True ∧ fitsN (len + k) ie.bytes) (some a.block)
        (.rows true t' ie.size (len + k) 0 (joinF len f g)) (fun N => .slice (some ⟨N, 1, some 0⟩) (len + k) 0) := by
      unfold xappend0
      have hget : (V.set a.block (VObj.rows true t' ie.size n 0 f))[a.block]? = some (.rows true t' ie.size n 0 f) := by simp [List.getElem?_set, hil]
      simp only [ht, hie, hz, hc, hzl, hpos, hsrc1, hs, hget, if_true]
    obtain ⟨u', w', env', hrun, hu, hW, hF⟩ := append_ok0 (ty := ty) hW1 h0 ⟨hq, by omega, trivial, h63, h47⟩
    rw [hr]
    rw [show killV (V.set a.block (VObj.rows true t' ie.size n 0 f)) (some a.block) = killV V (some a.block) by simp [killV, List.set_set]] at hW hF
    rw [List.length_set] at hu
    exact ⟨u', w', env', hrun, hu, hW, hF1.trans hF⟩

/-! ### COPY and MAKE -/
theorem xcopy_kind {V : VW} {t u : TypeId} {d x : Value} : (∃ p i ob v, xcopy P V t u d x = .cpy p i ob v) ∨ xcopy P V t u d x = .bad := by
  unfold xcopy
  (repeat' split) <;> first | exact .inr rfl | exact .inl ⟨_, _, _, _, rfl⟩
theorem xmake_kind {t : TypeId} {x y : Value} : (∃ p ob v, xmake P t x y = .grow p none ob v) ∨ xmake P t x y = .bad := by
  unfold xmake
  (repeat' split) <;> first | exact .inr rfl | exact .inl ⟨_, _, _, rfl⟩

theorem xcopy_known {V : VW} {t u : TypeId} {d x : Value} {p : Prop} {i : Nat} {ob : VObj} {v : Value} (h : xcopy P V t u d x = .cpy p i ob v) : d ≠ unk ∧ x ≠ unk := by
  constructor
  · rintro rfl
    unfold xcopy unk at h
    split at h <;> first | (cases h; done) | simp_all
  · rintro rfl
    unfold xcopy unk at h
    (repeat' split at h) <;> first | (cases h; done) | simp_all

theorem setV_self {V : VW} {i : Nat} {o : VObj} (h : V[i]? = some o) : V.set i o = V := by
  apply List.ext_getElem?
  intro k
  rw [List.getElem?_set]
  split
  · rename_i hk
    subst hk
    split
    · exact h.symm
    · rename_i hl; rw [List.getElem?_eq_none (by omega)] at h; cases h
  · rfl

theorem copy_row_ok (hR : RepW env V w) {t u ty e : TypeId} {a : Addr} {r dl dc n cap k : Nat} {t' : TypeId} {f g : Nat → List Value} (hut : P.underlying t = some (.slice e)) (hsz : (P.info? e).map (·.size) = some 1) (hoff : a.off < 2) (hs : a.spot = some r)
    (hv : V[a.block]? = some (.rows true t' 1 n cap f)) {b' : Addr} {c' : Nat} (hfd : r + dl ≤ n) (hl : ∀ j, j < Nat.min k dl → (g j).length = 1) (hc : ∀ j v, ((rowsOf (Nat.min k dl) g).map (ren env))[j]? = some v → w.cell? (b'.add j) = some v)
    (hscg : ∀ j, j < Nat.min k dl → ∀ v ∈ g j, Sc 0 v ∧ cellC v = true) :
    ∃ w', (Builtin.copy_ #[t, u] ty #[ren env (.slice (some a) dl dc), .slice (some b') k c']).run P w = .ok (ren env (.int .i64 (Nat.min k dl : Nat))) w' ∧
      RepW env (V.set a.block (.rows true t' 1 n cap (layF r (Nat.min k dl) f g))) w' ∧ Fr env V w env (V.set a.block (.rows true t' 1 n cap (layF r (Nat.min k dl) f g))) w' := by
  obtain ⟨hmm, hrows, hown⟩ := hR.mat _ _ hv
  obtain ⟨hb, cur, hh, hcs, hn⟩ := hown rfl
  have hle : Nat.min k dl ≤ k := Nat.min_le_left _ _
  have hle2 : Nat.min k dl ≤ dl := Nat.min_le_right _ _
  have hlen : ((rowsOf (Nat.min k dl) g).map (ren env)).length = Nat.min k dl := by
    rw [List.length_map, rowsOf_length (m := 1) (g := g) hl, Nat.mul_one]
  have hra : renA env { a with off := 0 } = ⟨(env a.block).blk, r, none⟩ := by simp [renA, hs, hb, hmm]
  have hfit : r + Nat.min k dl ≤ cur.size := by rw [hcs]; omega
  have hrun := run_copy_row P w t u ty e (env a.block).blk r dl (rcap env a dc) b' k c' cur t' ((rowsOf (Nat.min k dl) g).map (ren env))
    hut hsz hh hlen hc (by rw [hlen]; exact hfit) (fun y hy => by
      obtain ⟨y', hy', rfl⟩ := List.mem_map.1 hy
      obtain ⟨j, hj, hm⟩ := mem_rowsOf hy'
      exact oneCell_ren env (hscg j hj y' hm).2)
  rw [ren_slice env _ _ hoff, hra, hrun]
  refine ⟨_, by rw [hlen, ren_int]; rfl, hR.setRow hv rfl rfl _ ⟨hmm, fun q hq => ⟨?_, ?_⟩, fun _ => ⟨hb, _, setRow_heap w _ _ _ _ _ hh, ?_, hn⟩⟩ ?_ trivial⟩
  · unfold layF
    split
    · exact hl (q - r) (by omega)
    · exact (hrows q hq).1
  · intro j y hy
    have htd := fun j => take_app_drop cur.toList ((rowsOf (Nat.min k dl) g).map (ren env)) r (by rw [hlen]; simpa using hfit) j
    rw [hlen] at htd
    rw [cell_of_row _ _ _ _ _ _ (setRow_heap w _ _ _ _ _ hh), List.getElem?_toArray, htd, hb]
    simp only [Nat.zero_add, Nat.mul_one]
    have hq1 : (layF r (Nat.min k dl) f (g) q).length = 1 := by
      unfold layF
      split
      · exact hl (q - r) (by omega)
      · exact (hrows q hq).1
    have hj : j = 0 := by
      have := (List.getElem?_eq_some_iff.1 hy).1
      rw [List.length_map, hq1] at this
      omega
    subst hj
    rw [Nat.add_zero]
    by_cases hin : r ≤ q ∧ q < r + Nat.min k dl
    · rw [if_pos hin]
      unfold layF at hy
      rw [if_pos hin] at hy
      rw [List.getElem?_map] at hy ⊢
      have hg := rowsOf_get (k := Nat.min k dl) (m := 1) (g := g) hl (r := q - r) (j := 0) (by omega) (by omega)
      rw [Nat.mul_one, Nat.add_zero] at hg
      rw [hg]
      exact hy
    · rw [if_neg hin]
      unfold layF at hy
      rw [if_neg hin] at hy
      have := (hrows q hq).2 0 y hy
      rw [cell_of_row _ _ _ _ _ _ hh, hb] at this
      simpa using this
  · simp only [List.size_toArray, List.length_append, List.length_take, List.length_drop, hlen, Array.length_toList]
    omega
  · intro q hq y hy
    unfold layF at hy
    split at hy
    · exact hscg (q - r) (by omega) y hy
    · exact hR.sc _ _ hv q hq y hy

theorem layF_zero (r : Nat) (f g : Nat → List Value) : layF r 0 f g = f := by
  funext j
  unfold layF
  rw [if_neg (by omega)]

theorem copy_ok (hR : RepW env V w) {t u ty : TypeId} {d x : Value} {p : Prop} {i : Nat} {ob : VObj} {v : Value} (h : xcopy P V t u d x = .cpy p i ob v) (hp : p) :
    ∃ w', (Builtin.copy_ #[t, u] ty #[ren env d, ren env x]).run P w = .ok (ren env v) w' ∧ RepW env (V.set i ob) w' ∧ Fr env V w env (V.set i ob) w' := by
  unfold xcopy at h
  split at h
  · rename_i e e' a dl dc hut huu
    split at h
    · rename_i r t' n cap f hsz hoff hs hv
      have hoff : a.off < 2 := Nat.blt_eq ▸ hoff
      split at h
      · cases h
        rw [setV_self hv, ren_slice env _ _ hoff]
        refine ⟨w, ?_, hR, Fr.refl _ _ _⟩
        rw [ren_snone]
        rw [ren_int]
        exact run_copy_nil P w t u ty e _ dl _ hut (by rw [hsz]; rfl)
      · rename_i b k c
        split at h
        · rename_i r' t2 n' g hs' hv'
          split at h
          · rename_i hoff'
            have hoff' : b.off = 3 := Nat.eq_of_beq_eq_true hoff'
            cases h
            obtain ⟨hz, hnz, _⟩ := hR.mat _ _ hv'
            have zero : (env b.block).cap < 2 → k = 0 := fun hc => by have := hz hc; omega
            rcases cap3 (env b.block).cap with hcap | hcap | hcap
            · have hk0 := zero (by omega)
              subst hk0
              have e0 : Nat.min 0 dl = 0 := Nat.zero_min dl
              rw [slice30 env _ _ hoff' hcap, e0, layF_zero, setV_self hv, ren_slice env _ _ hoff]
              refine ⟨w, ?_, hR, Fr.refl _ _ _⟩
              rw [ren_int]
              exact run_copy_nil P w t u ty e _ dl _ hut (by rw [hsz]; rfl)
            · have hk0 := zero (by omega)
              subst hk0
              rw [slice31 env _ _ hoff' hcap]
              have e0 : Nat.min 0 dl = 0 := Nat.zero_min dl
              exact copy_row_ok hR hut hsz hoff hs hv hp.2 (fun j hj => by rw [e0] at hj; omega) (fun j v hj => by rw [e0] at hj; simp [rowsOf] at hj) fun j hj v hv => by rw [e0] at hj; omega
            · have hle : Nat.min k dl ≤ k := Nat.min_le_left _ _
              obtain ⟨hl, hc⟩ := args_there (k := Nat.min k dl) hR hs' hv' (by omega) (by omega)
              rw [slice3 env k c hoff' hcap]
              exact copy_row_ok hR hut hsz hoff hs hv hp.2 (fun j hj => (hl j hj).1) hc fun j hj v hv => by
                have := List.all_eq_true.1 (hl j hj).2 v hv
                exact ⟨.plain this, plain_cellC this⟩
          · cases h
        · rename_i r' own' t2 n' cap' g hs' hv'
          split at h
          · cases h
          rename_i hoff'
          have hoff' : b.off < 2 := Nat.blt_eq ▸ hoff'
          cases h
          have hle : Nat.min k dl ≤ k := Nat.min_le_left _ _
          obtain ⟨hl, hc⟩ := rows_there (k := Nat.min k dl) hR hs' hv' (by omega) (by omega)
          have hscg := hR.sc _ _ hv'
          rw [ren_slice env k c hoff']
          exact copy_row_ok hR hut hsz hoff hs hv hp.2 hl hc fun j hj v hv => hscg (r' + j) (by omega) v hv
        · cases h
      · cases h
    · cases h
  · cases h

theorem zcells {z : Value} (hc : isC z = false) : z.cells = (vcells z).toArray := by
  cases z <;> simp_all [vcells, Value.cells, isC]

theorem make_ok (hR : RepW env V w) {t : TypeId} {x y : Value} {v : Nat → Value} {p : Prop} {i : Option Nat} {ob : VObj} (h : xmake P t x y = .grow p i ob v) (hp : p) :
    i = none ∧ ∃ u' w' env', (Instr.makeSlice t x y).run P w = .ok u' w' ∧ u' = ren env' (v V.length) ∧ RepW env' (V ++ [ob]) w' ∧ Fr env V w env' (V ++ [ob]) w' := by
  unfold xmake at h
  split at h
  · rename_i e kx a ky b ht
    split at h
    · rename_i ie hi
      split at h
      · rename_i z hz
        split at h
        · rename_i hpl hc hlz hpos
          cases h
          obtain ⟨h0, hab, hf1, hf2⟩ := hp
          have hlz := Nat.eq_of_beq_eq_true hlz
          have hpos : 0 < ie.size := by simpa [Nat.blt_eq] using hpos
          have hbn : (b.toNat : Int) = b := Int.toNat_of_nonneg (by omega)
          have hbytes : (ie.bytes : Int) * b ≤ 281474976710656 := by
            have h1 : ((b.toNat * ie.bytes : Nat) : Int) ≤ 140737488355328 := by omega
            rw [Int.natCast_mul, hbn, Int.mul_comm] at h1
            omega
          have hrun := run_make (P := P) w t e ie z ht hi hz kx ky a b h0 hab hbytes (by omega)
          have hzc := zcells hc
          have hzs : z.cells.size = ie.size := by rw [hzc]; simpa using hlz
          refine ⟨rfl, _, _, _, hrun, ?_, hR.allocO (o := .rows true e ie.size b.toNat b.toNat fun _ => vcells z) (ob := .cells (madeCells z.cells (b.toNat * ie.size)) e) (m := ie.size) (q := b.toNat) (fun r hr y hy => ?_) fun env' hag => ⟨rfl, fun r hr => ⟨hlz, fun j y hy => ?_⟩, fun _ => ⟨rfl, _, heap_alloc_new w _, size_madeCells _ _, Nat.le_refl _, fun _ => rfl⟩⟩⟩
          · simp [ren_slice0, renA]
          · have hpc := List.all_eq_true.1 hpl y hy
            refine ⟨.plain hpc, ?_⟩
            cases y <;> first | rfl | (simp [plainC] at hpc; done)
          · have hj : j < ie.size := by
              have := (List.getElem?_eq_some_iff.1 hy).1
              rw [List.length_map, hlz] at this
              exact this
            rw [map_ren_plain _ hpl] at hy
            rw [cell_of_row _ _ _ _ _ _ (heap_alloc_new w _)]
            have hin : r * ie.size + j < b.toNat * ie.size := by
              have : (r + 1) * ie.size ≤ b.toNat * ie.size := Nat.mul_le_mul_right _ hr
              rw [Nat.add_mul, Nat.one_mul] at this
              omega
            unfold madeCells
            have hin' : 0 + r * ie.size + j < b.toNat * ie.size := by omega
            simp only [Array.getElem?_map, Array.getElem?_range, hin', if_true, Option.map_some]
            have hmod : (0 + r * ie.size + j) % z.cells.size = j := by
              rw [hzs, Nat.zero_add, Nat.mul_comm, Nat.mul_add_mod, Nat.mod_eq_of_lt hj]
            rw [hmod, hzc]
            have hy2 : (vcells z).toArray[j]? = some y := by simpa using hy
            obtain ⟨hjl, hjy⟩ := Array.getElem?_eq_some_iff.1 hy2
            rw [getElem!_pos (vcells z).toArray j hjl, hjy]
        · cases h
      · cases h
    · cases h
  · cases h
end Go.X
