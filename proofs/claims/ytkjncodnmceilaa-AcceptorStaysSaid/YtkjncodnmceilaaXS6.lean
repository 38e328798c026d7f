/- What the symbolic run says of the real one, sixth part: regions, code, functions, loops. -/
import Derived.Test.YtkjncodnmceilaaXS5
import Derived.Great.BuildSlice
set_option linter.unusedSimpArgs false
set_option linter.unusedVariables false
namespace Go.X
open Go
variable {P : Program} {env : Nat → Loc} {S : VSt} {a : Act} {w : World} {C : Ctx}

def Callable (P : Program) (f : FuncId) : Prop := ∃ fn, P.funcs[f]? = some fn ∧ fn.body.isSome = true ∧ (fn.name == "runtime.NumGoroutine") = false

/-- the contract of a function that yields a value and touches no known memory -/
structure FnOK (P : Program) (f : FuncId) (g : List Value → VW → Res) : Prop where
  callable : Callable P f
  gives : ∀ env w V args os v, RepW env V w → (∀ x ∈ args, Sc V.length x) → GivesN (g args V) os v →
    Calls P f (args.map (ren env)).toArray w fun e w' => ∃ u env', e = .returned u ∧ Rv env' v u ∧ RepW env' (V ++ os) w' ∧ Fr env V w env' (V ++ os) w'

/-- what a call does, told by what is asked of its end -/
def CallDoes (P : Program) (f : FuncId) (args : List Value) (V : VW) (K : Value → VW → Prop) : Prop :=
  ∀ env w, RepW env V w → (∀ x ∈ args, Sc V.length x) →
    Calls P f (args.map (ren env)).toArray w fun e w' => ∃ u env' V' v, e = .returned u ∧ Rv env' v u ∧ RepW env' V' w' ∧ Fr env V w env' V' w' ∧ K v V'

structure CallOK (P : Program) (f : FuncId) (T : List Value → VW → (Value → VW → Prop) → Prop) : Prop where
  callable : Callable P f
  gives : ∀ args V K, T args V K → CallDoes P f args V K

structure CtxOK (P : Program) (C : Ctx) : Prop where
  fn : ∀ f g, C.fn f = some g → FnOK P f g
  call : ∀ f T, C.call f = some T → CallOK P f T

/-- a value, or nothing -/
def Res.plain : Res → Bool
  | .val _ | .ob _ _ | .bad => true
  | _ => false

theorem plain_opt (o : Option Value) : (Res.ofOpt o).plain = true := by cases o <;> rfl
theorem plain_load (V : VW) (t : TypeId) (p : Addr) : (xload P V t p).plain = true := by
  unfold xload; (repeat' split) <;> first | rfl | exact plain_opt _
theorem plain_bin (op : BinOp) (t : TypeId) (x y : Value) : (xbin P op t x y).plain = true := by
  unfold xbin
  split
  · cases op <;> first | rfl | (simp only []; split <;> rfl)
  · cases op <;> rfl
  · cases op <;> first | rfl | (simp only []; split <;> rfl)
theorem plain_build (t : TypeId) (l : List (Nat × Value)) : (xbuild P t l).plain = true := by
  unfold xbuild; (repeat' split) <;> rfl
theorem plain_fieldAddr (t : TypeId) (v : Value) (k : Nat) : (xfieldAddr P t v k).plain = true := by
  unfold xfieldAddr; (repeat' split) <;> rfl
theorem plain_field (t : TypeId) (v : Value) (k : Nat) : (xfield P t v k).plain = true := by
  unfold xfield; (repeat' split) <;> first | rfl | exact plain_opt _
theorem plain_indexAddr (V : VW) (t : TypeId) (v i : Value) : (xindexAddr P V t v i).plain = true := by
  unfold xindexAddr; (repeat' split) <;> rfl
theorem plain_index (t : TypeId) (v i : Value) : (xindex P t v i).plain = true := by
  unfold xindex; (repeat' split) <;> rfl
theorem plain_len (t : TypeId) (v : Value) : (xlen P t v).plain = true := by
  unfold xlen; (repeat' split) <;> rfl

/-- what an operation yields that is not a value alone -/
theorem xop_kind {o : Op} (h : (xop P S o).plain = false) :
    (∃ t len parts, o = .buildSlice t len parts ∧ xop P S o = xbuildSlice P t len (parts.toList.map fun (i, x) => (i, ev S x))) ∨ (∃ t, o = .alloc t) ∨ (∃ t x, o = .box t x) ∨ (∃ t x v p, o = .store t x v ∧ ev S x = .pointer (some p) ∧ xop P S o = xstore P S.V t p (ev S v)) ∨ (∃ c, o = .call c) := by
  cases o <;> simp only [xop] at h <;> try (exact absurd h Bool.noConfusion)
  case pick c x y => (repeat' split at h) <;> exact absurd h Bool.noConfusion
  case buildSlice t len parts => exact .inl ⟨t, len, parts, rfl, by simp only [xop]⟩
  case alloc t => exact .inr (.inl ⟨t, rfl⟩)
  case box t x => exact .inr (.inr (.inl ⟨t, x, rfl⟩))
  case build t parts => rw [plain_build] at h; cases h
  case load t x =>
    split at h
    · rw [plain_load] at h; cases h
    · exact absurd h Bool.noConfusion
  case store t x v =>
    split at h
    · rename_i p hp; exact .inr (.inr (.inr (.inl ⟨t, x, v, p, rfl, hp, by simp only [xop, hp]⟩)))
    · exact absurd h Bool.noConfusion
  case nilCheck x => (repeat' split at h) <;> exact absurd h Bool.noConfusion
  case binOp => rw [plain_bin] at h; cases h
  case unOp op t x => cases op <;> simp only [] at h <;> (repeat' split at h) <;> exact absurd h Bool.noConfusion
  case convert => (repeat' split at h) <;> exact absurd h Bool.noConfusion
  case makeInterface => (repeat' split at h) <;> exact absurd h Bool.noConfusion
  case makeFunc => (repeat' split at h) <;> exact absurd h Bool.noConfusion
  case fieldAddr => rw [plain_fieldAddr] at h; cases h
  case field => rw [plain_field] at h; cases h
  case indexAddr => rw [plain_indexAddr] at h; cases h
  case index => rw [plain_index] at h; cases h
  case extract =>
    split at h
    · rw [plain_opt] at h; cases h
    · exact absurd h Bool.noConfusion
  case call c => exact .inr (.inr (.inr (.inr ⟨c, rfl⟩)))

theorem buildSlice_kind {t : TypeId} {len : Nat} {l : List (Nat × Value)} : (∃ e m rows, xbuildSlice P t len l = .alr e m rows) ∨ xbuildSlice P t len l = .bad := by
  unfold xbuildSlice
  (repeat' split) <;> first | exact .inr rfl | exact .inl ⟨_, _, _, rfl⟩

theorem alr_or_bad {o : Op} {t : TypeId} {len : Nat} {l : List (Nat × Value)} (h : xop P S o = xbuildSlice P t len l) : (∃ e m rows, xop P S o = .alr e m rows) ∨ xop P S o = .bad := by
  rw [h]; exact buildSlice_kind

theorem xstore_kind {V : VW} {t : TypeId} {p : Addr} {v : Value} : (∃ i u c, xstore P V t p v = .sto i u c ∧ isC v = false) ∨ (∃ q i r c, xstore P V t p v = .sob q i r c ∧ isC v = false) ∨ xstore P V t p v = .bad := by
  unfold xstore
  (repeat' split) <;> first | exact .inr (.inr rfl) | exact .inl ⟨_, _, _, rfl, by assumption⟩ | exact .inr (.inl ⟨_, _, _, _, rfl, by assumption⟩)

theorem appsK_eq {α β : Type} : ∀ (l l' : List α) (k : List α → β), appsK l l' k = k (l ++ l')
  | l, [], k => by simp [appsK]
  | l, x :: xs, k => by simp only [appsK, appK_eq]; rw [appsK_eq]; simp

theorem run_call {o : Oper} {f : FuncId} {args : List Value} (hR : Rep env S a w) (h : xop P S o.op = .call f args) (hc : Callable P f) :
    (execOp a.eval o).run P w = .ok (.enter f (args.map (ren env)).toArray) w := by
  obtain ⟨dst, op, ty, pos, after, guard⟩ := o
  have hk := xop_kind (P := P) (S := S) (o := op) (by rw [h]; rfl)
  rcases hk with ⟨_, _, _, _, hbs⟩ | ⟨t, rfl⟩ | ⟨t, x, rfl⟩ | ⟨t, x, v, p, rfl, hp, he⟩ | ⟨c, rfl⟩
  · exfalso; rcases alr_or_bad hbs with ⟨_, _, _, e⟩ | e <;> (rw [e] at h; cases h)
  · exfalso
    simp only [xop] at h
    (repeat' split at h) <;> cases h
  · exfalso
    simp only [xop] at h
    (repeat' split at h) <;> cases h
  · exfalso
    rw [he] at h
    rcases xstore_kind (P := P) (V := S.V) (t := t) (p := p) (v := ev S v) with ⟨_, _, _, he, _⟩ | ⟨_, _, _, _, he, _⟩ | he
    · rw [he] at h; cases h
    · rw [he] at h; cases h
    · rw [he] at h; cases h
  · simp only [xop] at h
    split at h
    · exfalso
      split at h
      · rename_i x t ts ha ht
        unfold xlen at h
        split at h <;> cases h
      · cases h
    · rename_i x hcal
      split at h
      · rename_i f' fst cap hx
        split at h
        · rename_i hargs
          cases h
          have hx' := ev_of hR hx (by simp [unk])
          rw [ren_func] at hx'
          have hm := evs_known hR _ hargs
          obtain ⟨fn, hf, hb, hn⟩ := hc
          have hb' : fn.body.isNone = false := by cases hbb : fn.body <;> simp_all
          have hargs' : c.args.map a.eval = ((c.args.toList.map (ev S)).map (ren env)).toArray := by apply Array.ext'; simpa using hm
          simp only [execOp, resolve, hcal, hx', Deferred.ofValue, pure_bind, invoke, callFunc, Sem.run_bind, run_program, Result.andThen_ok, hf, hn, hb', Bool.false_eq_true, if_false, Sem.run_pure]
          congr 2
          rw [hargs', arr_map, arr_map]
          apply Array.ext'
          simp
        · cases h
      · cases h
    · cases h

theorem arg_sc (hR : Rep env S a w) {o : Oper} {f : FuncId} {args : List Value} (h : xop P S o.op = .call f args) : ∀ x ∈ args, Sc S.V.length x := by
  obtain ⟨dst, op, ty, pos, after, guard⟩ := o
  have hk := xop_kind (P := P) (S := S) (o := op) (by rw [h]; rfl)
  have hev : ∀ x : Operand, Sc S.V.length (ev S x) := by
    intro x
    cases x with
    | tmp t =>
      simp only [ev, nth_eq]
      by_cases ht : t < S.tmps.length
      · exact hR.sc _ (by simp [List.getD, ht])
      · simp only [List.getD, List.getElem?_eq_none (Nat.le_of_not_lt ht), Option.getD_none]; exact .undef
    | const v =>
      simp only [ev, cst]
      split
      · exact .plain ‹_›
      · exact .unk
    | global g => exact .unk
    | func f => exact .func (l := []) (l' := []) (by simp) (by simp)
  rcases hk with ⟨_, _, _, _, hbs⟩ | ⟨t, rfl⟩ | ⟨t, x, rfl⟩ | ⟨t, x, v, p, rfl, hp, he⟩ | ⟨c, rfl⟩
  · exfalso; rcases alr_or_bad hbs with ⟨_, _, _, e⟩ | e <;> (rw [e] at h; cases h)
  · simp only [xop] at h
    (repeat' split at h) <;> cases h
  · simp only [xop] at h
    (repeat' split at h) <;> cases h
  · rw [he] at h
    rcases xstore_kind (P := P) (V := S.V) (t := t) (p := p) (v := ev S v) with ⟨_, _, _, he, _⟩ | ⟨_, _, _, _, he, _⟩ | he
    · rw [he] at h; cases h
    · rw [he] at h; cases h
    · rw [he] at h; cases h
  · simp only [xop] at h
    split at h
    · split at h
      · unfold xlen at h
        split at h <;> cases h
      · cases h
    · rename_i x hcal
      split at h
      · rename_i f' fst cap hx
        split at h
        · cases h
          have hfx := hev x
          rw [hx] at hfx
          have hparts : (∀ v ∈ fst.toList, Sc S.V.length v) ∧ (∀ v ∈ cap.toList, Sc S.V.length v) := by
            constructor
            · intro v hv e e' he
              have := hfx e e' he
              rw [ren_func, ren_func, Value.func.injEq] at this
              have h2 := this.2.1
              rw [Array.map_inj_left] at h2
              exact h2 v (by simpa using hv)
            · intro v hv e e' he
              have := hfx e e' he
              rw [ren_func, ren_func, Value.func.injEq] at this
              have h2 := this.2.2
              rw [Array.map_inj_left] at h2
              exact h2 v (by simpa using hv)
          intro y hy
          simp only [List.mem_append, List.mem_map] at hy
          rcases hy with (hy | ⟨z, _, rfl⟩) | hy
          · exact hparts.1 y hy
          · exact hev z
          · exact hparts.2 y hy
        · cases h
      · cases h
    · cases h

theorem run_alc {o : Oper} {t : TypeId} {c : List Value} (hR : Rep env S a w) (hx : xop P S o.op = .alc t c) :
    (execOp a.eval o).run P w = .ok (.value (.pointer (some ⟨w.heap.size, 0, none⟩))) (w.alloc (.cells (c.map (ren env)).toArray t)) := by
  have hk := xop_kind (P := P) (S := S) (o := o.op) (by rw [hx]; rfl)
  rcases hk with ⟨_, _, _, _, hbs⟩ | ⟨t', he⟩ | ⟨t', x, he⟩ | ⟨t', x, v, p, he, hp, hxs⟩ | ⟨cc, he⟩
  · exfalso; rcases alr_or_bad hbs with ⟨_, _, _, e⟩ | e <;> (rw [e] at hx; cases hx)
  · rw [he] at hx
    simp only [xop] at hx
    split at hx
    · rename_i i hi
      split at hx
      · rename_i z hz
        split at hx
        · rename_i hpc hc
          cases hx
          have hzz : z.cells = (vcells z).toArray := by cases z <;> simp_all [vcells, Value.cells, isC]
          rw [map_ren_plain env hpc]
          simp only [execOp, he, Instr.alloc, Sem.run_bind, run_zero hi hz, Result.andThen_ok, newVar, newRow, hzz]
          rfl
        · cases hx
      · cases hx
    · cases hx
  · rw [he] at hx
    simp only [xop] at hx
    split at hx
    · rename_i hc hcell
      cases hx
      have hx' := ev_known hR hc
      simp only [execOp, he, Instr.box, Sem.run_bind, Result.andThen_ok, newVar, newRow, hx', vcells_ren env hc]
      rfl
    · cases hx
  · rw [hxs] at hx
    rcases xstore_kind (P := P) (V := S.V) (t := t') (p := p) (v := ev S v) with ⟨_, _, _, he', _⟩ | ⟨_, _, _, _, he', _⟩ | he' <;> (rw [he'] at hx; cases hx)
  · rw [he] at hx
    simp only [xop] at hx
    (repeat' split at hx) <;> first | (cases hx; done) | (unfold xlen at hx; (repeat' split at hx) <;> cases hx)

theorem normRows_spec {g : Value → (Value → Prop) → Prop} {n : Nat} (hg : ∀ v k, g v k → Sc n v ∧ k v) :
    ∀ (l : List (List Value)) (k : List (List Value) → Prop), normRows g l k → (∀ x ∈ l, ∀ v ∈ x, Sc n v) ∧ k l
  | [], k, h => ⟨by simp, h⟩
  | v :: vs, k, h => by
    obtain ⟨h1, h2⟩ := normL_spec hg _ _ h
    obtain ⟨h3, h4⟩ := normRows_spec hg vs _ h2
    refine ⟨fun x hx => ?_, h4⟩
    rcases List.mem_cons.1 hx with rfl | hx
    · exact h1
    · exact h3 x hx

theorem chunk_flatten : ∀ (n m : Nat) (l : List Value), l.length = n * m → (chunk n m l).flatten = l ∧ (chunk n m l).length = n ∧ ∀ x ∈ chunk n m l, x.length = m
  | 0, m, l, h => by
    have : l = [] := List.length_eq_zero_iff.1 (by omega)
    subst this; simp [chunk]
  | n + 1, m, l, h => by
    rw [Nat.add_mul, Nat.one_mul] at h
    obtain ⟨h1, h2, h3⟩ := chunk_flatten n m (l.drop m) (by simp; omega)
    refine ⟨by simp [chunk, h1], by simp [chunk, h2], fun x hx => ?_⟩
    simp only [chunk, List.mem_cons] at hx
    rcases hx with rfl | hx
    · simp; omega
    · exact h3 x hx

theorem range_mod (z : Array Value) (n m : Nat) (hz : z.size = m) (hm : 0 < n * m) : (Array.range (n * m)).map (z[· % z.size]!) = ((List.replicate n z.toList).flatten).toArray := by
  have hmp : 0 < m := by
    rcases Nat.eq_zero_or_pos m with h | h
    · subst h; simp at hm
    · exact h
  apply Array.ext'
  rw [Array.toList_map, Array.toList_range]
  apply List.ext_getElem?
  intro k
  simp only [List.getElem?_map, List.toList_toArray]
  have hrep : ∀ (n k : Nat), k < n * m → ((List.replicate n z.toList).flatten)[k]? = z.toList[k % m]? := by
    intro n
    induction n with
    | zero => intro k hk; omega
    | succ n ih =>
      intro k hk
      rw [List.replicate_succ, List.flatten_cons]
      by_cases hkm : k < m
      · rw [List.getElem?_append_left (by simp [hz]; exact hkm), Nat.mod_eq_of_lt hkm]
      · rw [List.getElem?_append_right (by simp [hz]; omega)]
        simp only [Array.length_toList, hz]
        rw [ih (k - m) (by rw [Nat.add_mul, Nat.one_mul] at hk; omega), ← Nat.mod_eq_sub_mod (by omega)]
  by_cases hk : k < n * m
  · rw [List.getElem?_range hk, hrep n k hk]
    have : k % m < z.size := by rw [hz]; exact Nat.mod_lt _ hmp
    simp only [Option.map_some, hz]
    rw [getElem!_pos z (k % m) this]
    simp [this]
  · have h1 : (List.range (n * m))[k]? = none := List.getElem?_eq_none (by simp; omega)
    have h2 : ((List.replicate n z.toList).flatten)[k]? = none := List.getElem?_eq_none (by simp [hz]; omega)
    simp [h1, h2]

theorem run_alr {o : Oper} {t : TypeId} {m : Nat} {rows : List (List Value)} (hR : Rep env S a w) (hx : xop P S o.op = .alr t m rows) :
    (execOp a.eval o).run P w = .ok (.value (.slice (some ⟨w.heap.size, 0, none⟩) rows.length rows.length)) (w.alloc (.cells (rows.flatten.map (ren env)).toArray t)) ∧ ∀ x ∈ rows, x.length = m := by
  obtain ⟨dst, op, ty, pos, after, guard⟩ := o
  have hk := xop_kind (P := P) (S := S) (o := op) (by rw [hx]; rfl)
  rcases hk with ⟨t', len, parts, rfl, hbs⟩ | ⟨t', rfl⟩ | ⟨t', x, rfl⟩ | ⟨t', x, v, p, rfl, hp, he⟩ | ⟨c, rfl⟩
  · rw [hbs] at hx
    unfold xbuildSlice at hx
    split at hx
    · rename_i e hu
      split at hx
      · rename_i ie hie
        split at hx
        · rename_i z hz
          split at hx
          · rename_i hpc hc hsmall hpos hzl
            split at hx
            · rename_i l hf
              split at hx
              · rename_i hlen hcell
                cases hx
                have hlen' := Nat.eq_of_beq_eq_true hlen
                obtain ⟨h1, h2, h3⟩ := chunk_flatten len ie.size l hlen'
                refine ⟨?_, h3⟩
                rw [h1, h2]
                have hzz : z.cells = (vcells z).toArray := by cases z <;> simp_all [vcells, Value.cells, isC]
                have hzsz : z.cells.size = ie.size := by rw [hzz]; simpa using Nat.eq_of_beq_eq_true hzl
                have hpos' : 0 < len * ie.size := by rwa [Nat.blt_eq] at hpos
                have hparts : (parts.map fun (i, x) => (i, a.eval x)).toList = (parts.toList.map fun (i, x) => (i, ev S x)).map fun x => (x.1, ren env x.2) := by
                  rw [Array.toList_map]
                  have key : ∀ (places : List (Nat × Nat)) (cells l : List Value) (parts : List (Nat × Operand)),
                      fillL places cells (parts.map fun (i, x) => (i, ev S x)) = some l → (parts.map fun (i, x) => (i, a.eval x)) = (parts.map fun (i, x) => (i, ev S x)).map fun x => (x.1, ren env x.2) := by
                    intro places cells l parts
                    induction parts generalizing cells with
                    | nil => intro _; rfl
                    | cons p rest ih =>
                      obtain ⟨i, x⟩ := p
                      intro h
                      simp only [List.map_cons, fillL] at h
                      split at h
                      · cases h
                      · split at h
                        · split at h
                          · rename_i hc hs
                            simp only [List.map_cons]
                            rw [ev_known hR hc, ih _ h]
                          · cases h
                        · cases h
                  exact key _ _ _ _ hf
                have hfill := fill_ren env (fun i => some (i * ie.size, ie.size)) _ (fun i x hx => by
                  simp only [List.getElem?_map] at hx
                  cases hr : (List.range len)[i]? with
                  | none => simp [hr] at hx
                  | some j =>
                    have : j = i := by
                      obtain ⟨hlt, hj⟩ := List.getElem?_eq_some_iff.1 hr
                      simpa using hj.symm
                    subst this
                    simpa [hr] using hx) _ _ l hf
                have hzero : ((List.replicate len (vcells z)).flatten).map (ren env) = (List.replicate len (vcells z)).flatten := map_ren_plain env (by
                  rw [List.all_eq_true]
                  intro x hx
                  obtain ⟨y, hy, hxy⟩ := List.mem_flatten.1 hx
                  have := List.eq_of_mem_replicate hy
                  subst this
                  exact List.all_eq_true.1 hpc x hxy)
                rw [hzero] at hfill
                have hrm := range_mod z.cells len ie.size hzsz hpos'
                have hbs' := run_buildSlice (P := P) w t' t len (parts.map fun (i, x) => (i, a.eval x)) (l.map (ren env)).toArray ie z hu hie hz (by have := Nat.le_of_ble_eq_true hsmall; omega) (by omega)
                  (by rw [hrm, hzz, hparts]; exact hfill)
                simp only [execOp, Sem.run_bind, hbs', Result.andThen_ok, Sem.run_pure]
              · cases hx
            · cases hx
          · cases hx
        · cases hx
      · cases hx
    · cases hx
  · simp only [xop] at hx; (repeat' split at hx) <;> cases hx
  · simp only [xop] at hx; (repeat' split at hx) <;> cases hx
  · rw [he] at hx
    rcases xstore_kind (P := P) (V := S.V) (t := t') (p := p) (v := ev S v) with ⟨_, _, _, he', _⟩ | ⟨_, _, _, _, he', _⟩ | he' <;> (rw [he'] at hx; cases hx)
  · simp only [xop] at hx
    (repeat' split at hx) <;> first | (cases hx; done) | (unfold xlen at hx; (repeat' split at hx) <;> cases hx)

/-- ONE OPERATION -/
theorem xone_ok (hC : CtxOK P C) {o : Oper} {k : VSt → Prop} {K : Act → World → Prop} {Q : Exit → Act → World → Prop} (hR : Rep env S a w) (h : xone P C S o k)
    (next : ∀ env' S' a' w', Fr env S.V w env' S'.V w' → Rep env' S' a' w' → k S' → K a' w') : o.wp P a w K Q := by
  unfold xone at h
  have hval : ∀ v, Gives (xop P S o.op) v → putK C.cl S o.dst v k → o.wp P a w K Q := by
    intro v hg hp
    obtain ⟨u, hrun, hrv⟩ := run_val hR hg
    obtain ⟨S', hV, hR', hk⟩ := putK_ok hR hrv hp
    unfold Oper.wp
    rw [hrun, Oper.upon_value]
    exact next env S' _ w (hV ▸ Fr.refl _ _ _) hR' hk
  split at h
  · rename_i v hx; exact hval v (.inl hx) h
  · rename_i p v hx; exact hval v (.inr ⟨p, hx, h.1⟩) h.2
  · rename_i i t c hx
    unfold nodst at h
    split at h
    · rename_i hd
      obtain ⟨hsc, h⟩ := normL_spec (normV_spec C.cl S.V.length 6) _ _ h
      rw [setK_eq] at h
      have hk := xop_kind (P := P) (S := S) (o := o.op) (by rw [hx]; rfl)
      rcases hk with ⟨_, _, _, _, hbs⟩ | ⟨t, he⟩ | ⟨t, x, he⟩ | ⟨t', x, v, p, he, hp, hxs⟩ | ⟨cc, he⟩
      · exfalso; rcases alr_or_bad hbs with ⟨_, _, _, e⟩ | e <;> (rw [e] at hx; cases hx)
      · rw [he] at hx; simp only [xop] at hx; (repeat' split at hx) <;> cases hx
      · rw [he] at hx; simp only [xop] at hx; (repeat' split at hx) <;> cases hx
      · rw [hxs] at hx
        obtain ⟨w', hrun, hW, hF⟩ := store_cells_ok hR.mem hx hsc
        have hp' := ev_of hR hp (by simp [unk])
        rw [ren_ptr] at hp'
        have hv' : a.eval v = ren env (ev S v) := by
          rcases xstore_kind (P := P) (V := S.V) (t := t') (p := p) (v := ev S v) with ⟨_, _, _, _, hc⟩ | ⟨_, _, _, _, he', _⟩ | he'
          · exact ev_known hR hc
          · rw [he'] at hx; cases hx
          · rw [he'] at hx; cases hx
        unfold Oper.wp
        have : (execOp a.eval o).run P w = .ok .skip w' := by
          rw [show execOp a.eval o = (do Instr.storeAt t' (a.eval x) (a.eval v); pure .skip) by simp only [execOp, he]]
          simp [hp', hv', Instr.storeAt, Instr.sureAddr, hrun]
        rw [this, Oper.upon_skip, hd]
        exact next env _ a w' hF (hR.later hW hF) h
      · rw [he] at hx
        simp only [xop] at hx
        (repeat' split at hx) <;> first | (cases hx; done) | (unfold xlen at hx; (repeat' split at hx) <;> cases hx)
    · exact h.elim
  · rename_i q i r c hx
    obtain ⟨hq, h⟩ := h
    unfold nodst at h
    split at h
    · rename_i hd
      obtain ⟨hsc, h⟩ := normL_spec (normV_spec C.cl S.V.length 6) _ _ h
      split at h
      · rename_i own t m n cap f hV
        rw [setK_eq] at h
        have hk := xop_kind (P := P) (S := S) (o := o.op) (by rw [hx]; rfl)
        rcases hk with ⟨_, _, _, _, hbs⟩ | ⟨t, he⟩ | ⟨t, x, he⟩ | ⟨t', x, v, p, he, hp, hxs⟩ | ⟨cc, he⟩
        · exfalso; rcases alr_or_bad hbs with ⟨_, _, _, e⟩ | e <;> (rw [e] at hx; cases hx)
        · rw [he] at hx; simp only [xop] at hx; (repeat' split at hx) <;> cases hx
        · rw [he] at hx; simp only [xop] at hx; (repeat' split at hx) <;> cases hx
        · rw [hxs] at hx
          obtain ⟨w', hrun, hW, hF⟩ := store_rows_ok hR.mem hx hq hsc hV
          have hp' := ev_of hR hp (by simp [unk])
          rw [ren_ptr] at hp'
          have hv' : a.eval v = ren env (ev S v) := by
            rcases xstore_kind (P := P) (V := S.V) (t := t') (p := p) (v := ev S v) with ⟨_, _, _, he', _⟩ | ⟨_, _, _, _, _, hc⟩ | he'
            · rw [he'] at hx; cases hx
            · exact ev_known hR hc
            · rw [he'] at hx; cases hx
          unfold Oper.wp
          have : (execOp a.eval o).run P w = .ok .skip w' := by
            rw [show execOp a.eval o = (do Instr.storeAt t' (a.eval x) (a.eval v); pure .skip) by simp only [execOp, he]]
            simp [hp', hv', Instr.storeAt, Instr.sureAddr, hrun]
          rw [this, Oper.upon_skip, hd]
          exact next env _ a w' hF (hR.later hW hF) h
        · rw [he] at hx
          simp only [xop] at hx
          (repeat' split at hx) <;> first | (cases hx; done) | (unfold xlen at hx; (repeat' split at hx) <;> cases hx)
      · exact h.elim
    · exact h.elim
  · rename_i t c hx
    obtain ⟨hsc, h⟩ := normL_spec (normV_spec C.cl S.V.length 6) _ _ h
    rw [appK_eq] at h
    obtain ⟨hW, hF⟩ := hR.mem.alloc (t := t) hsc
    have hR' := hR.later hW hF
    obtain ⟨S', hV, hR'', hk⟩ := putK_ok (dst := o.dst) (u := .pointer (some ⟨w.heap.size, 0, none⟩)) hR' (.inr (by simp [ren_ptr, renA])) h
    have hrun := run_alc hR hx
    unfold Oper.wp
    rw [hrun, Oper.upon_value]
    exact next _ S' _ _ (hV ▸ hF) hR'' hk
  · rename_i t m rows hx
    obtain ⟨hsc, h⟩ := normRows_spec (normV_spec C.cl S.V.length 6) _ _ h
    rw [appK_eq] at h
    obtain ⟨hrun, hlen⟩ := run_alr hR hx
    obtain ⟨hW, hF⟩ := hR.mem.allocRows (t := t) hsc hlen
    have hR' := hR.later hW hF
    obtain ⟨S', hV, hR'', hk⟩ := putK_ok (dst := o.dst) (u := .slice (some ⟨w.heap.size, 0, none⟩) rows.length rows.length) hR' (.inr (by simp [ren_slice, renA])) h
    unfold Oper.wp
    rw [hrun, Oper.upon_value]
    exact next _ S' _ _ (hV ▸ hF) hR'' hk
  · exact h.elim
  · rename_i f args hx
    split at h
    · rename_i g hg
      have hfn := hC.fn f g hg
      have go : ∀ os v, GivesN (g args S.V) os v → putK C.cl ⟨S.tmps, S.V ++ os⟩ o.dst v k → o.wp P a w K Q := by
        intro os v hgv hp
        unfold Oper.wp
        rw [run_call hR hx hfn.callable, Oper.upon_enter]
        refine (hfn.gives env w S.V args os v hR.mem (arg_sc hR hx) hgv).mono ?_
        rintro e w' ⟨u, env', rfl, hrv, hW, hF⟩
        have hR' := hR.later hW hF
        obtain ⟨S', hV, hR'', hk⟩ := putK_ok (dst := o.dst) hR' hrv hp
        exact next env' S' _ w' (hV ▸ hF) hR'' hk
      split at h
      · rename_i v hv; exact go [] v (.inl ⟨rfl, .inl hv⟩) (by simpa using h)
      · rename_i p v hv; exact go [] v (.inl ⟨rfl, .inr ⟨p, hv, h.1⟩⟩) (by simpa using h.2)
      · rename_i p os v hv
        obtain ⟨hp, h⟩ := h
        rw [appsK_eq] at h
        exact go os v (.inr ⟨p, hv, hp⟩) h
      · exact h.elim
    · split at h
      · rename_i T hT
        have hcall := hC.call f T hT
        unfold Oper.wp
        rw [run_call hR hx hcall.callable, Oper.upon_enter]
        refine (hcall.gives args S.V _ h env w hR.mem (arg_sc hR hx)).mono ?_
        rintro e w' ⟨u, env', V', v, rfl, hrv, hW, hF, hp⟩
        have hR' := hR.later hW hF
        obtain ⟨S', hV, hR'', hk⟩ := putK_ok (dst := o.dst) hR' hrv hp
        exact next env' S' _ w' (hV ▸ hF) hR'' hk
      · exact h.elim
  · exact h.elim
end Go.X
