/- What the symbolic run says of the real one, sixth part: regions, code, functions, loops. -/
import Derived.Test.YtgnhcoefocbmpaaGreatXST
import Derived.Test.YtgnhcoefocbmpaaGreatXSM
import Derived.Test.YtgnhcoefocbmpaaGreatXOB
import Derived.Great.BuildSlice
import Derived.Laws.IdiomStrings
import Derived.Laws.RangeString
set_option linter.unusedSimpArgs false
set_option linter.unusedSectionVars false
set_option linter.unusedVariables false
namespace Go.X
open Go
variable [WI] [WD]
variable {P : Program} {env : Nat → Loc} {S : VSt} {a : Act} {w : World} {C : Ctx}

def Callable (P : Program) (f : FuncId) : Prop := ∃ fn, P.funcs[f]? = some fn ∧ fn.body.isSome = true ∧ (fn.name == "runtime.NumGoroutine") = false

/-- the contract of a function that yields a value and touches no known memory -/
structure FnOK (P : Program) (f : FuncId) (g : List Value → VW → Res) : Prop where
  callable : Callable P f
  gives : ∀ env w V args os v, RepW env V w → (∀ x ∈ args, Sc V.length x) → GivesN (g args V) os v →
    Calls P f (args.map (ren env)).toArray w fun e w' => ∃ u env', e = .returned u ∧ Rv env' v u ∧ RepW env' (V ++ os) w' ∧ Fr env V w env' (V ++ os) w'

/-- what a call does, told by what is asked of its end -/
def CallDoes (P : Program) (f : FuncId) (args : List Value) (V : VW) (K : Value → VW → Prop) : Prop :=
  ∀ env w, RepW env V w → (∀ x ∈ args, Sc V.length x) →
    Calls P f (args.map (ren env)).toArray w fun e w' => ∃ u env' V' v, e = .returned u ∧ Rv env' v u ∧ RepW env' V' w' ∧ Fr env V w env' V' w' ∧ K v V'

structure CallOK (P : Program) (f : FuncId) (T : List Value → VW → (Value → VW → Prop) → Prop) : Prop where
  callable : Callable P f
  gives : ∀ args V K, T args V K → CallDoes P f args V K

/-- a function without a body, that looks at no memory -/
def ExtOK (P : Program) (f : FuncId) (g : List Value → Res) : Prop :=
  ∀ (args : List Value) (v : Value), Gives (g args) v → ∀ (env : Nat → Loc) (w : World), (callFunc f (args.map (ren env)).toArray).run P w = .ok (.value (ren env v)) w

structure CtxOK (P : Program) (C : Ctx) : Prop where
  fn : ∀ f g, C.fn f = some g → FnOK P f g
  call : ∀ f T, C.call f = some T → CallOK P f T
  ext : ∀ f g, C.ext f = some g → ExtOK P f g

/-- a value, or nothing -/
def Res.plain : Res → Bool
  | .val _ | .ob _ _ | .bad => true
  | _ => false

theorem plain_opt (o : Option Value) : (Res.ofOpt o).plain = true := by cases o <;> rfl
theorem plain_load (V : VW) (t : TypeId) (p : Addr) : (xload P V t p).plain = true := by
  unfold xload; (repeat' split) <;> first | rfl | exact plain_opt _
theorem plain_bin (op : BinOp) (t : TypeId) (x y : Value) : (xbin P op t x y).plain = true := by
  unfold xbin
  split
  · cases op <;> first | rfl | (simp only []; split <;> rfl)
  · cases op <;> rfl
  · cases op <;> first | rfl | (simp only []; split <;> rfl)
theorem plain_binN (op : BinOp) (t : TypeId) (l : Bool) (x y : Value) : (xbinN P op t l x y).plain = true := by
  unfold xbinN
  split
  · rfl
  · exact plain_bin _ _ _ _
theorem plain_build (t : TypeId) (l : List (Nat × Value)) : (xbuild P t l).plain = true := by
  unfold xbuild; (repeat' split) <;> rfl
theorem plain_fieldAddr (t : TypeId) (v : Value) (k : Nat) : (xfieldAddr P t v k).plain = true := by
  unfold xfieldAddr; (repeat' split) <;> rfl
theorem plain_field (t : TypeId) (v : Value) (k : Nat) : (xfield P t v k).plain = true := by
  unfold xfield; (repeat' split) <;> first | rfl | exact plain_opt _
theorem plain_indexAddr (V : VW) (t : TypeId) (v i : Value) : (xindexAddr P V t v i).plain = true := by
  unfold xindexAddr; (repeat' split) <;> rfl
theorem plain_index (t : TypeId) (v i : Value) : (xindex P t v i).plain = true := by
  unfold xindex; (repeat' split) <;> rfl
theorem plain_len (t : TypeId) (v : Value) : (xlen P t v).plain = true := by
  unfold xlen; (repeat' split) <;> rfl

theorem plain_slice (V : VW) (t : TypeId) (x : Value) (l h : Option Value) : (xslice P V t x l h).plain = true := by
  unfold xslice; (repeat' split) <;> rfl
theorem plain_text (V : VW) (e : TypeId) (x : Value) : (xtext P V e x).plain = true := by
  unfold xtext; (repeat' split) <;> rfl

/-- a value, or nothing, or a row that has grown -/
def Res.mostly : Res → Bool
  | .val _ | .ob _ _ | .bad | .grow .. | .nxt .. | .cpy .. => true
  | _ => false

theorem Res.mostly_of {r : Res} (h : r.plain = true) : r.mostly = true := by cases r <;> first | rfl | cases h

theorem bi_mostly (b : Builtin) (c : Call) : (xbi P S b c).mostly = true := by
  unfold xbi; split
  · exact Res.mostly_of (plain_len _ _)
  · unfold xcap; (repeat' split) <;> rfl
  · unfold xmin; (repeat' split) <;> rfl
  · unfold xmax; (repeat' split) <;> rfl
  · rename_i x y t u _ _
    rcases xappend_kind (P := P) (V := S.V) (t := t) (u := u) (s := ev S x) (x := ev S y) with ⟨p, i, ob, v, he⟩ | ⟨p, i, ob, v, he⟩ | he <;> rw [he] <;> rfl
  · rename_i x y t u _ _
    rcases xcopy_kind (P := P) (V := S.V) (t := t) (u := u) (d := ev S x) (x := ev S y) with ⟨p, i, ob, v, he⟩ | he <;> rw [he] <;> rfl
  · rfl

/-- what an operation yields that is not a value alone -/
theorem xop_kind {o : Op} (h0 : (xop P S o).mostly = false) :
    (∃ t len parts, o = .buildSlice t len parts ∧ xop P S o = xbuildSlice P t len (parts.toList.map fun (i, x) => (i, ev S x))) ∨ (∃ t, o = .alloc t) ∨ (∃ t x, o = .box t x) ∨ (∃ t x v p, o = .store t x v ∧ ev S x = .pointer (some p) ∧ xop P S o = xstore P S.V t p (ev S v)) ∨ (∃ c, o = .call c) := by
  have h : (xop P S o).plain = false := by
    cases hh : (xop P S o).plain with
    | false => rfl
    | true => rw [Res.mostly_of hh] at h0; cases h0
  cases o <;> simp only [xop] at h h0 <;> try (exact absurd h Bool.noConfusion)
  case pick c x y => (repeat' split at h) <;> exact absurd h Bool.noConfusion
  case buildSlice t len parts => exact .inl ⟨t, len, parts, rfl, by simp only [xop]⟩
  case alloc t => exact .inr (.inl ⟨t, rfl⟩)
  case box t x => exact .inr (.inr (.inl ⟨t, x, rfl⟩))
  case build t parts => rw [plain_build] at h; cases h
  case load t x =>
    split at h
    · rw [plain_load] at h; cases h
    · exact absurd h Bool.noConfusion
  case store t x v =>
    split at h
    · rename_i p hp; exact .inr (.inr (.inr (.inl ⟨t, x, v, p, rfl, hp, by simp only [xop, hp]⟩)))
    · exact absurd h Bool.noConfusion
  case nilCheck x => (repeat' split at h) <;> exact absurd h Bool.noConfusion
  case binOp => rw [plain_binN] at h; cases h
  case unOp op t x => cases op <;> simp only [] at h <;> (repeat' split at h) <;> exact absurd h Bool.noConfusion
  case convert => (repeat' split at h0) <;> first | exact absurd h0 Bool.noConfusion | (rw [Res.mostly_of (plain_text _ _ _)] at h0; cases h0)
  case range => (repeat' split at h0) <;> exact absurd h0 Bool.noConfusion
  case makeSlice t x y => rcases xmake_kind (P := P) (t := t) (x := ev S x) (y := ev S y) with ⟨_, _, _, he⟩ | he <;> (rw [he] at h0; exact absurd h0 Bool.noConfusion)
  case next => (repeat' split at h0) <;> exact absurd h0 Bool.noConfusion
  case makeInterface => (repeat' split at h) <;> exact absurd h Bool.noConfusion
  case makeFunc => (repeat' split at h) <;> exact absurd h Bool.noConfusion
  case fieldAddr => rw [plain_fieldAddr] at h; cases h
  case field => rw [plain_field] at h; cases h
  case indexAddr => rw [plain_indexAddr] at h; cases h
  case index => rw [plain_index] at h; cases h
  case slice t x lo hi mx =>
    cases mx with
    | some m => exact absurd h Bool.noConfusion
    | none => simp only [plain_slice] at h; cases h
  case extract =>
    split at h
    · rw [plain_opt] at h; cases h
    · exact absurd h Bool.noConfusion
  case call c => exact .inr (.inr (.inr (.inr ⟨c, rfl⟩)))

theorem buildSlice_kind {t : TypeId} {len : Nat} {l : List (Nat × Value)} : (∃ e m rows, xbuildSlice P t len l = .alr e m rows) ∨ xbuildSlice P t len l = .bad := by
  unfold xbuildSlice
  (repeat' split) <;> first | exact .inr rfl | exact .inl ⟨_, _, _, rfl⟩

theorem alr_or_bad {o : Op} {t : TypeId} {len : Nat} {l : List (Nat × Value)} (h : xop P S o = xbuildSlice P t len l) : (∃ e m rows, xop P S o = .alr e m rows) ∨ xop P S o = .bad := by
  rw [h]; exact buildSlice_kind

theorem xstore_kind {V : VW} {t : TypeId} {p : Addr} {v : Value} : (∃ i u c, xstore P V t p v = .sto i u c ∧ isC v = false) ∨ (∃ q i r c, xstore P V t p v = .sob q i r c ∧ isC v = false) ∨ xstore P V t p v = .bad := by
  unfold xstore
  (repeat' split) <;> first | exact .inr (.inr rfl) | exact .inl ⟨_, _, _, rfl, by assumption⟩ | exact .inr (.inl ⟨_, _, _, _, rfl, by assumption⟩)

theorem appsK_eq {α β : Type} : ∀ (l l' : List α) (k : List α → β), appsK l l' k = k (l ++ l')
  | l, [], k => by simp [appsK]
  | l, x :: xs, k => by simp only [appsK, appK_eq]; rw [appsK_eq]; simp

theorem run_call {o : Oper} {f : FuncId} {args : List Value} (hR : Rep env S a w) (h : xop P S o.op = .call f args) (hc : Callable P f) :
    (execOp a.eval o).run P w = .ok (.enter f (args.map (ren env)).toArray) w := by
  obtain ⟨dst, op, ty, pos, after, guard⟩ := o
  have hk := xop_kind (P := P) (S := S) (o := op) (by rw [h]; rfl)
  rcases hk with ⟨_, _, _, _, hbs⟩ | ⟨t, rfl⟩ | ⟨t, x, rfl⟩ | ⟨t, x, v, p, rfl, hp, he⟩ | ⟨c, rfl⟩
  · exfalso; rcases alr_or_bad hbs with ⟨_, _, _, e⟩ | e <;> (rw [e] at h; cases h)
  · exfalso
    simp only [xop] at h
    (repeat' split at h) <;> cases h
  · exfalso
    simp only [xop] at h
    (repeat' split at h) <;> cases h
  · exfalso
    rw [he] at h
    rcases xstore_kind (P := P) (V := S.V) (t := t) (p := p) (v := ev S v) with ⟨_, _, _, he, _⟩ | ⟨_, _, _, _, he, _⟩ | he
    · rw [he] at h; cases h
    · rw [he] at h; cases h
    · rw [he] at h; cases h
  · simp only [xop] at h
    split at h
    · rename_i b _
      exact absurd (congrArg Res.mostly h) (by rw [bi_mostly]; simp [Res.mostly])
    · rename_i x hcal
      split at h
      · rename_i f' fst cap hx
        split at h
        · rename_i hargs
          cases h
          have hx' := ev_of hR hx (by simp [unk])
          rw [ren_func] at hx'
          have hm := evs_known hR _ hargs
          obtain ⟨fn, hf, hb, hn⟩ := hc
          have hb' : fn.body.isNone = false := by cases hbb : fn.body <;> simp_all
          have hargs' : c.args.map a.eval = ((c.args.toList.map (ev S)).map (ren env)).toArray := by apply Array.ext'; simpa using hm
          simp only [execOp, resolve, hcal, hx', Deferred.ofValue, pure_bind, invoke, callFunc, Sem.run_bind, run_program, Result.andThen_ok, hf, hn, hb', Bool.false_eq_true, if_false, Sem.run_pure]
          congr 2
          rw [hargs', arr_map, arr_map]
          apply Array.ext'
          simp
        · cases h
      · cases h
    · cases h

theorem run_call0 {o : Oper} {f : FuncId} {args : List Value} (hR : Rep env S a w) (h : xop P S o.op = .call f args) :
    (execOp a.eval o).run P w = (callFunc f (args.map (ren env)).toArray).run P w := by
  obtain ⟨dst, op, ty, pos, after, guard⟩ := o
  have hk := xop_kind (P := P) (S := S) (o := op) (by rw [h]; rfl)
  rcases hk with ⟨_, _, _, _, hbs⟩ | ⟨t, rfl⟩ | ⟨t, x, rfl⟩ | ⟨t, x, v, p, rfl, hp, he⟩ | ⟨c, rfl⟩
  · exfalso; rcases alr_or_bad hbs with ⟨_, _, _, e⟩ | e <;> (rw [e] at h; cases h)
  · exfalso
    simp only [xop] at h
    (repeat' split at h) <;> cases h
  · exfalso
    simp only [xop] at h
    (repeat' split at h) <;> cases h
  · exfalso
    rw [he] at h
    rcases xstore_kind (P := P) (V := S.V) (t := t) (p := p) (v := ev S v) with ⟨_, _, _, he, _⟩ | ⟨_, _, _, _, he, _⟩ | he
    · rw [he] at h; cases h
    · rw [he] at h; cases h
    · rw [he] at h; cases h
  · simp only [xop] at h
    split at h
    · rename_i b _
      exact absurd (congrArg Res.mostly h) (by rw [bi_mostly]; simp [Res.mostly])
    · rename_i x hcal
      split at h
      · rename_i f' fst cap hx
        split at h
        · rename_i hargs
          cases h
          have hx' := ev_of hR hx (by simp [unk])
          rw [ren_func] at hx'
          have hm := evs_known hR _ hargs
          have hargs' : c.args.map a.eval = ((c.args.toList.map (ev S)).map (ren env)).toArray := by apply Array.ext'; simpa using hm
          simp only [execOp, resolve, hcal, hx', Deferred.ofValue, pure_bind, invoke]
          congr 1
          rw [hargs', arr_map, arr_map]
          congr 1
          apply Array.ext'
          simp
        · cases h
      · cases h
    · cases h

theorem arg_sc (hR : Rep env S a w) {o : Oper} {f : FuncId} {args : List Value} (h : xop P S o.op = .call f args) : ∀ x ∈ args, Sc S.V.length x := by
  obtain ⟨dst, op, ty, pos, after, guard⟩ := o
  have hk := xop_kind (P := P) (S := S) (o := op) (by rw [h]; rfl)
  have hev : ∀ x : Operand, Sc S.V.length (ev S x) := by
    intro x
    cases x with
    | tmp t =>
      simp only [ev, nth_eq]
      by_cases ht : t < S.tmps.length
      · exact hR.sc _ (by simp [List.getD, ht])
      · simp only [List.getD, List.getElem?_eq_none (Nat.le_of_not_lt ht), Option.getD_none]; exact .undef
    | const v =>
      simp only [ev, cst]
      split
      · exact .plain ‹_›
      · exact .unk
    | global g => exact .unk
    | func f => exact .func (l := []) (l' := []) (by simp) (by simp)
  rcases hk with ⟨_, _, _, _, hbs⟩ | ⟨t, rfl⟩ | ⟨t, x, rfl⟩ | ⟨t, x, v, p, rfl, hp, he⟩ | ⟨c, rfl⟩
  · exfalso; rcases alr_or_bad hbs with ⟨_, _, _, e⟩ | e <;> (rw [e] at h; cases h)
  · simp only [xop] at h
    (repeat' split at h) <;> cases h
  · simp only [xop] at h
    (repeat' split at h) <;> cases h
  · rw [he] at h
    rcases xstore_kind (P := P) (V := S.V) (t := t) (p := p) (v := ev S v) with ⟨_, _, _, he, _⟩ | ⟨_, _, _, _, he, _⟩ | he
    · rw [he] at h; cases h
    · rw [he] at h; cases h
    · rw [he] at h; cases h
  · simp only [xop] at h
    split at h
    · have hpl := congrArg Res.mostly h
      rw [bi_mostly] at hpl; cases hpl
    · rename_i x hcal
      split at h
      · rename_i f' fst cap hx
        split at h
        · cases h
          have hfx := hev x
          rw [hx] at hfx
          have hparts : (∀ v ∈ fst.toList, Sc S.V.length v) ∧ (∀ v ∈ cap.toList, Sc S.V.length v) := by
            constructor
            · intro v hv e e' he
              have := hfx e e' he
              rw [ren_func, ren_func, Value.func.injEq] at this
              have h2 := this.2.1
              rw [Array.map_inj_left] at h2
              exact h2 v (by simpa using hv)
            · intro v hv e e' he
              have := hfx e e' he
              rw [ren_func, ren_func, Value.func.injEq] at this
              have h2 := this.2.2
              rw [Array.map_inj_left] at h2
              exact h2 v (by simpa using hv)
          intro y hy
          simp only [List.mem_append, List.mem_map] at hy
          rcases hy with (hy | ⟨z, _, rfl⟩) | hy
          · exact hparts.1 y hy
          · exact hev z
          · exact hparts.2 y hy
        · cases h
      · cases h
    · cases h

theorem run_alc {o : Oper} {t : TypeId} {c : List Value} (hR : Rep env S a w) (hx : xop P S o.op = .alc t c) :
    (execOp a.eval o).run P w = .ok (.value (.pointer (some ⟨w.heap.size, 0, none⟩))) (w.alloc (.cells (c.map (ren env)).toArray t)) := by
  have hk := xop_kind (P := P) (S := S) (o := o.op) (by rw [hx]; rfl)
  rcases hk with ⟨_, _, _, _, hbs⟩ | ⟨t', he⟩ | ⟨t', x, he⟩ | ⟨t', x, v, p, he, hp, hxs⟩ | ⟨cc, he⟩
  · exfalso; rcases alr_or_bad hbs with ⟨_, _, _, e⟩ | e <;> (rw [e] at hx; cases hx)
  · rw [he] at hx
    simp only [xop] at hx
    split at hx
    · rename_i i hi
      split at hx
      · rename_i z hz
        split at hx
        · rename_i hpc hc
          cases hx
          have hzz : z.cells = (vcells z).toArray := by cases z <;> simp_all [vcells, Value.cells, isC]
          rw [map_ren_plain env hpc]
          simp only [execOp, he, Instr.alloc, Sem.run_bind, run_zero hi hz, Result.andThen_ok, newVar, newRow, hzz]
          rfl
        · cases hx
      · cases hx
    · cases hx
  · rw [he] at hx
    simp only [xop] at hx
    split at hx
    · rename_i hc hcell
      cases hx
      have hx' := ev_known hR hc
      simp only [execOp, he, Instr.box, Sem.run_bind, Result.andThen_ok, newVar, newRow, hx', vcells_ren env hc]
      rfl
    · cases hx
  · rw [hxs] at hx
    rcases xstore_kind (P := P) (V := S.V) (t := t') (p := p) (v := ev S v) with ⟨_, _, _, he', _⟩ | ⟨_, _, _, _, he', _⟩ | he' <;> (rw [he'] at hx; cases hx)
  · rw [he] at hx
    simp only [xop] at hx
    (repeat' split at hx) <;> first | (cases hx; done) | (have hpl := congrArg Res.mostly hx; rw [bi_mostly] at hpl; cases hpl)

theorem normRows_spec {g : Value → (Value → Prop) → Prop} {n : Nat} (hg : ∀ v k, g v k → Sc n v ∧ k v) :
    ∀ (l : List (List Value)) (k : List (List Value) → Prop), normRows g l k → (∀ x ∈ l, ∀ v ∈ x, Sc n v) ∧ k l
  | [], k, h => ⟨by simp, h⟩
  | v :: vs, k, h => by
    obtain ⟨h1, h2⟩ := normL_spec hg _ _ h
    obtain ⟨h3, h4⟩ := normRows_spec hg vs _ h2
    refine ⟨fun x hx => ?_, h4⟩
    rcases List.mem_cons.1 hx with rfl | hx
    · exact h1
    · exact h3 x hx

theorem chunk_flatten : ∀ (n m : Nat) (l : List Value), l.length = n * m → (chunk n m l).flatten = l ∧ (chunk n m l).length = n ∧ ∀ x ∈ chunk n m l, x.length = m
  | 0, m, l, h => by
    have : l = [] := List.length_eq_zero_iff.1 (by omega)
    subst this; simp [chunk]
  | n + 1, m, l, h => by
    rw [Nat.add_mul, Nat.one_mul] at h
    obtain ⟨h1, h2, h3⟩ := chunk_flatten n m (l.drop m) (by simp; omega)
    refine ⟨by simp [chunk, h1], by simp [chunk, h2], fun x hx => ?_⟩
    simp only [chunk, List.mem_cons] at hx
    rcases hx with rfl | hx
    · simp; omega
    · exact h3 x hx

theorem range_mod (z : Array Value) (n m : Nat) (hz : z.size = m) (hm : 0 < n * m) : (Array.range (n * m)).map (z[· % z.size]!) = ((List.replicate n z.toList).flatten).toArray := by
  have hmp : 0 < m := by
    rcases Nat.eq_zero_or_pos m with h | h
    · subst h; simp at hm
    · exact h
  apply Array.ext'
  rw [Array.toList_map, Array.toList_range]
  apply List.ext_getElem?
  intro k
  simp only [List.getElem?_map, List.toList_toArray]
  have hrep : ∀ (n k : Nat), k < n * m → ((List.replicate n z.toList).flatten)[k]? = z.toList[k % m]? := by
    intro n
    induction n with
    | zero => intro k hk; omega
    | succ n ih =>
      intro k hk
      rw [List.replicate_succ, List.flatten_cons]
      by_cases hkm : k < m
      · rw [List.getElem?_append_left (by simp [hz]; exact hkm), Nat.mod_eq_of_lt hkm]
      · rw [List.getElem?_append_right (by simp [hz]; omega)]
        simp only [Array.length_toList, hz]
        rw [ih (k - m) (by rw [Nat.add_mul, Nat.one_mul] at hk; omega), ← Nat.mod_eq_sub_mod (by omega)]
  by_cases hk : k < n * m
  · rw [List.getElem?_range hk, hrep n k hk]
    have : k % m < z.size := by rw [hz]; exact Nat.mod_lt _ hmp
    simp only [Option.map_some, hz]
    rw [getElem!_pos z (k % m) this]
    simp [this]
  · have h1 : (List.range (n * m))[k]? = none := List.getElem?_eq_none (by simp; omega)
    have h2 : ((List.replicate n z.toList).flatten)[k]? = none := List.getElem?_eq_none (by simp [hz]; omega)
    simp [h1, h2]

theorem run_rows {t' : TypeId} {len : Nat} {parts : Array (Nat × Operand)} {t : TypeId} {m : Nat} {rows : List (List Value)} (hR : Rep env S a w)
    (hx : xbuildRows P t' len (parts.toList.map fun (i, x) => (i, ev S x)) = some (t, m, rows)) {o : Oper} (ho : o.op = .buildSlice t' len parts) :
    (execOp a.eval o).run P w = .ok (.value (.slice (some ⟨w.heap.size, 0, none⟩) rows.length rows.length)) (w.alloc (.cells (rows.flatten.map (ren env)).toArray t)) ∧ (∀ x ∈ rows, x.length = m) := by
  unfold xbuildRows at hx
  split at hx
  · rename_i e hu
    split at hx
    · rename_i ie hie
      split at hx
      · rename_i z hz
        split at hx
        · rename_i hpc hc hsmall hpos hzl
          split at hx
          · rename_i l hf
            split at hx
            · rename_i hlen hcell
              cases hx
              have hlen' := Nat.eq_of_beq_eq_true hlen
              obtain ⟨h1, h2, h3⟩ := chunk_flatten len ie.size l hlen'
              refine ⟨?_, h3⟩
              rw [h1, h2]
              have hzz : z.cells = (vcells z).toArray := by cases z <;> simp_all [vcells, Value.cells, isC]
              have hzsz : z.cells.size = ie.size := by rw [hzz]; simpa using Nat.eq_of_beq_eq_true hzl
              have hpos' : 0 < len * ie.size := by rwa [Nat.blt_eq] at hpos
              have hparts : (parts.map fun (i, x) => (i, a.eval x)).toList = (parts.toList.map fun (i, x) => (i, ev S x)).map fun x => (x.1, ren env x.2) := by
                rw [Array.toList_map]
                have key : ∀ (places : List (Nat × Nat)) (cells l : List Value) (parts : List (Nat × Operand)),
                    fillL places cells (parts.map fun (i, x) => (i, ev S x)) = some l → (parts.map fun (i, x) => (i, a.eval x)) = (parts.map fun (i, x) => (i, ev S x)).map fun x => (x.1, ren env x.2) := by
                  intro places cells l parts
                  induction parts generalizing cells with
                  | nil => intro _; rfl
                  | cons p rest ih =>
                    obtain ⟨i, x⟩ := p
                    intro h
                    simp only [List.map_cons, fillL] at h
                    split at h
                    · cases h
                    · split at h
                      · split at h
                        · rename_i hc hs
                          simp only [List.map_cons]
                          rw [ev_known hR hc, ih _ h]
                        · cases h
                      · cases h
                exact key _ _ _ _ hf
              have hfill := fill_ren env (fun i => some (i * ie.size, ie.size)) _ (fun i x hx => by
                simp only [List.getElem?_map] at hx
                cases hr : (List.range len)[i]? with
                | none => simp [hr] at hx
                | some j =>
                  have : j = i := by
                    obtain ⟨hlt, hj⟩ := List.getElem?_eq_some_iff.1 hr
                    simpa using hj.symm
                  subst this
                  simpa [hr] using hx) _ _ l hf
              have hzero : ((List.replicate len (vcells z)).flatten).map (ren env) = (List.replicate len (vcells z)).flatten := map_ren_plain env (by
                rw [List.all_eq_true]
                intro x hx
                obtain ⟨y, hy, hxy⟩ := List.mem_flatten.1 hx
                have := List.eq_of_mem_replicate hy
                subst this
                exact List.all_eq_true.1 hpc x hxy)
              rw [hzero] at hfill
              have hrm := range_mod z.cells len ie.size hzsz hpos'
              have hbs' := run_buildSlice (P := P) w t' t len (parts.map fun (i, x) => (i, a.eval x)) (l.map (ren env)).toArray ie z hu hie hz (by have := Nat.le_of_ble_eq_true hsmall; omega) (by omega)
                (by rw [hrm, hzz, hparts]; exact hfill)
              simp only [execOp, ho, Sem.run_bind, hbs', Result.andThen_ok, Sem.run_pure]
            · cases hx
          · cases hx
        · cases hx
      · cases hx
    · cases hx
  · cases hx

theorem run_alr {o : Oper} {t : TypeId} {m : Nat} {rows : List (List Value)} (hR : Rep env S a w) (hx : xop P S o.op = .alr t m rows) :
    (execOp a.eval o).run P w = .ok (.value (.slice (some ⟨w.heap.size, 0, none⟩) rows.length rows.length)) (w.alloc (.cells (rows.flatten.map (ren env)).toArray t)) ∧ ∀ x ∈ rows, x.length = m := by
  obtain ⟨dst, op, ty, pos, after, guard⟩ := o
  have hk := xop_kind (P := P) (S := S) (o := op) (by rw [hx]; rfl)
  rcases hk with ⟨t', len, parts, rfl, hbs⟩ | ⟨t', rfl⟩ | ⟨t', x, rfl⟩ | ⟨t', x, v, p, rfl, hp, he⟩ | ⟨c, rfl⟩
  · rw [hbs] at hx
    unfold xbuildSlice at hx
    split at hx
    · rename_i e m' rows' hrows
      split at hx
      · cases hx
        exact run_rows hR hrows (o := ⟨dst, .buildSlice t' len parts, ty, pos, after, guard⟩) rfl
      · cases hx
    · cases hx
  · simp only [xop] at hx; (repeat' split at hx) <;> cases hx
  · simp only [xop] at hx; (repeat' split at hx) <;> cases hx
  · rw [he] at hx
    rcases xstore_kind (P := P) (V := S.V) (t := t') (p := p) (v := ev S v) with ⟨_, _, _, he', _⟩ | ⟨_, _, _, _, he', _⟩ | he' <;> (rw [he'] at hx; cases hx)
  · simp only [xop] at hx
    (repeat' split at hx) <;> first | (cases hx; done) | (have hpl := congrArg Res.mostly hx; rw [bi_mostly] at hpl; cases hpl)

theorem bi_grow {b : Builtin} {c : Call} {p : Prop} {i : Option Nat} {ob : VObj} {v : Nat → Value} (h : xbi P S b c = .grow p i ob v) :
    b = .append ∧ ∃ x y t u, c.args.toList = [x, y] ∧ c.argTypes.toList = [t, u] ∧ xappend P S.V t u (ev S x) (ev S y) = .grow p i ob v := by
  have np : ∀ {r : Res}, r.plain = true → r = .grow p i ob v → False := fun hr he => by rw [he] at hr; cases hr
  unfold xbi at h
  split at h
  · exact (np (plain_len _ _) h).elim
  · exact (np (by unfold xcap; (repeat' split) <;> rfl) h).elim
  · exact (np (by unfold xmin; (repeat' split) <;> rfl) h).elim
  · exact (np (by unfold xmax; (repeat' split) <;> rfl) h).elim
  · rename_i x y t u ha ht
    exact ⟨rfl, x, y, t, u, ha, ht, h⟩
  · rename_i x y t u ha ht
    rcases xcopy_kind (P := P) (V := S.V) (t := t) (u := u) (d := ev S x) (x := ev S y) with ⟨_, _, _, _, he⟩ | he <;> (rw [he] at h; cases h)
  · cases h

theorem bi_cpy {b : Builtin} {c : Call} {p : Prop} {i : Nat} {ob : VObj} {v : Value} (h : xbi P S b c = .cpy p i ob v) :
    (b = .copy ∧ ∃ x y t u, c.args.toList = [x, y] ∧ c.argTypes.toList = [t, u] ∧ xcopy P S.V t u (ev S x) (ev S y) = .cpy p i ob v) ∨
    (b = .append ∧ ∃ x y t u, c.args.toList = [x, y] ∧ c.argTypes.toList = [t, u] ∧ xappend P S.V t u (ev S x) (ev S y) = .cpy p i ob v) := by
  have np : ∀ {r : Res}, r.plain = true → r = .cpy p i ob v → False := fun hr he => by rw [he] at hr; cases hr
  unfold xbi at h
  split at h
  · exact (np (plain_len _ _) h).elim
  · exact (np (by unfold xcap; (repeat' split) <;> rfl) h).elim
  · exact (np (by unfold xmin; (repeat' split) <;> rfl) h).elim
  · exact (np (by unfold xmax; (repeat' split) <;> rfl) h).elim
  · rename_i x y t u ha ht
    exact .inr ⟨rfl, x, y, t, u, ha, ht, h⟩
  · rename_i x y t u ha ht
    exact .inl ⟨rfl, x, y, t, u, ha, ht, h⟩
  · cases h

theorem xappend_known {V : VW} {t u : TypeId} {s x : Value} {p : Prop} {i : Option Nat} {ob : VObj} {v : Nat → Value} (h : xappend P V t u s x = .grow p i ob v) : s ≠ unk ∧ x ≠ unk := by
  constructor
  · rintro rfl
    unfold xappend unk at h
    dsimp only at h
    unfold xappend0 at h
    (repeat' split at h) <;> first | (cases h; done) | (rename_i hh _ _ _ _ _ _ _ _ _; cases hh; done) | skip
    all_goals (first | (exfalso; simp_all; done) | skip)
  · rintro rfl
    have : ∀ m, xsrc P V u m unk = .none := fun m => by
      unfold xsrc unk
      split <;> first | rfl | (rename_i hh; cases hh)
    have h0 : ∀ s, xappend0 P V t u s unk = .bad := by
      intro s
      unfold xappend0
      simp only [this]
      (repeat' split) <;> first | rfl | (exfalso; simp_all; done)
    have hK : ∀ a len room, xappendK P V t u a len unk room = .bad := by
      intro a len room
      unfold xappendK
      simp only [this]
      (repeat' split) <;> first | rfl | (exfalso; simp_all; done)
    have hV : ∀ i t' m n f len, xappendV P V t u i t' m n f len unk = .bad := by
      intro i t' m n f len
      unfold xappendV
      simp only [this]
      (repeat' split) <;> first | rfl | (exfalso; simp_all; done)
    unfold xappend at h
    simp only [h0, hV, hK] at h
    (repeat' split at h) <;> cases h

/-- the operations that make one place -/
theorem xop_grow {o : Op} {p : Prop} {i : Option Nat} {ob : VObj} {v : Nat → Value} (hx : xop P S o = .grow p i ob v) :
    (∃ c x y t u, o = .call c ∧ c.callee = .builtin .append ∧ c.args.toList = [x, y] ∧ c.argTypes.toList = [t, u] ∧ xappend P S.V t u (ev S x) (ev S y) = .grow p i ob v) ∨
    (∃ s d x e b, o = .convert s d x ∧ P.underlying s = some .string ∧ P.underlying d = some (.slice e) ∧ ev S x = .string b ∧ P.underlying e = some (.int .u8) ∧ i = none ∧ ob = .rows false e 1 b.size 0 (u8 b) ∧ v = fun N => .slice (some ⟨N, 1, some 0⟩) b.size 0) ∨
    (∃ t x b, o = .range t x ∧ P.underlying t = some .string ∧ ev S x = .string b ∧ i = none ∧ ob = .iter b 0 ∧ v = fun N => .pointer (some ⟨N, 0, none⟩)) ∨
    (∃ t x y, o = .makeSlice t x y ∧ xmake P t (ev S x) (ev S y) = .grow p i ob v) := by
  have np : ∀ {r : Res}, r.plain = true → r = .grow p i ob v → False := fun hr he => by rw [he] at hr; cases hr
  cases o <;> simp only [xop] at hx <;> try (cases hx; done)
  case pick c x y => (repeat' split at hx) <;> cases hx
  case buildSlice t len parts => rcases buildSlice_kind (P := P) (t := t) (len := len) (l := parts.toList.map fun (i, x) => (i, ev S x)) with ⟨_, _, _, e⟩ | e <;> (rw [e] at hx; cases hx)
  case alloc t => (repeat' split at hx) <;> cases hx
  case box t x => (repeat' split at hx) <;> cases hx
  case build t parts => exact (np (plain_build _ _) hx).elim
  case load t x =>
    split at hx
    · exact (np (plain_load _ _ _) hx).elim
    · cases hx
  case store t x y =>
    split at hx
    · rename_i p' _
      rcases xstore_kind (P := P) (V := S.V) (t := t) (p := p') (v := ev S y) with ⟨_, _, _, he', _⟩ | ⟨_, _, _, _, he', _⟩ | he' <;> (rw [he'] at hx; cases hx)
    · cases hx
  case nilCheck x => (repeat' split at hx) <;> cases hx
  case binOp => exact (np (plain_binN _ _ _ _ _) hx).elim
  case unOp op t x => cases op <;> simp only [] at hx <;> (repeat' split at hx) <;> cases hx
  case convert src dst x =>
    split at hx
    · cases hx
    · cases hx
    · cases hx
    · exact (np (plain_text _ _ _) hx).elim
    · rename_i e b h1 h2 h3
      split at hx
      · rename_i h4
        cases hx
        exact .inr (.inl ⟨src, dst, x, e, b, rfl, h1, h2, h3, h4, rfl, rfl, rfl⟩)
      · cases hx
    · cases hx
  case makeInterface => (repeat' split at hx) <;> cases hx
  case makeFunc => (repeat' split at hx) <;> cases hx
  case fieldAddr => exact (np (plain_fieldAddr _ _ _) hx).elim
  case field => exact (np (plain_field _ _ _) hx).elim
  case indexAddr => exact (np (plain_indexAddr _ _ _ _) hx).elim
  case index => exact (np (plain_index _ _ _) hx).elim
  case slice t x lo hi mx =>
    cases mx with
    | some m => cases hx
    | none => exact (np (plain_slice _ _ _ _ _) hx).elim
  case extract =>
    split at hx
    · exact (np (plain_opt _) hx).elim
    · cases hx
  case range t x =>
    split at hx
    · rename_i b h1 h2
      cases hx
      exact .inr (.inr (.inl ⟨t, x, b, rfl, h1, h2, rfl, rfl, rfl⟩))
    · cases hx
  case makeSlice t x y => exact .inr (.inr (.inr ⟨t, x, y, rfl, hx⟩))
  case next x b => (repeat' split at hx) <;> cases hx
  case call c =>
    left
    split at hx
    · rename_i b hb
      obtain ⟨rfl, x, y, t, u, ha, ht, hg⟩ := bi_grow hx
      exact ⟨c, x, y, t, u, rfl, hb, ha, ht, hg⟩
    · split at hx
      · split at hx <;> cases hx
      · cases hx
    · cases hx

theorem xop_cpy {o : Op} {p : Prop} {i : Nat} {ob : VObj} {v : Value} (hx : xop P S o = .cpy p i ob v) :
    (∃ c x y t u, o = .call c ∧ c.callee = .builtin .copy ∧ c.args.toList = [x, y] ∧ c.argTypes.toList = [t, u] ∧ xcopy P S.V t u (ev S x) (ev S y) = .cpy p i ob v) ∨
    (∃ c x y t u, o = .call c ∧ c.callee = .builtin .append ∧ c.args.toList = [x, y] ∧ c.argTypes.toList = [t, u] ∧ xappend P S.V t u (ev S x) (ev S y) = .cpy p i ob v) := by
  have np : ∀ {r : Res}, r.plain = true → r = .cpy p i ob v → False := fun hr he => by rw [he] at hr; cases hr
  cases o <;> simp only [xop] at hx <;> try (cases hx; done)
  case pick c x y => (repeat' split at hx) <;> cases hx
  case buildSlice t len parts => rcases buildSlice_kind (P := P) (t := t) (len := len) (l := parts.toList.map fun (i, x) => (i, ev S x)) with ⟨_, _, _, e⟩ | e <;> (rw [e] at hx; cases hx)
  case alloc t => (repeat' split at hx) <;> cases hx
  case box t x => (repeat' split at hx) <;> cases hx
  case build t parts => exact (np (plain_build _ _) hx).elim
  case load t x =>
    split at hx
    · exact (np (plain_load _ _ _) hx).elim
    · cases hx
  case store t x y =>
    split at hx
    · rename_i p' _
      rcases xstore_kind (P := P) (V := S.V) (t := t) (p := p') (v := ev S y) with ⟨_, _, _, he', _⟩ | ⟨_, _, _, _, he', _⟩ | he' <;> (rw [he'] at hx; cases hx)
    · cases hx
  case nilCheck x => (repeat' split at hx) <;> cases hx
  case binOp => exact (np (plain_binN _ _ _ _ _) hx).elim
  case unOp op t x => cases op <;> simp only [] at hx <;> (repeat' split at hx) <;> cases hx
  case convert src dst x =>
    split at hx
    · cases hx
    · cases hx
    · cases hx
    · exact (np (plain_text _ _ _) hx).elim
    · rename_i e b h1 h2 h3
      split at hx <;> cases hx
    · cases hx
  case makeInterface => (repeat' split at hx) <;> cases hx
  case makeFunc => (repeat' split at hx) <;> cases hx
  case fieldAddr => exact (np (plain_fieldAddr _ _ _) hx).elim
  case field => exact (np (plain_field _ _ _) hx).elim
  case indexAddr => exact (np (plain_indexAddr _ _ _ _) hx).elim
  case index => exact (np (plain_index _ _ _) hx).elim
  case slice t x lo hi mx =>
    cases mx with
    | some m => cases hx
    | none => exact (np (plain_slice _ _ _ _ _) hx).elim
  case extract =>
    split at hx
    · exact (np (plain_opt _) hx).elim
    · cases hx
  case range t x =>
    (repeat' split at hx) <;> cases hx
  case makeSlice t x y => rcases xmake_kind (P := P) (t := t) (x := ev S x) (y := ev S y) with ⟨_, _, _, he⟩ | he <;> (rw [he] at hx; cases hx)
  case next x b => (repeat' split at hx) <;> cases hx
  case call c =>
    split at hx
    · rename_i b hb
      rcases bi_cpy hx with ⟨rfl, x, y, t, u, ha, ht, hg⟩ | ⟨rfl, x, y, t, u, ha, ht, hg⟩
      · exact .inl ⟨c, x, y, t, u, rfl, hb, ha, ht, hg⟩
      · exact .inr ⟨c, x, y, t, u, rfl, hb, ha, ht, hg⟩
    · split at hx
      · split at hx <;> cases hx
      · cases hx
    · cases hx

theorem xmake_ints {t : TypeId} {x y : Value} {p : Prop} {i : Option Nat} {ob : VObj} {v : Nat → Value} (h : xmake P t x y = .grow p i ob v) : ∃ k n k' n', x = .int k n ∧ y = .int k' n' := by
  unfold xmake at h
  split at h
  · exact ⟨_, _, _, _, rfl, rfl⟩
  · cases h

theorem run_cpy {o : Oper} {p : Prop} {i : Nat} {ob : VObj} {v : Value} (hR : Rep env S a w) (hx : xop P S o.op = .cpy p i ob v) (hp : p) :
    ∃ w', (execOp a.eval o).run P w = .ok (.value (ren env v)) w' ∧ RepW env (S.V.set i ob) w' ∧ Fr env S.V w env (S.V.set i ob) w' := by
  rcases xop_cpy hx with ⟨c, x, y, t, u, he, hb, ha, ht, hg⟩ | ⟨c, x, y, t, u, he, hb, ha, ht, hg⟩
  · obtain ⟨hk1, hk2⟩ := xcopy_known hg
    have h1 := ev_of hR (x := x) rfl hk1
    have h2 := ev_of hR (x := y) rfl hk2
    have hargs : c.args.map a.eval = #[ren env (ev S x), ren env (ev S y)] := by
      apply Array.ext'; simp [ha, h1, h2]
    have hts : c.argTypes = #[t, u] := by
      apply Array.ext'; simp [ht]
    obtain ⟨w', hrun, hW, hF⟩ := copy_ok hR.mem (ty := o.type) hg hp
    refine ⟨w', ?_, hW, hF⟩
    simp [execOp, he, resolve, hb, invoke, builtin, hargs, hts, hrun]
  · obtain ⟨hk1, hk2, w', hrun, hW, hF⟩ := append_in_ok hR.mem (ty := o.type) hg hp
    have h1 := ev_of hR (x := x) rfl hk1
    have h2 := ev_of hR (x := y) rfl hk2
    have hargs : c.args.map a.eval = #[ren env (ev S x), ren env (ev S y)] := by
      apply Array.ext'; simp [ha, h1, h2]
    have hts : c.argTypes = #[t, u] := by
      apply Array.ext'; simp [ht]
    refine ⟨w', ?_, hW, hF⟩
    simp [execOp, he, resolve, hb, invoke, builtin, hargs, hts, hrun]

theorem run_grow {o : Oper} {p : Prop} {i : Option Nat} {ob : VObj} {v : Nat → Value} (hR : Rep env S a w) (hx : xop P S o.op = .grow p i ob v) (hp : p) :
    ∃ u' w' env', (execOp a.eval o).run P w = .ok (.value u') w' ∧ u' = ren env' (v S.V.length) ∧ RepW env' (killV S.V i ++ [ob]) w' ∧ Fr env S.V w env' (killV S.V i ++ [ob]) w' := by
  rcases xop_grow hx with ⟨c, x, y, t, u, he, hb, ha, ht, hg⟩ | ⟨src, dst, x, e, b, he, h1, h2, h3, h4, rfl, rfl, rfl⟩ | ⟨t, x, b, he, h1, h2, rfl, rfl, rfl⟩ | ⟨t, x, y, he, hg⟩
  case' inr.inr.inr =>
    obtain ⟨k, n, k', n', hx1, hy1⟩ := xmake_ints hg
    have hx2 := ev_of hR hx1 (by simp [unk])
    have hy2 := ev_of hR hy1 (by simp [unk])
    obtain ⟨rfl, u', w', env', hrun, hu, hW, hF⟩ := make_ok hR.mem hg hp
    refine ⟨u', w', env', ?_, hu, hW, hF⟩
    rw [hx1, hy1] at hrun
    rw [ren_int] at hx2 hy2
    rw [show execOp a.eval o = (do let u ← Instr.makeSlice t (a.eval x) (a.eval y); pure (.value u)) by simp only [execOp, he]]
    rw [hx2, hy2, Sem.run_bind, hrun]
    rfl
  · obtain ⟨hk1, hk2⟩ := xappend_known hg
    have h1 := ev_of hR (x := x) rfl hk1
    have h2 := ev_of hR (x := y) rfl hk2
    have hargs : c.args.map a.eval = #[ren env (ev S x), ren env (ev S y)] := by
      apply Array.ext'; simp [ha, h1, h2]
    have hts : c.argTypes = #[t, u] := by
      apply Array.ext'; simp [ht]
    obtain ⟨u', w', env', hrun, hu, hW, hF⟩ := append_ok hR.mem (ty := o.type) hg hp
    refine ⟨u', w', env', ?_, hu, hW, hF⟩
    simp [execOp, he, resolve, hb, invoke, builtin, hargs, hts, hrun]
  · have hx' := ev_of hR h3 (by simp [unk])
    rw [ren_string] at hx'
    have hrun := run_bytes_of_string (P := P) w src dst e b h1 h2 h4
    have hgrow := (drewW hR.mem).allocO (o := .rows false e 1 b.size 0 (u8 b)) (ob := .cells (bytesRow b (grownCap w b.size 0 e)) e ((bytesRow b (grownCap w b.size 0 e)).size, (bytesRow b (grownCap w b.size 0 e)).size + 1)) (m := 1) (q := grownCap w b.size 0 e)
      (fun r hr v hv => by
        simp only [u8, List.mem_singleton] at hv
        subst hv
        exact ⟨.plain rfl, rfl⟩) fun env' hag => by
        refine ⟨rfl, fun r hr => ⟨rfl, fun j v hj => ?_⟩, fun h => by cases h⟩
        have hj0 : j = 0 := by
          have := (List.getElem?_eq_some_iff.1 hj).1
          simp [u8] at this; exact this
        subst hj0
        rw [cell_of_row _ _ _ _ _ _ (heap_alloc_new _ _)]
        simp only [u8, List.map_cons, ren_int, List.map_nil, List.getElem?_cons_zero, Option.some.injEq] at hj
        subst hj
        have hsz : b.size = b.data.toList.length := rfl
        show (bytesRow b (grownCap w b.size 0 e))[0 + r * 1 + 0]? = _
        have hr' : r < b.data.size := hr
        simp [bytesRow, Array.getElem?_append, List.getD]
        rw [if_pos hr, Array.getElem?_eq_getElem hr']
        simp
    obtain ⟨hW, hF⟩ := hgrow
    have hF' : Fr env S.V w _ (S.V ++ [.rows false e 1 b.size 0 (u8 b)]) _ := ⟨hF.agree, hF.len, hF.os, hF.tape, hF.output, hF.size, hF.keep, hF.own⟩
    refine ⟨.slice (some ⟨w.heap.size, 0, none⟩) b.size (grownCap w b.size 0 e), _, _, ?_, ?_, hW, hF'⟩
    · rw [show execOp a.eval o = (do let u ← convert src dst (a.eval x); pure (.value u)) by simp only [execOp, he]]
      rw [hx', Sem.run_bind, hrun]
      rfl
    · dsimp only
      rw [ren_slice1]
      simp [renA]
  · have hx' := ev_of hR h2 (by simp [unk])
    rw [ren_string] at hx'
    have hrun := run_range_string (P := P) w t b h1
    obtain ⟨hW, hF⟩ := hR.mem.allocO (o := .iter b 0) (ob := .stringIter b 0) (m := 0) (q := 0) trivial fun env' hag => ⟨heap_alloc_new w _, rfl⟩
    refine ⟨.pointer (some ⟨w.heap.size, 0, none⟩), _, _, ?_, ?_, hW, hF⟩
    · rw [show execOp a.eval o = (do let u ← Instr.range t (a.eval x); pure (.value u)) by simp only [execOp, he]]
      rw [hx', Sem.run_bind, hrun]
      rfl
    · dsimp only
      rw [ren_ptr]
      simp [renA]

/-- the next rune of a string -/
theorem run_nxt {o : Oper} {i : Nat} {s : ByteArray} {pos : Nat} (hR : Rep env S a w) (hx : xop P S o.op = .nxt i s pos) :
    (pos < s.size → ∃ w', (execOp a.eval o).run P w = .ok (.value (.tuple ⟨[.bool true, .int .i64 (pos : Nat), .int .i32 ((Utf8.decode s pos).1 : Nat)]⟩)) w' ∧
      RepW env (S.V.set i (.iter s (pos + (Utf8.decode s pos).2))) w' ∧ Fr env S.V w env (S.V.set i (.iter s (pos + (Utf8.decode s pos).2))) w') ∧
    (¬ pos < s.size → (execOp a.eval o).run P w = .ok (.value (.tuple ⟨[.bool false]⟩)) w) := by
  have hk : ∃ x p, o.op = .next x true ∧ ev S x = .pointer (some p) ∧ p.off = 0 ∧ p.spot = none ∧ p.block = i ∧ S.V[i]? = some (.iter s pos) := by
    have np : ∀ {r : Res}, r.plain = true → r = .nxt i s pos → False := fun hr he => by rw [he] at hr; cases hr
    cases ho : o.op <;> rw [ho] at hx <;> simp only [xop] at hx <;> try (cases hx; done)
    case pick c x y => (repeat' split at hx) <;> cases hx
    case buildSlice t len parts => rcases buildSlice_kind (P := P) (t := t) (len := len) (l := parts.toList.map fun (i, x) => (i, ev S x)) with ⟨_, _, _, e⟩ | e <;> (rw [e] at hx; cases hx)
    case alloc t => (repeat' split at hx) <;> cases hx
    case box t x => (repeat' split at hx) <;> cases hx
    case build t parts => exact (np (plain_build _ _) hx).elim
    case load t x =>
      split at hx
      · exact (np (plain_load _ _ _) hx).elim
      · cases hx
    case store t x y =>
      split at hx
      · rename_i p' _
        rcases xstore_kind (P := P) (V := S.V) (t := t) (p := p') (v := ev S y) with ⟨_, _, _, he', _⟩ | ⟨_, _, _, _, he', _⟩ | he' <;> (rw [he'] at hx; cases hx)
      · cases hx
    case nilCheck x => (repeat' split at hx) <;> cases hx
    case binOp => exact (np (plain_binN _ _ _ _ _) hx).elim
    case unOp op t x => cases op <;> simp only [] at hx <;> (repeat' split at hx) <;> cases hx
    case convert src dst x =>
      (repeat' split at hx) <;> first | (cases hx; done) | exact (np (plain_text _ _ _) hx).elim
    case makeInterface => (repeat' split at hx) <;> cases hx
    case makeFunc => (repeat' split at hx) <;> cases hx
    case fieldAddr => exact (np (plain_fieldAddr _ _ _) hx).elim
    case field => exact (np (plain_field _ _ _) hx).elim
    case indexAddr => exact (np (plain_indexAddr _ _ _ _) hx).elim
    case index => exact (np (plain_index _ _ _) hx).elim
    case slice t x lo hi mx =>
      cases mx with
      | some m => cases hx
      | none => exact (np (plain_slice _ _ _ _ _) hx).elim
    case extract =>
      split at hx
      · exact (np (plain_opt _) hx).elim
      · cases hx
    case range t x => (repeat' split at hx) <;> cases hx
    case makeSlice t x y => rcases xmake_kind (P := P) (t := t) (x := ev S x) (y := ev S y) with ⟨_, _, _, he⟩ | he <;> (rw [he] at hx; cases hx)
    case next x b =>
      split at hx
      · rename_i p hp
        split at hx
        · rename_i s' pos' h1 h2 h3
          cases hx
          exact ⟨x, p, rfl, hp, h1, h2, rfl, h3⟩
        · cases hx
      · cases hx
    case call c =>
      split at hx
      · rename_i b hb
        have hm : ∀ r, xbi P S b c = r → r.plain = true ∨ (∃ p i ob v, r = .grow p i ob v) ∨ ∃ p i ob v, r = .cpy p i ob v := by
          intro r hr
          unfold xbi at hr
          split at hr
          · exact .inl (hr ▸ plain_len _ _)
          · exact .inl (hr ▸ by unfold xcap; (repeat' split) <;> rfl)
          · exact .inl (hr ▸ by unfold xmin; (repeat' split) <;> rfl)
          · exact .inl (hr ▸ by unfold xmax; (repeat' split) <;> rfl)
          · rename_i x y t u _ _
            rcases xappend_kind (P := P) (V := S.V) (t := t) (u := u) (s := ev S x) (x := ev S y) with ⟨p, i, ob, v, he⟩ | ⟨p, i, ob, v, he⟩ | he
            · exact .inr (.inl ⟨p, i, ob, v, hr ▸ he⟩)
            · exact .inr (.inr ⟨p, i, ob, v, hr ▸ he⟩)
            · exact .inl (hr ▸ by rw [he]; rfl)
          · rename_i x y t u _ _
            rcases xcopy_kind (P := P) (V := S.V) (t := t) (u := u) (d := ev S x) (x := ev S y) with ⟨p, i, ob, v, he⟩ | he
            · exact .inr (.inr ⟨p, i, ob, v, hr ▸ he⟩)
            · exact .inl (hr ▸ by rw [he]; rfl)
          · exact .inl (hr ▸ rfl)
        rcases hm _ hx with h | ⟨_, _, _, _, h⟩ | ⟨_, _, _, _, h⟩ <;> cases h
      · split at hx
        · split at hx <;> cases hx
        · cases hx
      · cases hx
  obtain ⟨x, p, ho, hp, hoff, hspot, rfl, hV⟩ := hk
  have hp' := ev_of hR hp (by simp [unk])
  obtain ⟨hheap, hbase⟩ := hR.mem.mat _ _ hV
  have hil := (List.getElem?_eq_some_iff.1 hV).1
  have hra : renA env p = ⟨(env p.block).blk, 0, none⟩ := by simp [renA, hspot, hoff, hbase]
  rw [ren_ptr, hra] at hp'
  have hexec : execOp a.eval o = (do let u ← Instr.next (a.eval x) true o.type; pure (.value u)) := by simp only [execOp, ho]
  have hget : (getObj (env p.block).blk).run P w = .ok (.stringIter s pos) w := by simp [getObj, Sem.run, hheap]
  refine ⟨fun hlt => ?_, fun hge => ?_⟩
  · let w' : World := { w with heap := w.heap.setIfInBounds (env p.block).blk (.stringIter s (pos + (Utf8.decode s pos).2)) }
    have hblt : (env p.block).blk < w.heap.size := hR.mem.blk _ _ hV trivial
    have hother : ∀ b, b ≠ (env p.block).blk → w'.heap[b]? = w.heap[b]? := fun b hb => by
      show (w.heap.setIfInBounds _ _)[b]? = _
      rw [Array.getElem?_setIfInBounds, if_neg (fun h => hb h.symm)]
    have hself : w'.heap[(env p.block).blk]? = some (.stringIter s (pos + (Utf8.decode s pos).2)) := by
      show (w.heap.setIfInBounds _ _)[_]? = _
      simp [hblt]
    have hsz : w'.heap.size = w.heap.size := by show (w.heap.setIfInBounds _ _).size = _; simp
    refine ⟨w', ?_, ?_⟩
    · rw [hexec, hp']
      simp only [Instr.next, Sem.run_bind, hget, Result.andThen_ok, hlt, if_true]
      simp [goInt, setObj, getObj, Sem.run, hheap, w']
    · refine pairRF hR.mem (fun j oj hj => ?_) (fun j oj hj => ?_) (fun j oj hj hBj => ?_) (fun j k oj ok hj hk hjk hw hl hBj hBk => ?_) ⟨fun _ _ => rfl, by simp, rfl, rfl, rfl, Nat.le_of_eq hsz.symm, fun b hb hno => ?_, fun j oj hj hoj => ?_⟩
      · rcases setV_get hj with ⟨rfl, rfl, _⟩ | ⟨hne, hj'⟩
        · exact ⟨hself, hbase⟩
        · cases hlv : oj.live with
          | false => exact (hR.mem.mat j oj hj').still hlv
          | true =>
            exact (hR.mem.mat j oj hj').keep (fun hBj => hother _ (Ne.symm (hR.mem.sep _ j _ oj hV hj' (Ne.symm hne) rfl hlv trivial hBj))) (hR.mem.sc j oj hj') (fun _ _ => rfl)
      · rw [List.length_set]
        rcases setV_get hj with ⟨rfl, rfl, _⟩ | ⟨hne, hj'⟩
        · trivial
        · exact hR.mem.sc j oj hj'
      · rw [hsz]
        rcases setV_get hj with ⟨rfl, rfl, _⟩ | ⟨hne, hj'⟩
        · exact hR.mem.blk _ _ hV trivial
        · exact hR.mem.blk j oj hj' hBj
      · rcases setV_get hj with ⟨rfl, rfl, _⟩ | ⟨hne, hj'⟩
        · rcases setV_get hk with ⟨rfl, rfl, _⟩ | ⟨hne, hk'⟩
          · exact absurd rfl hjk
          · exact hR.mem.sep _ _ _ ok hV hk' hjk rfl hl trivial hBk
        · rcases setV_get hk with ⟨rfl, rfl, _⟩ | ⟨hne, hk'⟩
          · exact hR.mem.sep _ _ oj _ hj' hV hjk hw rfl hBj trivial
          · exact hR.mem.sep _ _ oj ok hj' hk' hjk hw hl hBj hBk
      · exact hother b (fun e => hno _ _ hV ⟨rfl, trivial⟩ e.symm)
      · rcases setV_get hj with ⟨rfl, rfl, _⟩ | ⟨hne, hj'⟩
        · exact .inl ⟨_, _, hV, ⟨rfl, trivial⟩, rfl⟩
        · exact .inl ⟨j, oj, hj', hoj, rfl⟩
  · rw [hexec, hp']
    simp only [Instr.next, Sem.run_bind, hget, Result.andThen_ok, hge, if_false]
    rfl

theorem run_callM {o : Oper} {f : FuncId} {args : List Value} (hR : Rep env S a w) (h : xmapOp P S o.op = .call f args) (hc : Callable P f) :
    (execOp a.eval o).run P w = .ok (.enter f (args.map (ren env)).toArray) w ∧ ∀ x ∈ args, Sc S.V.length x := by
  obtain ⟨c, x, name, t, v, ho, hcal, hx, hm, hv, ha, rfl⟩ := mapOp_call h
  have hx' := ev_of hR hx (by simp [unk])
  rw [ren_iface] at hx'
  have hev : ∀ x : Operand, Sc S.V.length (ev S x) := by
    intro x
    cases x with
    | tmp t =>
      simp only [ev, nth_eq]
      by_cases ht : t < S.tmps.length
      · exact hR.sc _ (by simp [List.getD, ht])
      · simp only [List.getD, List.getElem?_eq_none (Nat.le_of_not_lt ht), Option.getD_none]; exact .undef
    | const v =>
      simp only [ev, cst]
      split
      · exact .plain ‹_›
      · exact .unk
    | global g => exact .unk
    | func f => exact .func (l := []) (l' := []) (by simp) (by simp)
  have hm' := evs_known hR _ ha
  obtain ⟨fn, hf, hb, hn⟩ := hc
  have hb' : fn.body.isNone = false := by cases hbb : fn.body <;> simp_all
  have hargs' : c.args.map a.eval = ((c.args.toList.map (ev S)).map (ren env)).toArray := by apply Array.ext'; simpa using hm'
  refine ⟨?_, fun y hy => ?_⟩
  · obtain ⟨n, hn'⟩ : ∃ n, P.types.size + Made.depth = n + 1 := ⟨P.types.size + (Made.depth - 1), by simp [Made.depth]⟩
    have hmr := xmeth_run hm (ren env v) n w
    have hcall : ∀ xs, (callFunc f xs).run P w = .ok (.enter f xs) w := fun xs => by
      simp only [callFunc, Sem.run_bind, run_program, Result.andThen_ok, hf, hn, hb', Bool.false_eq_true, if_false, Sem.run_pure]
    have h0 : (#[Value.iface t (ren env v)] ++ c.args.map a.eval)[0]? = some (Value.iface t (ren env v)) := by rw [Array.getElem?_append_left (by simp)]; rfl
    have h1 : (#[Value.iface t (ren env v)] ++ c.args.map a.eval).extract 1 (#[Value.iface t (ren env v)] ++ c.args.map a.eval).size = c.args.map a.eval := by
      apply Array.ext'
      simp
      exact List.take_of_length_le (by simp)
    simp only [execOp, ho, resolve, hcal, hx', pure_bind, invoke]
    rw [h0]
    simp only [h1, callMethod, Sem.run_bind, run_program, Result.andThen_ok, hn', hmr, hcall]
    congr 2
    rw [hargs', List.map_cons]
    apply Array.ext'
    simp
  · rcases List.mem_cons.1 hy with rfl | hy
    · have := hev x
      rw [hx] at this
      intro e e' he
      have := this e e' he
      rw [ren_iface, ren_iface] at this
      exact (Value.iface.inj this).2
    · obtain ⟨z, _, rfl⟩ := List.mem_map.1 hy
      exact hev z

theorem run_morval {o : Oper} {p : Prop} {v : Value} (hR : Rep env S a w) (hx : xmapOp P S o.op = .val p v) (hp : p) : (execOp a.eval o).run P w = .ok (.value (ren env v)) w := by
  obtain ⟨dst, op, ty, pos, after, guard⟩ := o
  dsimp only at hx
  cases op <;> simp only [xmapOp] at hx <;> try (cases hx; done)
  case makeMap t q => (repeat' split at hx) <;> cases hx
  case buildSlice t len parts => unfold xempty at hx; (repeat' split at hx) <;> cases hx
  case lookup t x q ok =>
    obtain ⟨h1, h2, h3⟩ := lookup_ok hR.mem hx
    simp [execOp, ev_of hR (x := x) rfl h1, ev_of hR (x := q) rfl h2, h3]
  case mapUpdate t x q v => unfold xmapUpdate xmapUpdate0 at hx; (repeat' split at hx) <;> cases hx
  case insert t x q v => unfold xmapUpdate xmapUpdate0 at hx; (repeat' split at hx) <;> cases hx
  case mapEntry t x q => unfold xmapEntry at hx; (repeat' split at hx) <;> cases hx
  case entryStore t x q v => unfold xentryStore at hx; (repeat' split at hx) <;> cases hx
  case typeAssert x xt t ok =>
    obtain ⟨h1, h2⟩ := assert_ok (xt := xt) hx env w
    simp [execOp, ev_of hR (x := x) rfl h1, h2]
  case slice t x lo hi mx =>
    obtain ⟨h1, h2⟩ := slice3_ok hx env w a.eval (fun v => rfl)
    simp [execOp, ev_of hR (x := x) rfl h1, h2]
  case call c =>
    split at hx
    · rename_i hcal
      split at hx
      · rename_i x t ts hargs htys
        obtain ⟨h1, h2⟩ := mlen_ok hR.mem hx ts ty
        have h1' := ev_of hR (x := x) rfl h1
        have hargs' : c.args.map a.eval = #[ren env (ev S x)] := by apply Array.ext'; simp [hargs, h1']
        have hts : c.argTypes = ⟨t :: ts⟩ := by apply Array.ext'; simp [htys]
        simp [execOp, resolve, hcal, invoke, builtin, hargs', hts, h2]
      · cases hx
    · rename_i hcal
      split at hx
      · rename_i x y t u hargs htys
        obtain ⟨h1, h2, h3⟩ := append1_val (ty := ty) hx env w
        have h1' := ev_of hR (x := x) rfl h1
        have h2' := ev_of hR (x := y) rfl h2
        have hargs' : c.args.map a.eval = #[ren env (ev S x), ren env (ev S y)] := by apply Array.ext'; simp [hargs, h1', h2']
        have hts : c.argTypes = #[t, u] := by apply Array.ext'; simp [htys]
        simp [execOp, resolve, hcal, invoke, builtin, hargs', hts, h3]
      · cases hx
    · (repeat' split at hx) <;> cases hx
    · cases hx

/-- the operations that are none of these -/
theorem xmor_ok (hC : CtxOK P C) {o : Oper} {k : VSt → Prop} {K : Act → World → Prop} {Q : Exit → Act → World → Prop} (hR : Rep env S a w) (h : xmor P C S o k)
    (next : ∀ env' S' a' w', Fr env S.V w env' S'.V w' → Rep env' S' a' w' → k S' → K a' w') : o.wp P a w K Q := by
  unfold xmor at h
  split at h
  · rename_i p v hx
    obtain ⟨hp, h⟩ := h
    have hrun := run_morval hR hx hp
    obtain ⟨S', hV, hR'', hk⟩ := putK_ok (dst := o.dst) (u := ren env v) hR (.inr rfl) h
    unfold Oper.wp
    rw [hrun, Oper.upon_value]
    exact next env S' _ w (hV ▸ Fr.refl _ _ _) hR'' hk
  · rename_i hx
    rw [appK_eq] at h
    obtain ⟨hW, hF⟩ := hR.mem.allocO (o := .mp [] 0) (ob := .map #[] 0) (m := 0) (q := 0) (fun e he => by simp at he) fun env' hag => ⟨heap_alloc_new w _, rfl⟩
    have hrun : (execOp a.eval o).run P w = .ok (.value (.map (some w.heap.size))) (w.alloc (.map #[] 0)) := by
      obtain ⟨dst, op, ty, pos, after, guard⟩ := o
      dsimp only at hx
      cases op <;> simp only [xmapOp] at hx <;> try (cases hx; done)
      case makeMap t r =>
        cases r with
        | none => simp [execOp, Instr.makeMap]
        | some x =>
          simp only [] at hx
          split at hx
          · rename_i kt et q n hu hxx
            have := ev_of hR hxx (by simp [unk])
            rw [ren_int] at this
            simp [execOp, Instr.makeMap, this, run_underlying hu, asInt, asIntOf]
          · cases hx
      case buildSlice t len parts => unfold xempty at hx; (repeat' split at hx) <;> cases hx
      case lookup t x k ok => unfold xlookup xlookup0 at hx; (repeat' split at hx) <;> cases hx
      case mapUpdate t x k v => unfold xmapUpdate xmapUpdate0 at hx; (repeat' split at hx) <;> cases hx
      case insert t x k v => unfold xmapUpdate xmapUpdate0 at hx; (repeat' split at hx) <;> cases hx
      case mapEntry t x k => unfold xmapEntry at hx; (repeat' split at hx) <;> cases hx
      case entryStore t x s v => unfold xentryStore at hx; (repeat' split at hx) <;> cases hx
      case typeAssert x xt t ok => unfold xassert at hx; (repeat' split at hx) <;> cases hx
      case slice t x lo hi mx =>
        unfold xslice3 at hx; (repeat' split at hx) <;> cases hx
      case call c =>
        (repeat' split at hx) <;> first | (cases hx; done) | (unfold xmlen at hx; (repeat' split at hx) <;> cases hx) | (unfold xappend1 at hx; (repeat' split at hx) <;> cases hx)
    have hR' := hR.later hW hF
    obtain ⟨S', hV, hR'', hk⟩ := putK_ok (dst := o.dst) (u := .map (some w.heap.size)) hR' (.inr (by simp [ren_map])) h
    unfold Oper.wp
    rw [hrun, Oper.upon_value]
    exact next _ S' _ _ (hV ▸ hF) hR'' hk
  · rename_i r es c ov hx
    have hh := normE_spec (normV_spec C.cl S.V.length 6) _ _ h
    clear h
    obtain ⟨hsc, h⟩ := hh
    rw [fN_eq, setK_eq] at h
    have fin : ∀ {es0 c0}, S.V[r]? = some (.mp es0 c0) → ∀ nx : Next, (execOp a.eval o).run P w = .ok nx { w with heap := w.heap.setIfInBounds (env r).blk (.map (es.map (renE env)).toArray c) } →
        ((nx = .skip ∧ ov = none) ∨ ∃ v, nx = .value (ren env v) ∧ ov = some v) → o.wp P a w K Q := by
      intro es0 c0 hv nx hrun hnx
      obtain ⟨hW, hF⟩ := hR.mem.setMap (c' := c) hv hsc
      have hR' := hR.later hW hF
      rcases hnx with ⟨rfl, rfl⟩ | ⟨v, rfl, rfl⟩
      · unfold nodst at h
        dsimp only at h
        split at h
        · rename_i hd
          unfold Oper.wp
          rw [hrun, Oper.upon_skip, hd]
          exact next env _ a _ hF hR' h
        · exact h.elim
      · obtain ⟨S', hV, hR'', hk⟩ := putK_ok (dst := o.dst) (u := ren env v) hR' (.inr rfl) h
        unfold Oper.wp
        rw [hrun, Oper.upon_value]
        exact next _ S' _ _ (hV ▸ hF) hR'' hk
    obtain ⟨dst, op, ty, pos, after, guard⟩ := o
    dsimp only at hx
    cases op <;> simp only [xmapOp] at hx <;> try (cases hx; done)
    case makeMap t q => (repeat' split at hx) <;> cases hx
    case buildSlice t len parts => unfold xempty at hx; (repeat' split at hx) <;> cases hx
    case lookup t x k ok => unfold xlookup xlookup0 at hx; (repeat' split at hx) <;> cases hx
    case mapUpdate t x q v =>
      obtain ⟨h0, h1, h2, h3, ⟨es0, c0, hv⟩, hrun⟩ := update_ok hR.mem hx
      exact fin hv .skip (by simp [execOp, ev_of hR (x := x) rfl h1, ev_of hR (x := q) rfl h2, ev_of hR (x := v) rfl h3, hrun]) (.inl ⟨rfl, h0⟩)
    case insert t x q v =>
      obtain ⟨h0, h1, h2, h3, ⟨es0, c0, hv⟩, hrun⟩ := update_ok hR.mem hx
      exact fin hv .skip (by simp [execOp, ev_of hR (x := x) rfl h1, ev_of hR (x := q) rfl h2, ev_of hR (x := v) rfl h3, hrun]) (.inl ⟨rfl, h0⟩)
    case mapEntry t x q =>
      obtain ⟨v, h0, h1, h2, ⟨es0, c0, hv⟩, hrun⟩ := entry_ok hR.mem hx
      exact fin hv (.value (ren env v)) (by simp [execOp, ev_of hR (x := x) rfl h1, ev_of hR (x := q) rfl h2, hrun]) (.inr ⟨v, rfl, h0⟩)
    case entryStore t x q v =>
      obtain ⟨h0, h1, h2, h3, ⟨es0, c0, hv⟩, hrun⟩ := entryStore_ok (P := P) (t := t) hR.mem hx
      exact fin hv .skip (by simp [execOp, ev_of hR (x := x) rfl h1, ev_of hR (x := q) rfl h2, ev_of hR (x := v) rfl h3, hrun]) (.inl ⟨rfl, h0⟩)
    case typeAssert x xt t ok => unfold xassert at hx; (repeat' split at hx) <;> cases hx
    case slice t x lo hi mx =>
      unfold xslice3 at hx; (repeat' split at hx) <;> cases hx
    case call c =>
      (repeat' split at hx) <;> first | (cases hx; done) | (unfold xmlen at hx; (repeat' split at hx) <;> cases hx) | (unfold xappend1 at hx; (repeat' split at hx) <;> cases hx)
  · rename_i r g hx
    rw [setK_eq] at h
    have fin : ∀ w', (execOp a.eval o).run P w = .ok .skip w' → RepW env (S.V.set r (.mq g)) w' → Fr env S.V w env (S.V.set r (.mq g)) w' → o.wp P a w K Q := by
      intro w' hrun hW hF
      have hR' := hR.later hW hF
      unfold nodst at h
      split at h
      · rename_i hd
        unfold Oper.wp
        rw [hrun, Oper.upon_skip, hd]
        exact next env _ a _ hF hR' h
      · exact h.elim
    obtain ⟨dst, op, ty, pos, after, guard⟩ := o
    dsimp only at hx
    cases op <;> simp only [xmapOp] at hx <;> try (cases hx; done)
    case makeMap t q => (repeat' split at hx) <;> cases hx
    case buildSlice t len parts => unfold xempty at hx; (repeat' split at hx) <;> cases hx
    case lookup t x k ok => unfold xlookup xlookup0 at hx; (repeat' split at hx) <;> cases hx
    case mapUpdate t x q v =>
      obtain ⟨h1, h2, h3, w', hrun, hW, hF⟩ := qset_ok hR.mem hx
      exact fin w' (by simp [execOp, ev_of hR (x := x) rfl h1, ev_of hR (x := q) rfl h2, ev_of hR (x := v) rfl h3, hrun]) hW hF
    case insert t x q v =>
      obtain ⟨h1, h2, h3, w', hrun, hW, hF⟩ := qset_ok hR.mem hx
      exact fin w' (by simp [execOp, ev_of hR (x := x) rfl h1, ev_of hR (x := q) rfl h2, ev_of hR (x := v) rfl h3, hrun]) hW hF
    case mapEntry t x q => unfold xmapEntry at hx; (repeat' split at hx) <;> cases hx
    case entryStore t x q v => unfold xentryStore at hx; (repeat' split at hx) <;> cases hx
    case typeAssert x xt t ok => unfold xassert at hx; (repeat' split at hx) <;> cases hx
    case slice t x lo hi mx =>
      unfold xslice3 at hx; (repeat' split at hx) <;> cases hx
    case call c =>
      (repeat' split at hx) <;> first | (cases hx; done) | (unfold xmlen at hx; (repeat' split at hx) <;> cases hx) | (unfold xappend1 at hx; (repeat' split at hx) <;> cases hx)
  · rename_i p ob v hx
    obtain ⟨hp, h⟩ := h
    rw [appK_eq] at h
    have hrun : ∃ u' w' env', (execOp a.eval o).run P w = .ok (.value u') w' ∧ u' = ren env' (v S.V.length) ∧ RepW env' (S.V ++ [ob]) w' ∧ Fr env S.V w env' (S.V ++ [ob]) w' := by
      obtain ⟨dst, op, ty, pos, after, guard⟩ := o
      dsimp only at hx
      cases op <;> simp only [xmapOp] at hx <;> try (cases hx; done)
      case makeMap t q => (repeat' split at hx) <;> cases hx
      case buildSlice t len parts =>
        unfold xempty at hx
        split at hx
        · rename_i hpt
          split at hx
          · rename_i e hu
            split at hx
            · rename_i ie hie
              cases hx
              obtain ⟨hW, hF⟩ := hR.mem.allocO (o := .rows true e ie.size 0 0 fun _ => []) (ob := .cells #[] e) (m := ie.size) (q := 0) (fun r hr => by omega) fun env' hag => ⟨rfl, fun r hr => by omega, fun _ => ⟨rfl, #[], heap_alloc_new w _, by simp, Nat.le_refl _, fun h => absurd rfl h⟩⟩
              refine ⟨.slice (some ⟨w.heap.size, 0, none⟩) 0 0, _, _, ?_, ?_, hW, hF⟩
              · have hp0 : parts = #[] := by apply Array.ext'; simpa using hpt
                subst hp0
                simp [execOp, Instr.buildSlice, run_underlying hu, sizeOf, typeInfo, hie, Instr.fill, newRow, show Array.range 0 = #[] from rfl]
              · rw [ren_slice6 _ _ _ rfl]; simp [renA]
            · cases hx
          · cases hx
        · cases hx
      case lookup t x k ok => unfold xlookup xlookup0 at hx; (repeat' split at hx) <;> cases hx
      case mapUpdate t x k v => unfold xmapUpdate xmapUpdate0 at hx; (repeat' split at hx) <;> cases hx
      case insert t x k v => unfold xmapUpdate xmapUpdate0 at hx; (repeat' split at hx) <;> cases hx
      case mapEntry t x k => unfold xmapEntry at hx; (repeat' split at hx) <;> cases hx
      case entryStore t x s v => unfold xentryStore at hx; (repeat' split at hx) <;> cases hx
      case typeAssert x xt t ok => unfold xassert at hx; (repeat' split at hx) <;> cases hx
      case slice t x lo hi mx =>
        unfold xslice3 at hx; (repeat' split at hx) <;> cases hx
      case call c =>
        split at hx
        · (repeat' split at hx) <;> first | (cases hx; done) | (unfold xmlen at hx; (repeat' split at hx) <;> cases hx)
        · rename_i hcal
          split at hx
          · rename_i x y t u hargs htys
            obtain ⟨h1, h2, u', w', env', h3, h4, hW, hF⟩ := append1_new (ty := ty) hR.mem hx hp
            have h1' := ev_of hR (x := x) rfl h1
            have h2' := ev_of hR (x := y) rfl h2
            have hargs' : c.args.map a.eval = #[ren env (ev S x), ren env (ev S y)] := by apply Array.ext'; simp [hargs, h1', h2']
            have hts : c.argTypes = #[t, u] := by apply Array.ext'; simp [htys]
            exact ⟨u', w', env', by simp [execOp, resolve, hcal, invoke, builtin, hargs', hts, h3], h4, hW, hF⟩
          · cases hx
        · (repeat' split at hx) <;> cases hx
        · cases hx
    obtain ⟨u', w', env', hrun, hu, hW, hF⟩ := hrun
    have hR' := hR.later hW hF
    obtain ⟨S', hV, hR'', hk⟩ := putK_ok (dst := o.dst) hR' (.inr hu) h
    unfold Oper.wp
    rw [hrun, Oper.upon_value]
    exact next _ S' _ _ (hV ▸ hF) hR'' hk
  · rename_i f args hx
    split at h
    · rename_i g hg
      have hfn := hC.fn f g hg
      have go : ∀ os v, GivesN (g args S.V) os v → putK C.cl ⟨S.tmps, S.V ++ os⟩ o.dst v k → o.wp P a w K Q := by
        intro os v hgv hp
        unfold Oper.wp
        rw [(run_callM hR hx hfn.callable).1, Oper.upon_enter]
        refine (hfn.gives env w S.V args os v hR.mem (run_callM hR hx hfn.callable).2 hgv).mono ?_
        rintro e w' ⟨u, env', rfl, hrv, hW, hF⟩
        have hR' := hR.later hW hF
        obtain ⟨S', hV, hR'', hk⟩ := putK_ok (dst := o.dst) hR' hrv hp
        exact next env' S' _ w' (hV ▸ hF) hR'' hk
      split at h
      · rename_i v hv; exact go [] v (.inl ⟨rfl, .inl hv⟩) (by simpa using h)
      · rename_i p v hv; exact go [] v (.inl ⟨rfl, .inr ⟨p, hv, h.1⟩⟩) (by simpa using h.2)
      · rename_i p os v hv
        obtain ⟨hp, h⟩ := h
        rw [appsK_eq] at h
        exact go os v (.inr ⟨p, hv, hp⟩) h
      · exact h.elim
    · split at h
      · rename_i T hT
        have hcall := hC.call f T hT
        unfold Oper.wp
        rw [(run_callM hR hx hcall.callable).1, Oper.upon_enter]
        refine (hcall.gives args S.V _ h env w hR.mem (run_callM hR hx hcall.callable).2).mono ?_
        rintro e w' ⟨u, env', V', v, rfl, hrv, hW, hF, hp⟩
        have hR' := hR.later hW hF
        obtain ⟨S', hV, hR'', hk⟩ := putK_ok (dst := o.dst) hR' hrv hp
        exact next env' S' _ w' (hV ▸ hF) hR'' hk
      · exact h.elim
  · exact h.elim

/-- ONE OPERATION -/
theorem xone_ok (hC : CtxOK P C) {o : Oper} {k : VSt → Prop} {K : Act → World → Prop} {Q : Exit → Act → World → Prop} (hR : Rep env S a w) (h : xone P C S o k)
    (next : ∀ env' S' a' w', Fr env S.V w env' S'.V w' → Rep env' S' a' w' → k S' → K a' w') : o.wp P a w K Q := by
  unfold xone at h
  have hval : ∀ v, Gives (xop P S o.op) v → putK C.cl S o.dst v k → o.wp P a w K Q := by
    intro v hg hp
    obtain ⟨u, hrun, hrv⟩ := run_val hR hg
    obtain ⟨S', hV, hR', hk⟩ := putK_ok hR hrv hp
    unfold Oper.wp
    rw [hrun, Oper.upon_value]
    exact next env S' _ w (hV ▸ Fr.refl _ _ _) hR' hk
  split at h
  · rename_i v hx; exact hval v (.inl hx) h
  · rename_i p v hx
    have h := andC_ok (fun hb => (by have := seen_ok hb; rw [hx] at this; exact this)) h
    exact hval v (.inr ⟨p, hx, h.1⟩) h.2
  · rename_i i t c hx
    unfold nodst at h
    split at h
    · rename_i hd
      obtain ⟨hsc, h⟩ := normL_spec (normV_spec C.cl S.V.length 6) _ _ h
      rw [setK_eq] at h
      have hk := xop_kind (P := P) (S := S) (o := o.op) (by rw [hx]; rfl)
      rcases hk with ⟨_, _, _, _, hbs⟩ | ⟨t, he⟩ | ⟨t, x, he⟩ | ⟨t', x, v, p, he, hp, hxs⟩ | ⟨cc, he⟩
      · exfalso; rcases alr_or_bad hbs with ⟨_, _, _, e⟩ | e <;> (rw [e] at hx; cases hx)
      · rw [he] at hx; simp only [xop] at hx; (repeat' split at hx) <;> cases hx
      · rw [he] at hx; simp only [xop] at hx; (repeat' split at hx) <;> cases hx
      · rw [hxs] at hx
        obtain ⟨w', hrun, hW, hF⟩ := store_cells_ok hR.mem hx hsc
        have hp' := ev_of hR hp (by simp [unk])
        rw [ren_ptr] at hp'
        have hv' : a.eval v = ren env (ev S v) := by
          rcases xstore_kind (P := P) (V := S.V) (t := t') (p := p) (v := ev S v) with ⟨_, _, _, _, hc⟩ | ⟨_, _, _, _, he', _⟩ | he'
          · exact ev_known hR hc
          · rw [he'] at hx; cases hx
          · rw [he'] at hx; cases hx
        unfold Oper.wp
        have : (execOp a.eval o).run P w = .ok .skip w' := by
          rw [show execOp a.eval o = (do Instr.storeAt t' (a.eval x) (a.eval v); pure .skip) by simp only [execOp, he]]
          simp [hp', hv', Instr.storeAt, Instr.sureAddr, hrun]
        rw [this, Oper.upon_skip, hd]
        exact next env _ a w' hF (hR.later hW hF) h
      · rw [he] at hx
        simp only [xop] at hx
        (repeat' split at hx) <;> first | (cases hx; done) | (have hpl := congrArg Res.mostly hx; rw [bi_mostly] at hpl; cases hpl)
    · exact h.elim
  · rename_i q i r c hx
    obtain ⟨hq, h⟩ := andC_ok (fun hb => (by have := seen_ok hb; rw [hx] at this; exact this)) h
    unfold nodst at h
    split at h
    · rename_i hd
      obtain ⟨hsc, h⟩ := normL_spec (normV_spec C.cl 0 6) _ _ h
      split at h
      · rename_i own t m n cap f hV hcell
        replace hsc : ∀ x ∈ c, Sc 0 x ∧ cellC x = true := fun x hx => ⟨hsc x hx, List.all_eq_true.1 hcell x hx⟩
        rw [setK_eq] at h
        have hk := xop_kind (P := P) (S := S) (o := o.op) (by rw [hx]; rfl)
        rcases hk with ⟨_, _, _, _, hbs⟩ | ⟨t, he⟩ | ⟨t, x, he⟩ | ⟨t', x, v, p, he, hp, hxs⟩ | ⟨cc, he⟩
        · exfalso; rcases alr_or_bad hbs with ⟨_, _, _, e⟩ | e <;> (rw [e] at hx; cases hx)
        · rw [he] at hx; simp only [xop] at hx; (repeat' split at hx) <;> cases hx
        · rw [he] at hx; simp only [xop] at hx; (repeat' split at hx) <;> cases hx
        · rw [hxs] at hx
          obtain ⟨w', hrun, hW, hF⟩ := store_rows_ok hR.mem hx hq hsc hV
          have hp' := ev_of hR hp (by simp [unk])
          rw [ren_ptr] at hp'
          have hv' : a.eval v = ren env (ev S v) := by
            rcases xstore_kind (P := P) (V := S.V) (t := t') (p := p) (v := ev S v) with ⟨_, _, _, he', _⟩ | ⟨_, _, _, _, _, hc⟩ | he'
            · rw [he'] at hx; cases hx
            · exact ev_known hR hc
            · rw [he'] at hx; cases hx
          unfold Oper.wp
          have : (execOp a.eval o).run P w = .ok .skip w' := by
            rw [show execOp a.eval o = (do Instr.storeAt t' (a.eval x) (a.eval v); pure .skip) by simp only [execOp, he]]
            simp [hp', hv', Instr.storeAt, Instr.sureAddr, hrun]
          rw [this, Oper.upon_skip, hd]
          exact next env _ a w' hF (hR.later hW hF) h
        · rw [he] at hx
          simp only [xop] at hx
          (repeat' split at hx) <;> first | (cases hx; done) | (have hpl := congrArg Res.mostly hx; rw [bi_mostly] at hpl; cases hpl)
      · exact h.elim
    · exact h.elim
  · rename_i t c hx
    obtain ⟨hsc, h⟩ := normL_spec (normV_spec C.cl S.V.length 6) _ _ h
    rw [appK_eq] at h
    obtain ⟨hW, hF⟩ := hR.mem.alloc (t := t) hsc
    have hR' := hR.later hW hF
    obtain ⟨S', hV, hR'', hk⟩ := putK_ok (dst := o.dst) (u := .pointer (some ⟨w.heap.size, 0, none⟩)) hR' (.inr (by simp [ren_ptr, renA])) h
    have hrun := run_alc hR hx
    unfold Oper.wp
    rw [hrun, Oper.upon_value]
    exact next _ S' _ _ (hV ▸ hF) hR'' hk
  · rename_i t m rows hx
    obtain ⟨hsc, h⟩ := normRows_spec (normV_spec C.cl 0 6) _ _ h
    split at h
    case' h_2 => exact h.elim
    rename_i hcell
    replace hsc : ∀ x ∈ rows, ∀ v ∈ x, Sc 0 v ∧ cellC v = true := fun x hx v hv => ⟨hsc x hx v hv, List.all_eq_true.1 (List.all_eq_true.1 hcell x hx) v hv⟩
    rw [appK_eq] at h
    obtain ⟨hrun, hlen⟩ := run_alr hR hx
    obtain ⟨hW, hF⟩ := hR.mem.allocRows (t := t) hsc hlen
    have hR' := hR.later hW hF
    obtain ⟨S', hV, hR'', hk⟩ := putK_ok (dst := o.dst) (u := .slice (some ⟨w.heap.size, 0, none⟩) rows.length rows.length) hR' (.inr (by simp [ren_slice0, renA])) h
    unfold Oper.wp
    rw [hrun, Oper.upon_value]
    exact next _ S' _ _ (hV ▸ hF) hR'' hk
  · exact h.elim
  · rename_i p i ob v hx
    obtain ⟨hp, h⟩ := andC_ok (fun hb => (by have := seen_ok hb; rw [hx] at this; exact this)) h
    rw [killK_eq, appK_eq] at h
    obtain ⟨u', w', env', hrun, hu, hW, hF⟩ := run_grow hR hx hp
    have hR' := hR.later hW hF
    obtain ⟨S', hV, hR'', hk⟩ := putK_ok (dst := o.dst) hR' (.inr hu) h
    unfold Oper.wp
    rw [hrun, Oper.upon_value]
    exact next _ S' _ _ (hV ▸ hF) hR'' hk
  · rename_i p i ob v hx
    obtain ⟨hp, h⟩ := h
    rw [setK_eq] at h
    obtain ⟨w', hrun, hW, hF⟩ := run_cpy hR hx hp
    have hR' := hR.later hW hF
    obtain ⟨S', hV, hR'', hk⟩ := putK_ok (dst := o.dst) (u := ren env v) hR' (.inr rfl) h
    unfold Oper.wp
    rw [hrun, Oper.upon_value]
    exact next _ S' _ _ (hV ▸ hF) hR'' hk
  · rename_i i s pos hx
    obtain ⟨h1, h2⟩ := run_nxt hR hx
    rcases bsplit_spec h with ⟨hb, h⟩ | ⟨hb, h⟩
    · obtain ⟨w', hrun, hW, hF⟩ := h1 (by simpa using hb)
      rw [setK_eq] at h
      have hR' := hR.later hW hF
      obtain ⟨S', hV, hR'', hk⟩ := putK_ok (dst := o.dst) (u := .tuple ⟨[.bool true, .int .i64 (pos : Nat), .int .i32 ((Utf8.decode s pos).1 : Nat)]⟩) hR' (.inr (by simp [ren_tuple])) h
      unfold Oper.wp
      rw [hrun, Oper.upon_value]
      exact next _ S' _ _ (hV ▸ hF) hR'' hk
    · have hrun := h2 (by simpa using hb)
      obtain ⟨S', hV, hR'', hk⟩ := putK_ok (dst := o.dst) (u := .tuple ⟨[.bool false]⟩) hR (.inr (by simp [ren_tuple])) h
      unfold Oper.wp
      rw [hrun, Oper.upon_value]
      exact next _ S' _ _ (hV ▸ Fr.refl _ _ _) hR'' hk
  · rename_i f args hx
    split at h
    · rename_i g hg
      have hfn := hC.fn f g hg
      have go : ∀ os v, GivesN (g args S.V) os v → putK C.cl ⟨S.tmps, S.V ++ os⟩ o.dst v k → o.wp P a w K Q := by
        intro os v hgv hp
        unfold Oper.wp
        rw [run_call hR hx hfn.callable, Oper.upon_enter]
        refine (hfn.gives env w S.V args os v hR.mem (arg_sc hR hx) hgv).mono ?_
        rintro e w' ⟨u, env', rfl, hrv, hW, hF⟩
        have hR' := hR.later hW hF
        obtain ⟨S', hV, hR'', hk⟩ := putK_ok (dst := o.dst) hR' hrv hp
        exact next env' S' _ w' (hV ▸ hF) hR'' hk
      split at h
      · rename_i v hv; exact go [] v (.inl ⟨rfl, .inl hv⟩) (by simpa using h)
      · rename_i p v hv; exact go [] v (.inl ⟨rfl, .inr ⟨p, hv, h.1⟩⟩) (by simpa using h.2)
      · rename_i p os v hv
        obtain ⟨hp, h⟩ := h
        rw [appsK_eq] at h
        exact go os v (.inr ⟨p, hv, hp⟩) h
      · exact h.elim
    · split at h
      · rename_i T hT
        have hcall := hC.call f T hT
        unfold Oper.wp
        rw [run_call hR hx hcall.callable, Oper.upon_enter]
        refine (hcall.gives args S.V _ h env w hR.mem (arg_sc hR hx)).mono ?_
        rintro e w' ⟨u, env', V', v, rfl, hrv, hW, hF, hp⟩
        have hR' := hR.later hW hF
        obtain ⟨S', hV, hR'', hk⟩ := putK_ok (dst := o.dst) hR' hrv hp
        exact next env' S' _ w' (hV ▸ hF) hR'' hk
      · split at h
        · rename_i g hg
          have hext := hC.ext f g hg
          have go : ∀ v, Gives (g args) v → putK C.cl S o.dst v k → o.wp P a w K Q := by
            intro v hgv hp
            unfold Oper.wp
            rw [run_call0 hR hx, hext args v hgv env w, Oper.upon_value]
            obtain ⟨S', hV, hR', hk⟩ := putK_ok (dst := o.dst) (u := ren env v) hR (.inr rfl) hp
            exact next env S' _ w (hV ▸ Fr.refl _ _ _) hR' hk
          split at h
          · rename_i v hv; exact go v (.inl hv) h
          · rename_i p v hv; exact go v (.inr ⟨p, hv, h.1⟩) h.2
          · exact h.elim
        · exact h.elim
  · rename_i hx
    unfold xopn at h
    split at h
    · rename_i p os v hxn
      obtain ⟨hp, h⟩ := h
      rw [appsK_eq] at h
      split at hxn
      · rename_i t x ho
        split at hxn
        · rename_i q hq
          unfold xloadX at hxn
          split at hxn
          · rename_i t' m n f hv
            split at hxn
            · rename_i r hs
              obtain ⟨u, env', h1, h2, hW, hF⟩ := xtab_run hR.mem hv hs hxn hp
              have hq' := ev_of hR hq (by simp [unk])
              rw [ren_ptr] at hq'
              have hR' := hR.later hW hF
              obtain ⟨S', hV, hR'', hk⟩ := putK_ok (dst := o.dst) hR' h2 h
              have hrun : (execOp a.eval o).run P w = .ok (.value u) w := by
                rw [show execOp a.eval o = (do let v ← Instr.loadAt t (a.eval x); pure (.value v)) by simp only [execOp, ho]]
                simp [hq', Instr.loadAt, Instr.sureAddr, h1]
              unfold Oper.wp
              rw [hrun, Oper.upon_value]
              exact next _ S' _ _ (hV ▸ hF) hR'' hk
            · cases hxn
          · have hpl := plain_load (P := P) S.V t q
            rw [hxn] at hpl
            cases hpl
        · cases hxn
      · split at hxn
        · split at hxn <;> cases hxn
        · cases hxn
      · cases hxn
    · rename_i p i ob v hxn
      obtain ⟨hp, h⟩ := h
      rw [setK_eq] at h
      split at hxn
      · split at hxn
        · exfalso
          unfold xloadX at hxn
          split at hxn
          · split at hxn
            · unfold xtab at hxn
              (repeat' split at hxn) <;> cases hxn
            · cases hxn
          · have hpl := congrArg Res.plain hxn
            rw [plain_load] at hpl
            cases hpl
        · cases hxn
      · rename_i src dst x ho
        split at hxn
        · rename_i e' e q l c hs hd hq
          split at hxn
          · rename_i t m n cap f hsd he hoff hv
            cases hxn
            have hsd : src = dst := Nat.eq_of_beq_eq_true hsd
            have hoff : q.off < 2 := Nat.blt_eq ▸ hoff
            have hq' := ev_of hR hq (by simp [unk])
            obtain ⟨hm, hrows, hown⟩ := hR.mem.mat _ _ hv
            obtain ⟨hb, cs, hh, hcs, hnc, hcap⟩ := hown rfl
            have hblt : (env q.block).blk < w.heap.size := (Array.getElem?_eq_some_iff.1 hh).1
            let w' : World := w.freeze ⟨(env q.block).blk, cs.size, none⟩ 1
            have hw' : w'.heap[(env q.block).blk]? = some (.cells cs t (cs.size, cs.size + 1)) := by
              show (w.freeze _ 1).heap[_]? = _
              unfold World.freeze
              rw [if_neg (by decide)]
              simp only [Array.getElem?_modify, if_true, hh, Option.map_some]
              simp
            have hother : ∀ k, k ≠ (env q.block).blk → w'.heap[k]? = w.heap[k]? := fun k hk => by
              show (w.freeze _ 1).heap[_]? = _
              unfold World.freeze
              rw [if_neg (by decide)]
              simp only [Array.getElem?_modify]
              rw [if_neg (fun e => hk e.symm)]
            have hcell : ∀ j, w'.cell? ⟨(env q.block).blk, j, none⟩ = w.cell? ⟨(env q.block).blk, j, none⟩ := fun j => by simp [World.cell?, hw', hh]
            have hfz : w'.os = w.os ∧ w'.tape = w.tape ∧ w'.output = w.output ∧ w'.heap.size = w.heap.size := by
              show (w.freeze _ 1).os = _ ∧ (w.freeze _ 1).tape = _ ∧ (w.freeze _ 1).output = _ ∧ (w.freeze _ 1).heap.size = _
              unfold World.freeze
              rw [if_neg (by decide)]
              exact ⟨rfl, rfl, rfl, by simp⟩
            obtain ⟨hW, hF⟩ := hR.mem.turn (w' := w') (o' := .rows false t m n cap f) hv rfl trivial ⟨hm, fun r hr => ⟨(hrows r hr).1, fun j y hj => by
                rw [hcell]; exact (hrows r hr).2 j y hj⟩, fun h => by cases h⟩ (show ScO S.V.length (.rows true t m n cap f) from hR.mem.sc _ _ hv) hother hfz.1 hfz.2.1 hfz.2.2.1 hfz.2.2.2
            have hR' := hR.later hW hF
            obtain ⟨S', hV, hR'', hk⟩ := putK_ok (dst := o.dst) (u := ren env (.slice (some q) l c)) hR' (.inr rfl) h
            have hbk : (renA env { q with off := 0 }).block = (env q.block).blk := by unfold renA; split <;> rfl
            have hrun : (execOp a.eval o).run P w = .ok (.value (ren env (.slice (some q) l c))) w' := by
              rw [show execOp a.eval o = (do let v ← convert src dst (a.eval x); pure (.value v)) by simp only [execOp, ho]]
              rw [hq', ren_slice env _ _ hoff]
              have hsh : w.shape? (env q.block).blk = some (t, cs.size) := by simp [World.shape?, hh]
              subst hsd
              rw [hs] at hd
              cases hd
              simp [convert, run_underlying hs, run_underlying he, markStringish, shape, hbk, hsh, freeze, Sem.run, w']
            unfold Oper.wp
            rw [hrun, Oper.upon_value]
            exact next _ S' _ _ (hV ▸ hF) hR'' hk
          · cases hxn
        · cases hxn
      · cases hxn
    · split at h
      · rename_i p i ob hxr
        obtain ⟨hp, h⟩ := h
        unfold nodst at h
        split at h
        case' h_2 => exact h.elim
        rename_i hd
        obtain ⟨hsc, h⟩ := okRaw_ok h
        rw [setK_eq] at h
        unfold xraw at hxr
        split at hxr
        · rename_i t x v ho
          split at hxr
          case' h_2 => cases hxr
          rename_i q hq
          obtain ⟨w', hrun, hW, hF⟩ := store_raw_ok hR.mem hxr hp hsc
          have hq' := ev_of hR hq (by simp [unk])
          rw [ren_ptr] at hq'
          have hv' : a.eval v = ren env (ev S v) := ev_known hR (storeR_known hxr)
          unfold Oper.wp
          have : (execOp a.eval o).run P w = .ok .skip w' := by
            rw [show execOp a.eval o = (do Instr.storeAt t (a.eval x) (a.eval v); pure .skip) by simp only [execOp, ho]]
            simp [hq', hv', Instr.storeAt, Instr.sureAddr, hrun]
          rw [this, Oper.upon_skip, hd]
          exact next env _ a w' hF (hR.later hW hF) h
        · unfold xbuildR at hxr
          split at hxr <;> cases hxr
        · split at hxr
          · split at hxr
            · unfold xappR at hxr
              (repeat' split at hxr) <;> cases hxr
            · cases hxr
          · cases hxr
        · cases hxr
      · rename_i ob n hxr
        obtain ⟨hsc, h⟩ := okRaw_ok h
        rw [appK_eq] at h
        unfold xraw at hxr
        split at hxr
        · split at hxr
          · unfold xstoreR at hxr
            (repeat' split at hxr) <;> cases hxr
          · cases hxr
        · rename_i t len parts ho
          unfold xbuildR at hxr
          split at hxr
          case' h_2 => cases hxr
          rename_i e m rows hrows
          cases hxr
          obtain ⟨hrun, hlen⟩ := run_rows hR hrows ho
          obtain ⟨hW, hF⟩ := allocRaw_ok hR.mem (t := e) hsc hlen
          have hR' := hR.later hW hF
          obtain ⟨S', hV, hR'', hk⟩ := putK_ok (dst := o.dst) (u := .slice (some ⟨w.heap.size, 0, none⟩) rows.length rows.length) hR' (.inr (by simp [ren_slice0, renA])) h
          unfold Oper.wp
          rw [hrun, Oper.upon_value]
          exact next _ S' _ _ (hV ▸ hF) hR'' hk
        · split at hxr
          · split at hxr
            · unfold xappR at hxr
              (repeat' split at hxr) <;> cases hxr
            · cases hxr
          · cases hxr
        · cases hxr
      · rename_i p i ob n hxr
        obtain ⟨hp, h⟩ := h
        obtain ⟨hsc, h⟩ := okRaw_ok h
        rw [killK_eq, appK_eq] at h
        unfold xraw at hxr
        split at hxr
        · split at hxr
          · unfold xstoreR at hxr
            (repeat' split at hxr) <;> cases hxr
          · cases hxr
        · unfold xbuildR at hxr
          split at hxr <;> cases hxr
        · rename_i c ho
          split at hxr
          case' h_2 => cases hxr
          rename_i hcal
          split at hxr
          case' h_2 => cases hxr
          rename_i x y t u hargs htys
          obtain ⟨u', w', env', hrun, hu, hW, hF⟩ := append_raw_ok (ty := o.type) hR.mem hxr hp hsc
          have hR' := hR.later hW hF
          obtain ⟨S', hV, hR'', hk⟩ := putK_ok (dst := o.dst) hR' (.inr hu) h
          obtain ⟨hk1, hk2⟩ := appR_known hxr
          have h1 := ev_of hR (x := x) rfl hk1
          have h2 := ev_of hR (x := y) rfl hk2
          have hargs' : c.args.map a.eval = #[ren env (ev S x), ren env (ev S y)] := by
            apply Array.ext'; simp [hargs, h1, h2]
          have hts : c.argTypes = #[t, u] := by
            apply Array.ext'; simp [htys]
          have hrun' : (execOp a.eval o).run P w = .ok (.value u') w' := by
            simp [execOp, ho, resolve, hcal, invoke, builtin, hargs', hts, hrun]
          unfold Oper.wp
          rw [hrun', Oper.upon_value]
          exact next _ S' _ _ (hV ▸ hF) hR'' hk
        · cases hxr
      · exact xmor_ok hC hR h next
end Go.X
