/- What the symbolic run says of the real one, eighth part: functions. -/
import Derived.Test.YtgnhcoefocbmpaaGreatXS7
set_option linter.unusedSimpArgs false
set_option linter.unusedSectionVars false
set_option linter.unusedVariables false
namespace Go.X
open Go
variable [WI]
variable {P : Program} {C : Ctx}

theorem pad_eq {β : Type} : ∀ (n : Nat) (l : List Value) (k : List Value → β), l.length ≤ n → pad n l k = k (l ++ List.replicate (n - l.length) undef)
  | 0, l, k, h => by
    have : l = [] := List.length_eq_zero_iff.1 (by omega)
    subst this; rfl
  | n + 1, [], k, h => by
    simp only [pad]
    rw [pad_eq n [] _ (by simp)]
    simp [List.replicate_succ]
  | n + 1, x :: xs, k, h => by
    simp only [pad]
    rw [pad_eq n xs _ (by simpa using h)]
    simp

def resOf (tmps : Array Value) : ResultVar → Sem Value
  | .tmp t => pure (tmps.getD t undef)
  | .cell a t => do loadVar t (← asAddr (tmps.getD a undef))

theorem results_eq (fn : Func) (tmps : Array Value) : results fn tmps = (do
    let vs ← fn.results.mapM (resOf tmps)
    pure (if h : vs.size = 1 then vs[0] else .tuple vs)) := rfl

theorem xres_ok {env : Nat → Loc} {S : VSt} {a : Act} {w : World} (hR : Rep env S a w) : ∀ (rs : List ResultVar) (k : List Value → Prop), xres P S rs k →
    ∃ l, k l ∧ (rs.mapM (resOf a.tmps)).run P w = .ok (l.map (ren env)) w
  | [], k, h => ⟨[], h, by simp⟩
  | .tmp t :: rs, k, h => by
    simp only [xres] at h
    split at h
    · rename_i hc
      obtain ⟨l, hk, hl⟩ := xres_ok hR rs _ h
      have he : a.eval (.tmp t) = ren env (nth undef S.tmps t) := ev_known (x := .tmp t) hR hc
      simp only [Act.eval] at he
      exact ⟨_, hk, by simp [List.mapM_cons, resOf, hl, ← he]⟩
    · exact h.elim
  | .cell p t :: rs, k, h => by
    simp only [xres] at h
    split at h
    · rename_i ad hp
      have he : a.eval (.tmp p) = ren env (.pointer (some ad)) := ev_of (x := .tmp p) hR hp (by simp [unk])
      simp only [Act.eval, ren_ptr] at he
      have go : ∀ v, Gives (xload P S.V t ad) v → xres P S rs (fun l => k (v :: l)) → ∃ l, k l ∧ ((ResultVar.cell p t :: rs).mapM (resOf a.tmps)).run P w = .ok (l.map (ren env)) w := by
        intro v hv h
        obtain ⟨l, hk, hl⟩ := xres_ok hR rs _ h
        refine ⟨_, hk, ?_⟩
        have he' : a.tmps[p]?.getD undef = .pointer (some (renA env ad)) := by simpa using he
        simp [List.mapM_cons, resOf, hl, he', asAddr, xload_run hR.mem hv]
      split at h
      · rename_i v hv; exact go v (.inl hv) h
      · rename_i q v hv; exact go v (.inr ⟨q, hv, h.1⟩) h.2
      · exact h.elim
    · exact h.elim

theorem xend_ok {env : Nat → Loc} {S : VSt} {a : Act} {w : World} (hR : Rep env S a w) {fn : Func} {K : Value → VW → Prop} {e : Exit} (h : xend P C fn K e S) :
    (e = .normal ∨ e = .ret) ∧ ∃ v, (results fn a.tmps).run P w = .ok (ren env v) w ∧ K v S.V := by
  have go : xres P S fn.results.toList (fun l => match l with
      | [v] => norm C.cl S.V.length v fun v' => K v' S.V
      | l => norm C.cl S.V.length (.tuple ⟨l⟩) fun v' => K v' S.V) → ∃ v, (results fn a.tmps).run P w = .ok (ren env v) w ∧ K v S.V := by
    intro h
    obtain ⟨l, hk, hl⟩ := xres_ok hR _ _ h
    have hrun : ∀ v, (if h : (l.map (ren env)).toArray.size = 1 then (l.map (ren env)).toArray[0] else Value.tuple (l.map (ren env)).toArray) = ren env v → (results fn a.tmps).run P w = .ok (ren env v) w := by
      intro v hv
      rw [results_eq, Array.mapM_eq_mapM_toList]
      simp only [Sem.run_bind, Sem.run_map, hl, Result.andThen_ok, Sem.run_pure]
      rw [hv]
    split at hk
    · rename_i v
      obtain ⟨_, hk⟩ := norm_spec hk
      exact ⟨v, hrun v (by simp), hk⟩
    · rename_i hne
      obtain ⟨_, hk⟩ := norm_spec hk
      refine ⟨_, hrun (.tuple ⟨l⟩) ?_, hk⟩
      rw [dif_neg]
      · rw [ren_tuple]; simp
      · intro h1
        have : l.length = 1 := by simpa using h1
        obtain ⟨v, hv⟩ := List.length_eq_one_iff.1 this
        exact hne v hv
  cases e with
  | normal => exact ⟨.inl rfl, go h⟩
  | ret => exact ⟨.inr rfl, go h⟩
  | _ => exact h.elim

/-- A FUNCTION -/
theorem XF_ok (hC : CtxOK P C) {n : Nat} {f : FuncId} {fn : Func} {c : Code} {args : List Value} {V : VW} {K : Value → VW → Prop} (hf : P.funcs[f]? = some fn) (hb : fn.body = some c)
    (hB : BlksOK P C c) (h : XF P C n fn args V K) : CallDoes P f args V K := by
  intro env w hW hsc
  unfold XF at h
  simp only [hb] at h
  obtain ⟨_, h⟩ := normL_spec (normV_spec C.cl V.length 6) _ _ h
  split at h
  · rename_i hle
    rw [pad_eq _ _ _ hle] at h
    refine calls_of_wp hf hb ?_
    have hR : Rep env ⟨args ++ List.replicate (fn.ntmps - args.length) undef, V⟩ { tmps := (args.map (ren env)).toArray ++ Array.replicate (fn.ntmps - (args.map (ren env)).toArray.size) undef, defers := [] } w := by
      refine ⟨hW, rfl, by simp, fun t ht => .inr ?_, fun v hv => ?_⟩
      · simp only [List.length_append, List.length_replicate] at ht
        rw [nth_eq, Array.getD_eq_getD_getElem?, List.getD_eq_getElem?_getD]
        simp only [Array.getElem?_append, List.getElem?_append, List.getElem?_toArray, List.size_toArray, List.length_map, List.getElem?_map, Array.getElem?_replicate, List.getElem?_replicate]
        by_cases h1 : t < args.length
        · simp [h1]
        · simp only [h1, if_false]
          split <;> simp
      · simp only [List.mem_append, List.mem_replicate] at hv
        rcases hv with hv | ⟨_, rfl⟩
        · exact hsc v hv
        · exact .undef
    refine wp_mono (X_ok hC n c _ _ hB h env _ w hR) ?_
    rintro e a' w' ⟨hne, env', S', hF, hR', hK⟩
    obtain ⟨he, v, hrun, hk⟩ := xend_ok hR' hK
    have : a'.defers = [] ∧ ∃ u, (results fn a'.tmps).run P w' = .ok u w' ∧ ∃ u' env' V' v, Ending.returned u = .returned u' ∧ Rv env' v u' ∧ RepW env' V' w' ∧ Fr env V w env' V' w' ∧ K v V' :=
      ⟨hR'.def_, _, hrun, _, env', S'.V, v, rfl, .inr rfl, hR'.mem, hF, hk⟩
    rcases he with rfl | rfl
    · exact this
    · exact this
  · exact h.elim

theorem blks_none {C : Ctx} (hC : ∀ i, C.blk i = none) : ∀ (c : Code), blksOf C c = []
  | .seq a b => by simp [blksOf, blks_none hC a, blks_none hC b]
  | .cond _ a b => by simp [blksOf, blks_none hC a, blks_none hC b]
  | .block id body => by simp [blksOf, hC, blks_none hC body]
  | .loop body => by simp [blksOf, blks_none hC body]
  | .scope body => by simp [blksOf, blks_none hC body]
  | .skip | .region .. | .rangeFunc .. | .exit _ | .label _ | .goto _ | .ret | .refuse _ => by simp [blksOf]

/-- a function whose body needs no contract of a block -/
theorem BlksOK.none {c : Code} (hC : ∀ i, C.blk i = none) : BlksOK P C c := fun id body T hm => by rw [blks_none hC] at hm; cases hm

/-- a value without a place in it -/
def plainV : Value → Bool
  | .agg cs => cs.toList.all plainC
  | v => plainC v

def plainR : Value → Bool
  | .tuple vs => vs.toList.all plainV
  | v => plainV v

theorem ren_plainV (env : Nat → Loc) {v : Value} (h : plainV v = true) : ren env v = v := by
  unfold plainV at h
  split at h
  · rename_i cs
    rw [ren_agg, arr_map, map_ren_plain env h]
  · exact ren_plain env h

theorem ren_plainR (env : Nat → Loc) {v : Value} (h : plainR v = true) : ren env v = v := by
  unfold plainR at h
  split at h
  · rename_i vs
    rw [ren_tuple]
    congr 1
    apply Array.ext'
    rw [Array.toList_map]
    have : ∀ (l : List Value), l.all plainV = true → l.map (ren env) = l := by
      intro l
      induction l with
      | nil => intro _; rfl
      | cons x xs ih =>
        intro hl
        simp only [List.all_cons, Bool.and_eq_true] at hl
        simp [ren_plainV env hl.1, ih hl.2]
    exact this _ h
  · exact ren_plainV env h

theorem Sc.plainV {v : Value} (h : plainV v = true) : Sc 0 v := fun e e' _ => by rw [ren_plainV e h, ren_plainV e' h]

theorem unk_plainR : plainR unk = false := rfl

/-! ### Places under other numbers -/
def renB (σ : Nat → Nat) : Value → Value
  | .pointer (some a) => .pointer (some { a with block := σ a.block })
  | .slice (some a) l c => .slice (some { a with block := σ a.block }) l c
  | .map (some r) => .map (some (σ r))
  | .iface t v => .iface t (renB σ v)
  | .agg cs => .agg (cs.map (renB σ))
  | .tuple vs => .tuple (vs.map (renB σ))
  | .func fn a b => .func fn (a.map (renB σ)) (b.map (renB σ))
  | v => v

theorem renB_agg (σ : Nat → Nat) (cs : List Value) : renB σ (.agg ⟨cs⟩) = .agg ⟨cs.map (renB σ)⟩ := by rw [renB]; simp
theorem renB_tuple (σ : Nat → Nat) (cs : List Value) : renB σ (.tuple ⟨cs⟩) = .tuple ⟨cs.map (renB σ)⟩ := by rw [renB]; simp
theorem renB_ptr (σ : Nat → Nat) (a : Addr) : renB σ (.pointer (some a)) = .pointer (some { a with block := σ a.block }) := by rw [renB]
theorem renB_slice (σ : Nat → Nat) (a : Addr) (l c : Nat) : renB σ (.slice (some a) l c) = .slice (some { a with block := σ a.block }) l c := by rw [renB]

theorem renB_plain (σ : Nat → Nat) {v : Value} (h : plainC v = true) : renB σ v = v := by
  cases v <;> first | (simp [plainC] at h; done) | (simp [renB]; done) | skip
  case pointer a => cases a <;> simp_all [plainC, renB]
  case slice a _ _ => cases a <;> simp_all [plainC, renB]
  case map a => cases a <;> simp_all [plainC, renB]

theorem renB_unk {σ : Nat → Nat} {v : Value} (h : renB σ v = unk) : v = unk := by
  cases v <;> first | (simp [renB, unk] at h; done) | skip
  case complex k a b => simpa [renB] using h
  case pointer a => cases a <;> simp [renB, unk] at h
  case slice a _ _ => cases a <;> simp [renB, unk] at h
  case map a => cases a <;> simp [renB, unk] at h

theorem ren_renB (env : Nat → Loc) (σ : Nat → Nat) : ∀ v, ren env (renB σ v) = ren (fun i => env (σ i)) v := by
  intro v
  have key : ∀ (n : Nat) (v : Value), SizeOf.sizeOf v < n → ren env (renB σ v) = ren (fun i => env (σ i)) v := by
    intro n
    induction n with
    | zero => intro v hv; omega
    | succ n ih =>
      intro v hv
      have arr : ∀ cs : Array Value, SizeOf.sizeOf cs < n → (cs.map (renB σ)).map (ren env) = cs.map (ren fun i => env (σ i)) := by
        intro cs hcs
        rw [Array.map_map]
        apply Array.map_congr_left
        intro x hx
        exact ih x (by have := Array.sizeOf_lt_of_mem hx; omega)
      cases v with
      | pointer a => cases a <;> simp [renB, ren_ptr, renA]
      | slice a l c =>
        cases a with
        | none => simp [renB]
        | some a => rw [renB, ren_sliceS, ren_sliceS]; unfold renS renA rcap; rfl
      | map a => cases a <;> simp [renB, ren_map]
      | iface t v => rw [renB, ren_iface, ren_iface, ih v (by simp at hv; omega)]
      | agg cs => rw [renB, ren_agg, ren_agg, arr cs (by simp at hv; omega)]
      | tuple cs => rw [renB, ren_tuple, ren_tuple, arr cs (by simp at hv; omega)]
      | func fn a b => rw [renB, ren_func, ren_func, arr a (by simp at hv; omega), arr b (by simp at hv; omega)]
      | _ => simp [renB, ren]
  exact key _ v (Nat.lt_succ_self _)

/-- what a callee may take a place for: the place itself, or a view of its first rows that only reads -/
def Weak (o o' : VObj) : Prop :=
  ∃ t m n n' cap cap' own f f', o = .rows false t m n cap f ∧ o' = .rows own t m n' cap' f' ∧ n ≤ n' ∧ ∀ r, r < n → f r = f' r

def flatO : VObj → Prop
  | .cells _ c => c.all plainC = true
  | .rows _ _ _ n _ f => ∀ r, r < n → (f r).all plainC = true
  | .iter .. => True
  | .vec _ _ n f => ∀ r, r < n → (f r).all plainC = true
  | .arg .. => True
  | .tab .. => True
  | .raw .. => False
  | .mp .. => False
  | .mq .. => True
  | .dead => True

theorem flatO.mat {env env' : Nat → Loc} {w : World} {l : Loc} {o : VObj} (hf : flatO o) (h : Mat env w l o) : Mat env' w l o := by
  cases o with
  | cells t c =>
    obtain ⟨h1, h2⟩ := h
    exact ⟨by rw [map_ren_plain env' hf]; rw [map_ren_plain env hf] at h1; exact h1, h2⟩
  | rows own t m n cap f =>
    obtain ⟨h1, h2, h3⟩ := h
    refine ⟨h1, fun r hr => ⟨(h2 r hr).1, ?_⟩, h3⟩
    have := (h2 r hr).2
    rw [map_ren_plain env (hf r hr)] at this
    rw [map_ren_plain env' (hf r hr)]
    exact this
  | iter s pos => exact h
  | vec t m n f =>
    obtain ⟨h1, h2, h3⟩ := h
    refine ⟨h1, h2, fun hc => ?_⟩
    obtain ⟨h3, h4⟩ := h3 hc
    refine ⟨fun r hr => ⟨(h3 r hr).1, ?_⟩, h4⟩
    have := (h3 r hr).2
    rw [map_ren_plain env (hf r hr)] at this
    rw [map_ren_plain env' (hf r hr)]
    exact this
  | arg t m n f => exact h
  | tab t m n f => exact h
  | raw t m n cap f hs => exact hf.elim
  | mp => exact hf.elim
  | mq g => exact h
  | dead => trivial

theorem flatO.sc {n : Nat} {o : VObj} (h : flatO o) : ScO n o := by
  cases o with
  | cells t c => exact fun v hv => .plain (List.all_eq_true.1 h v hv)
  | rows own t m k cap f => exact fun r hr v hv => ⟨.plain (List.all_eq_true.1 (h r hr) v hv), by have := List.all_eq_true.1 (h r hr) v hv; cases v <;> simp_all [plainC, cellC]⟩
  | iter _ _ => trivial
  | vec t m k f => exact fun r hr v hv => ⟨.plain (List.all_eq_true.1 (h r hr) v hv), by have := List.all_eq_true.1 (h r hr) v hv; cases v <;> simp_all [plainC, cellC]⟩
  | arg t m n f => trivial
  | tab t m n f => trivial
  | raw t m n cap f hs => exact h.elim
  | mp => exact h.elim
  | mq g => trivial
  | dead => trivial

/-- A CALL IN A LARGER MEMORY: the callee was run over a small one, whose places the caller's memory has under other numbers, and reads them alone; of what it made some places are kept, flat ones. -/
theorem embed {f : FuncId} {args : List Value} {Vs V : VW} {σ : Nat → Nat} {os : List VObj} {v : Value}
    (hσ : ∀ (i : Nat) (o : VObj), Vs[i]? = some o → flatO o ∧ ∃ o', V[σ i]? = some o' ∧ Weak o o')
    (hsc : ∀ x ∈ args, Sc Vs.length x)
    (h : CallDoes P f args Vs fun v' V' => leV Vs V' ∧ ∃ τ : Nat → Nat, v' = renB (fun i => if i < Vs.length then i else τ (i - Vs.length)) v ∧
      ∀ j o, os[j]? = some o → Vs.length ≤ τ j ∧ V'[τ j]? = some o ∧ flatO o ∧ o.writes = true ∧ o.live = true ∧ ∀ k, k < os.length → k ≠ j → τ k ≠ τ j)
    (env : Nat → Loc) (w : World) (hW : RepW env V w) :
    Calls P f ((args.map (renB σ)).map (ren env)).toArray w fun e w' => ∃ u env', e = .returned u ∧ Rv env' (renB (fun i => if i < Vs.length then σ i else V.length + (i - Vs.length)) v) u ∧ RepW env' (V ++ os) w' ∧ Fr env V w env' (V ++ os) w' := by
  have hlt : ∀ i, i < Vs.length → σ i < V.length := fun i hi => by
    obtain ⟨_, o', h1, _⟩ := hσ i Vs[i] (by simp [hi])
    exact (List.getElem?_eq_some_iff.1 h1).1
  have hsmall : RepW (fun i => env (σ i)) Vs w := by
    refine ⟨fun i o hi => ?_, fun i o hi => (hσ i o hi).1.sc, fun i o hi hB => ?_, fun i j oi oj hi hj hij hw => ?_, hW.inv, fun i o hi ho => ?_, hW.room⟩
    · obtain ⟨hf, o', h1, t, m, n, n', cap, cap', own, g, g', rfl, rfl, hn, hg⟩ := hσ i o hi
      obtain ⟨hm, hrows, _⟩ := hW.mat _ _ h1
      refine ⟨hm, fun r hr => ?_, fun h => by cases h⟩
      obtain ⟨h2, h3⟩ := hrows r (by omega)
      rw [hg r hr]
      refine ⟨h2, ?_⟩
      have hp : (g' r).all plainC = true := by rw [← hg r hr]; exact hf r hr
      rw [map_ren_plain _ hp] at h3 ⊢
      exact h3
    · obtain ⟨_, o', h1, t, m, n, n', cap, cap', own, g, g', rfl, rfl, _⟩ := hσ i o hi
      exact hW.blk _ _ h1 trivial
    · obtain ⟨_, o', _, t, m, n, n', cap, cap', own, g, g', rfl, _⟩ := hσ i oi hi
      cases hw
    · obtain ⟨_, o', _, t, m, n, n', cap, cap', own, g, g', rfl, _⟩ := hσ i o hi
      have := ho.1
      cases this
  have hargs : (args.map (renB σ)).map (ren env) = args.map (ren fun i => env (σ i)) := by
    rw [List.map_map]; exact List.map_congr_left fun x _ => ren_renB env σ x
  rw [hargs]
  refine (h (fun i => env (σ i)) w hsmall hsc).mono ?_
  rintro e w' ⟨u, env1, V', v', rfl, hrv, hW1, hF, hle, τ, rfl, hos⟩
  obtain ⟨hlen, hsame⟩ := leV_ok hle
  have hnoown : ∀ (i : Nat) (o : VObj), Vs[i]? = some o → o.owned = true → False := fun i o hi ho => by
    obtain ⟨_, o', _, t, m, n, n', cap, cap', own, g, g', rfl, _⟩ := hσ i o hi
    cases ho
  have hkeep : ∀ b, b < w.heap.size → w'.heap[b]? = w.heap[b]? := fun b hb => hF.keep b hb fun i o hi ho => (hnoown i o hi ho.1).elim
  let env' : Nat → Loc := fun i => if i < V.length then env i else env1 (τ (i - V.length))
  have hag : ∀ i, i < V.length → env' i = env i := fun i hi => by simp [env', hi]
  have hnew : ∀ j, env' (V.length + j) = env1 (τ j) := fun j => by simp [env', show ¬ V.length + j < V.length by omega]
  have hget : ∀ {i : Nat} {o : VObj}, (V ++ os)[i]? = some o → (i < V.length ∧ V[i]? = some o) ∨ (∃ j, i = V.length + j ∧ os[j]? = some o) := by
    intro i o h
    rw [List.getElem?_append] at h
    split at h
    · exact .inl ⟨‹_›, h⟩
    · exact .inr ⟨i - V.length, by omega, h⟩
  have hfresh : ∀ j o, os[j]? = some o → hasB (env1 (τ j)) o → w.heap.size ≤ (env1 (τ j)).blk := by
    intro j o hj hB
    obtain ⟨hge, hV', _, hwr, hlv, _⟩ := hos j o hj
    have hown : o.owned = true := by cases o <;> simp_all [VObj.writes, VObj.owned]
    rcases hF.own (τ j) o hV' ⟨hown, hB⟩ with ⟨k, ok, hk, hok, _⟩ | h
    · exact (hnoown k ok hk hok.1).elim
    · exact h
  refine ⟨u, env', rfl, ?_, pairRF hW (fun i o hi => ?_) (fun i o hi => ?_) (fun i o hi hB => ?_) (fun i j oi oj hi hj hij hw hl hBi hBj => ?_)
    ⟨hag, by simp, hF.os, hF.tape, hF.output, hF.size, fun b hb _ => hkeep b hb, fun i o hi ho => ?_⟩⟩
  · rcases hrv with h1 | h1
    · left
      rw [renB_unk h1]
      simp [renB, unk]
    · right
      rw [h1, ren_renB, ren_renB]
      congr 1
      funext i
      by_cases hi : i < Vs.length
      · simp only [hi, if_true]
        rw [hag _ (hlt i hi)]
        exact hF.agree i hi
      · simp only [hi, if_false]
        rw [hnew]
  · rcases hget hi with ⟨hlt', hi⟩ | ⟨j, rfl, hj⟩
    · rw [hag i hlt']
      exact (hW.mat i o hi).keep (fun hB => hkeep _ (hW.blk i o hi hB)) (hW.sc i o hi) hag
    · rw [hnew]
      obtain ⟨hge, hV', hf, _⟩ := hos j o hj
      exact hf.mat (hW1.mat _ _ hV')
  · rcases hget hi with ⟨hlt', hi⟩ | ⟨j, rfl, hj⟩
    · have := hW.sc i o hi
      rw [List.length_append]
      cases o with
      | cells _ _ => exact fun x hx => (this x hx).mono (by omega)
      | rows _ _ _ _ _ _ => exact this
      | iter _ _ => trivial
      | mp es _ => exact fun e hm => ⟨(this e hm).1.mono (by omega), (this e hm).2.mono (by omega)⟩
      | mq _ => trivial
      | vec _ _ _ _ => exact this
      | arg _ _ _ _ => trivial
      | tab _ _ _ _ => trivial
      | raw _ _ _ _ _ _ => exact fun x hx v hv => ⟨(this x hx v hv).1.mono (by omega), (this x hx v hv).2⟩
      | dead => trivial
    · exact (hos j o hj).2.2.1.sc
  · rcases hget hi with ⟨hlt', hi⟩ | ⟨j, rfl, hj⟩
    · rw [hag i hlt'] at hB ⊢; exact Nat.lt_of_lt_of_le (hW.blk i o hi hB) hF.size
    · rw [hnew] at hB ⊢
      obtain ⟨hge, hV', _⟩ := hos j o hj
      exact hW1.blk _ _ hV' hB
  · rcases hget hi with ⟨hi', hi⟩ | ⟨k, rfl, hk⟩
    · rcases hget hj with ⟨hj', hj⟩ | ⟨m, rfl, hm⟩
      · rw [hag i hi'] at hBi ⊢; rw [hag j hj'] at hBj ⊢; exact hW.sep i j oi oj hi hj hij hw hl hBi hBj
      · rw [hag i hi'] at hBi ⊢; rw [hnew]
        have := hW.blk i oi hi hBi
        have := hfresh m oj hm (by rw [hnew] at hBj; exact hBj)
        omega
    · rcases hget hj with ⟨hj', hj⟩ | ⟨m, rfl, hm⟩
      · rw [hag j hj'] at hBj ⊢; rw [hnew]
        have := hW.blk j oj hj hBj
        have := hfresh k oi hk (by rw [hnew] at hBi; exact hBi)
        omega
      · rw [hnew] at hBi hBj ⊢; rw [hnew]
        have hkm : k ≠ m := fun h => hij (by rw [h])
        obtain ⟨_, hVk, _, _, _, hd⟩ := hos k oi hk
        obtain ⟨_, hVm, _⟩ := hos m oj hm
        exact hW1.sep _ _ oi oj hVk hVm (fun h => hd m (List.getElem?_eq_some_iff.1 hm).1 (Ne.symm hkm) h.symm) hw hl hBi hBj
  · rcases hget hi with ⟨hi', hi⟩ | ⟨j, rfl, hj⟩
    · left; rw [hag i hi'] at ho ⊢; exact ⟨i, o, hi, ho, rfl⟩
    · right; rw [hnew] at ho ⊢; exact hfresh j o hj ho.2

/-- THE CONTRACT OF A FUNCTION ON VALUES: its body is run over no memory at all -/
theorem FnOK.of {f : FuncId} {g : List Value → VW → Res} (hc : Callable P f) (hn : ∀ args V p os v, g args V ≠ .new p os v)
    (h : ∀ args V v, Gives (g args V) v → args.all plainV = true ∧ plainR v = true ∧ CallDoes P f args [] fun v' _ => v' = v) : FnOK P f g := by
  refine ⟨hc, fun env w V args os v hW hsc hg => ?_⟩
  obtain ⟨rfl, hg'⟩ : os = [] ∧ Gives (g args V) v := by
    rcases hg with h | ⟨p, h, _⟩
    · exact h
    · exact absurd h (hn _ _ _ _ _)
  obtain ⟨hp, hv, hd⟩ := h args V v hg'
  have h0 : RepW env [] w := ⟨fun i o h => by simp at h, fun i o h => by simp at h, fun i o hi => by simp at hi, fun i j oi oj h => by simp at h, hW.inv, fun i o h => by simp at h, hW.room⟩
  refine (hd env w h0 fun x hx => Sc.plainV (List.all_eq_true.1 hp x hx)).mono ?_
  rintro e w' ⟨u, env', V', v', he, hrv, hW', hF, rfl⟩
  have hkeep : ∀ b, b < w.heap.size → w'.heap[b]? = w.heap[b]? := fun b hb => hF.keep b hb (fun i o h => by simp at h)
  rw [List.append_nil]
  refine ⟨u, env, he, ?_, pairRF hW (fun i o hi => ?_) hW.sc (fun i o hi hB => Nat.lt_of_lt_of_le (hW.blk i o hi hB) hF.size) hW.sep ⟨fun _ _ => rfl, Nat.le_refl _, hF.os, hF.tape, hF.output, hF.size, fun b hb _ => hkeep b hb, fun i o h ho => .inl ⟨i, o, h, ho, rfl⟩⟩⟩
  · rcases hrv with h | h
    · exact .inl h
    · right; rw [h, ren_plainR env' hv, ren_plainR env hv]
  · have hi' : i < V.length := (List.getElem?_eq_some_iff.1 hi).1
    exact (hW.mat i o hi).keep (fun hB => hkeep _ (hW.blk i o hi hB)) (hW.sc i o hi) (fun _ _ => rfl)

/-- the same, where the arguments are told by a decoder -/
theorem FnOK.dec {f : FuncId} {α : Type} (hc : Callable P f) (dec : List Value → Option α) (enc : α → List Value) (res : α → Value) (hde : ∀ l x, dec l = some x → l = enc x)
    (hpa : ∀ x, (enc x).all plainV = true) (hpr : ∀ x, plainR (res x) = true) (h : ∀ x, CallDoes P f (enc x) [] fun v _ => v = res x) :
    FnOK P f fun args _ => match dec args with | some x => .val (res x) | none => .bad :=
  FnOK.of hc (fun args V p os v h => by split at h <;> cases h) fun args V v hg => by
    split at hg
    · rename_i x hx
      rw [Gives.val_iff] at hg
      subst hg
      obtain rfl := hde args x hx
      exact ⟨hpa x, hpr x, h x⟩
    · exact (Gives.bad.1 hg).elim

/-- with a condition -/
theorem FnOK.decIf {f : FuncId} {α : Type} (hc : Callable P f) (dec : List Value → Option α) (enc : α → List Value) (res : α → Value) (pre : α → Prop) (hde : ∀ l x, dec l = some x → l = enc x)
    (hpa : ∀ x, (enc x).all plainV = true) (hpr : ∀ x, plainR (res x) = true) (h : ∀ x, pre x → CallDoes P f (enc x) [] fun v _ => v = res x) :
    FnOK P f fun args _ => match dec args with | some x => .ob (pre x) (res x) | none => .bad :=
  FnOK.of hc (fun args V p os v h => by split at h <;> cases h) fun args V v hg => by
    split at hg
    · rename_i x hx
      rw [Gives.ob_iff] at hg
      obtain ⟨rfl, hp⟩ := hg
      obtain rfl := hde args x hx
      exact ⟨hpa x, hpr x, h x hp⟩
    · exact (Gives.bad.1 hg).elim
end Go.X

namespace Go.X
open Go
variable [WI]
variable {P : Program} {C : Ctx}

/-- a type of plain data: how it is told from a value, and as a value -/
structure Dec (α : Type) where
  dec : Value → Option α
  enc : α → Value
  ok : ∀ v x, dec v = some x → v = enc x
  plain : ∀ x, plainV (enc x) = true

def dInt (k : IntKind) : Dec Int where
  dec := fun v => match v with | .int k' n => if k' = k then some n else none | _ => none
  enc := .int k
  ok := fun v x h => by
    cases v <;> simp at h
    obtain ⟨rfl, rfl⟩ := h; rfl
  plain := fun _ => rfl

def dBool : Dec Bool where
  dec := fun v => match v with | .bool b => some b | _ => none
  enc := .bool
  ok := fun v x h => by cases v <;> simp at h; subst h; rfl
  plain := fun _ => rfl

def dStr : Dec ByteArray where
  dec := fun v => match v with | .string s => some s | _ => none
  enc := .string
  ok := fun v x h => by cases v <;> simp at h; subst h; rfl
  plain := fun _ => rfl

def g0 (res : Value) : List Value → VW → Res := fun args _ => match args with | [] => .val res | _ => .bad
def g1 {α : Type} (A : Dec α) (res : α → Value) : List Value → VW → Res := fun args _ =>
  match args with | [x] => (match A.dec x with | some a => .val (res a) | none => .bad) | _ => .bad
def g2 {α β : Type} (A : Dec α) (B : Dec β) (res : α → β → Value) : List Value → VW → Res := fun args _ =>
  match args with | [x, y] => (match A.dec x, B.dec y with | some a, some b => .val (res a b) | _, _ => .bad) | _ => .bad
def g3 {α β γ : Type} (A : Dec α) (B : Dec β) (D : Dec γ) (res : α → β → γ → Value) : List Value → VW → Res := fun args _ =>
  match args with | [x, y, z] => (match A.dec x, B.dec y, D.dec z with | some a, some b, some c => .val (res a b c) | _, _, _ => .bad) | _ => .bad

theorem FnOK.g0 {f : FuncId} (hc : Callable P f) (res : Value) (hpr : plainR res = true) (h : CallDoes P f [] [] fun v _ => v = res) : FnOK P f (g0 res) :=
  FnOK.of hc (fun args V p os v h => by unfold X.g0 at h; split at h <;> cases h) fun args V v hg => by
    unfold X.g0 at hg
    split at hg
    · rw [Gives.val_iff] at hg; subst hg; exact ⟨rfl, hpr, h⟩
    · exact (Gives.bad.1 hg).elim

theorem FnOK.g1 {f : FuncId} {α : Type} (hc : Callable P f) (A : Dec α) (res : α → Value) (hpr : ∀ a, plainR (res a) = true) (h : ∀ a, CallDoes P f [A.enc a] [] fun v _ => v = res a) : FnOK P f (g1 A res) :=
  FnOK.of hc (fun args V p os v h => by unfold X.g1 at h; (repeat' split at h) <;> cases h) fun args V v hg => by
    unfold X.g1 at hg
    split at hg
    · rename_i x
      split at hg
      · rename_i a ha
        rw [Gives.val_iff] at hg; subst hg
        obtain rfl := A.ok _ _ ha
        exact ⟨by simp [A.plain], hpr a, h a⟩
      · exact (Gives.bad.1 hg).elim
    · exact (Gives.bad.1 hg).elim

theorem FnOK.g2 {f : FuncId} {α β : Type} (hc : Callable P f) (A : Dec α) (B : Dec β) (res : α → β → Value) (hpr : ∀ a b, plainR (res a b) = true)
    (h : ∀ a b, CallDoes P f [A.enc a, B.enc b] [] fun v _ => v = res a b) : FnOK P f (g2 A B res) :=
  FnOK.of hc (fun args V p os v h => by unfold X.g2 at h; (repeat' split at h) <;> cases h) fun args V v hg => by
    unfold X.g2 at hg
    split at hg
    · rename_i x y
      split at hg
      · rename_i a b ha hb
        rw [Gives.val_iff] at hg; subst hg
        obtain rfl := A.ok _ _ ha
        obtain rfl := B.ok _ _ hb
        exact ⟨by simp [A.plain, B.plain], hpr a b, h a b⟩
      · exact (Gives.bad.1 hg).elim
    · exact (Gives.bad.1 hg).elim

theorem FnOK.g3 {f : FuncId} {α β γ : Type} (hc : Callable P f) (A : Dec α) (B : Dec β) (D : Dec γ) (res : α → β → γ → Value) (hpr : ∀ a b c, plainR (res a b c) = true)
    (h : ∀ a b c, CallDoes P f [A.enc a, B.enc b, D.enc c] [] fun v _ => v = res a b c) : FnOK P f (g3 A B D res) :=
  FnOK.of hc (fun args V p os v h => by unfold X.g3 at h; (repeat' split at h) <;> cases h) fun args V v hg => by
    unfold X.g3 at hg
    split at hg
    · rename_i x y z
      split at hg
      · rename_i a b c ha hb hcc
        rw [Gives.val_iff] at hg; subst hg
        obtain rfl := A.ok _ _ ha
        obtain rfl := B.ok _ _ hb
        obtain rfl := D.ok _ _ hcc
        exact ⟨by simp [A.plain, B.plain, D.plain], hpr a b c, h a b c⟩
      · exact (Gives.bad.1 hg).elim
    · exact (Gives.bad.1 hg).elim

/-- a statement, closed against the elaborator: it is to be turned by the kernel alone -/
structure Hold (p : Prop) : Prop where
  out : p

/-- a statement in another form that the kernel holds for the same -/
theorem by_nf {A B : Prop} (h : A = B) (b : B) : Hold A := ⟨h ▸ b⟩

/-- A FUNCTION, by the normal form of its body's run -/
theorem of_run (hC : CtxOK P C) {n : Nat} {f : FuncId} {fn : Func} {c : Code} {args : List Value} {V : VW} {K : Value → VW → Prop} (hf : P.funcs[f]? = some fn) (hb : fn.body = some c)
    (hB : BlksOK P C c) (h : Hold (XF P C n fn args V K)) : CallDoes P f args V K := XF_ok hC hf hb hB h.out

theorem bsplit_iff {b : Bool} {A B : Prop} : bsplit b A B ↔ ((b = true → A) ∧ (b = false → B)) := by
  cases b <;> simp [bsplit]
end Go.X
