/- A function that defers a call which does nothing if nobody panics: it is run as if it deferred none. -/
import Derived.Test.YtgnhcoefocbmpaaGreatXRun
import Derived.Defers
import Derived.Recover
set_option linter.unusedSimpArgs false
set_option linter.unusedSectionVars false
set_option linter.unusedVariables false
namespace Go.X
open Go
variable [WI]
variable {P : Program}

/-- a deferred call of f with n arguments does nothing, if nobody panics -/
structure Quiet (P : Program) (f : FuncId) (n : Nat) : Prop where
  enter : ∀ args w, (callFunc f args).run P w = .ok (.enter f args) w
  still : ∀ (args : Array Value) (w : World), args.size = n → CallsD P f args .returning w fun e u' w' => u' = .returning ∧ (∃ v, e = .returned v) ∧ w' = w

def quietD (P : Program) (d : Deferred) : Prop := ∃ f cap, d.target = .fn (.func f) cap ∧ Quiet P f (d.args.size + cap.size)

theorem leaves_quiet {fn : Func} {tmps : Array Value} {R : Ending → World → Prop} {w : World} (h : ∃ v, (results fn tmps).run P w = .ok v w ∧ R (.returned v) w) :
    ∀ (ds : List Deferred), (∀ d ∈ ds, quietD P d) → Leaves P fn tmps R ds .returning w
  | [], _ => h
  | d :: ds, hd => by
    obtain ⟨f, cap, ht, hq⟩ := hd d (List.mem_cons_self ..)
    obtain ⟨t, da⟩ := d
    simp only at ht hq
    subst ht
    refine leaves_cons (f := f) (args := da ++ cap) (by simp) ?_ ?_
    · simpa [invoke] using hq.enter (da ++ cap) w
    · refine (hq.still (da ++ cap) w (by simp)).mono ?_
      rintro e u' w' ⟨rfl, ⟨v, rfl⟩, rfl⟩
      exact leaves_quiet h ds fun d hd' => hd d (List.mem_cons_of_mem _ hd')

/-- operations ahead of a deferred call, and it -/
def splitD : List Oper → Option (List Oper × Oper)
  | [] => none
  | [o] => (match o.op with | .defer _ => some ([], o) | _ => none)
  | o :: r => (match splitD r with | some (p, x) => some (o :: p, x) | none => none)
theorem splitD_ok : ∀ {l p : List Oper} {o : Oper}, splitD l = some (p, o) → l = p ++ [o]
  | [], p, o, h => by simp [splitD] at h
  | [x], p, o, h => by
    unfold splitD at h
    split at h
    · cases h; rfl
    · cases h
  | x :: y :: r, p, o, h => by
    unfold splitD at h
    split at h
    · rename_i q z hq
      cases h
      rw [splitD_ok hq]; rfl
    · cases h

def isNoneG (o : Oper) : Bool := match o.guard, o.dst with | none, none => true | _, _ => false
/-- the call that is deferred is one of the quiet ones -/
def deferK (q : FuncId → Option Nat) (S : VSt) (o : Oper) (k : Prop) : Prop :=
  match o.op, isNoneG o with
  | .defer c, true =>
    match c.callee, c.args.toList with
    | .value x, [] =>
      match ev S x with
      | .func (.func f) ⟨[]⟩ cap => (match q f with | some n => (match Nat.beq n cap.toList.length with | true => k | false => False) | none => False)
      | _ => False
    | _, _ => False
  | _, _ => False

def XT (P : Program) (C : Ctx) (q : FuncId → Option Nat) : Nat → Code → VSt → (Exit → VSt → Prop) → Prop
  | 0, _, _, _ => False
  | n + 1, c, S, K =>
    match c with
    | .seq a b => XT P C q n a S fun e S' => match e with | .normal => XT P C q n b S' K | e => K e S'
    | .region id ops false =>
      match splitD ops.toList with
      | some (p, o) => (match p.all (fun o => o.guard.isNone) with | true => xops P C ops.toList p S fun S' => deferK q S' o (K .normal S') | false => False)
      | none => X P C (n + 1) (.region id ops false) S K
    | c => X P C (n + 1) c S K

theorem xops_pre [WD] {C : Ctx} (hC : CtxOK P C) (all : List Oper) {Q : Exit → Act → World → Prop} (tail : List Oper) : ∀ (rest : List Oper) (S : VSt) (env : Nat → Loc) (a : Act) (w : World) (k : VSt → Prop),
    rest.all (fun o => o.guard.isNone) = true → Rep env S a w → xops P C all rest S k → (∀ env' S' a' w', Fr env S.V w env' S'.V w' → Rep env' S' a' w' → k S' → wpList P all.toArray Q tail a' w') → wpList P all.toArray Q (rest ++ tail) a w
  | [], S, env, a, w, k, _, hR, h, next => next env S a w (Fr.refl _ _ _) hR h
  | o :: rest, S, env, a, w, k, hg, hR, h, next => by
    simp only [List.all_cons, Bool.and_eq_true] at hg
    unfold xops at h
    split at h
    · rename_i hgo
      refine wpList_step fun K hK => ?_
      rw [if_pos (by simp [Region.wanted, hgo])]
      refine xone_ok hC hR h fun env' S' a' w' hF hR' hk => hK _ _ ?_
      exact xops_pre hC all tail rest S' env' a' w' k hg.2 hR' hk fun env2 S2 a2 w2 hF2 hR2 hk2 => next env2 S2 a2 w2 (hF.trans hF2) hR2 hk2
    · rename_i hgo
      rw [hgo] at hg
      cases hg.1

theorem blksW [WD] {C : Ctx} {c : Code} (hC : ∀ i, C.blk i = none) : BlksOK P C c := fun id body T hm => by rw [blks_none hC] at hm; cases hm

theorem XT_ok {C : Ctx} (hC : CtxOK P C) (hblk : ∀ i, C.blk i = none) {q : FuncId → Option Nat} (hq : ∀ f n, q f = some n → Quiet P f n) : ∀ (n : Nat) (c : Code) (S : VSt) (K : Exit → VSt → Prop), XT P C q n c S K →
    ∀ (ds : List Deferred), (∀ d ∈ ds, quietD P d) → ∀ env a w, @Rep _ ⟨ds⟩ env S a w →
      c.wp P (fun e a' w' => e ≠ .outgrown ∧ ∃ ds' env' S', (∀ d ∈ ds', quietD P d) ∧ Fr env S.V w env' S'.V w' ∧ @Rep _ ⟨ds'⟩ env' S' a' w' ∧ K e S') a w
  | 0, _, _, _, h => h.elim
  | n + 1, c, S, K, h => by
    have other : ∀ c, X P C (n + 1) c S K → ∀ (ds : List Deferred), (∀ d ∈ ds, quietD P d) → ∀ env a w, @Rep _ ⟨ds⟩ env S a w →
        c.wp P (fun e a' w' => e ≠ .outgrown ∧ ∃ ds' env' S', (∀ d ∈ ds', quietD P d) ∧ Fr env S.V w env' S'.V w' ∧ @Rep _ ⟨ds'⟩ env' S' a' w' ∧ K e S') a w := by
      intro c h ds hds env a w hR
      letI : WD := ⟨ds⟩
      refine wp_mono (X_ok hC (n + 1) c S K (blksW hblk) h env a w hR) ?_
      rintro e a' w' ⟨hne, env', S', hF, hR', hK⟩
      exact ⟨hne, ds, env', S', hds, hF, hR', hK⟩
    intro ds hds env a w hR
    unfold XT at h
    split at h
    · rename_i x y
      refine wp_seq (wp_mono (XT_ok hC hblk hq n x S _ h ds hds env a w hR) ?_)
      rintro e a' w' ⟨hne, ds', env', S', hds', hF, hR', hK⟩
      cases e with
      | normal => exact wp_mono (XT_ok hC hblk hq n y S' K hK ds' hds' env' a' w' hR') fun e a2 w2 ⟨hne, ds2, env2, S2, hds2, hF2, hR2, hK2⟩ => ⟨hne, ds2, env2, S2, hds2, hF.trans hF2, hR2, hK2⟩
      | exit i => exact ⟨hne, ds', env', S', hds', hF, hR', hK⟩
      | goto l => exact ⟨hne, ds', env', S', hds', hF, hR', hK⟩
      | ret => exact ⟨hne, ds', env', S', hds', hF, hR', hK⟩
      | panic c => exact ⟨hne, ds', env', S', hds', hF, hR', hK⟩
      | outgrown => exact absurd rfl hne
    · rename_i id ops
      split at h
      · rename_i p o hs
        split at h
        · rename_i hg
          refine wp_region_list ?_
          have hl := splitD_ok hs
          letI : WD := ⟨ds⟩
          have hgo : (ops.toList).toArray = ops := by simp
          rw [hl]
          have hpre := xops_pre (Q := fun e a' w' => e ≠ .outgrown ∧ ∃ ds' env' S', (∀ d ∈ ds', quietD P d) ∧ Fr env S.V w env' S'.V w' ∧ @Rep _ ⟨ds'⟩ env' S' a' w' ∧ K e S') hC ops.toList [o] p S env a w _ hg hR h
          rw [hgo] at hpre
          refine hpre fun env' S' a' w' hF hR' hk => ?_
          unfold deferK at hk
          split at hk
          · rename_i c hop hno
            have hno : o.guard = none ∧ o.dst = none := by
              unfold isNoneG at hno
              split at hno
              · rename_i h1 h2; exact ⟨h1, h2⟩
              · cases hno
            split at hk
            · rename_i x hcal hargs
              split at hk
              · rename_i f cap hev
                split at hk
                · rename_i m hqf
                  split at hk
                  · rename_i hm
                    refine wpList_step fun K' hK' => ?_
                    rw [if_pos (by simp [Region.wanted, hno.1])]
                    have hx := ev_of hR' hev (by simp [unk])
                    have hargs' : c.args = #[] := by
                      apply Array.ext'
                      simpa using hargs
                    have hrun : (execOp a'.eval o).run P w' = .ok (.defer { target := .fn (.func f) (cap.map (ren env')), args := #[] }) w' := by
                      simp only [execOp, hop, resolve, hcal, hargs', hx, ren, Deferred.ofValue]
                      simp
                    unfold Oper.wp
                    rw [hrun]
                    simp only [Oper.upon, hno.2, Act.put]
                    refine hK' _ _ ?_
                    have hq' := hq f m hqf
                    have hmn := Nat.eq_of_beq_eq_true hm
                    refine (show wpList P ops _ [] _ w' from ?_)
                    unfold wpList
                    obtain ⟨x, hxd⟩ : ∃ x : Deferred, x = { target := .fn (.func f) (cap.map (ren env')), args := #[] } := ⟨_, rfl⟩
                    obtain ⟨r1, r2, r3, r4, r5⟩ := hR'
                    have r2' : a'.defers = ds := r2
                    have hRn : @Rep _ ⟨x :: ds⟩ env' S' { a' with defers := x :: a'.defers } w' := by
                      refine @Rep.mk _ ⟨x :: ds⟩ _ _ _ _ r1 ?_ r3 r4 r5
                      show x :: a'.defers = x :: ds
                      rw [r2']
                    rw [← hxd]
                    refine ⟨by simp, x :: ds, env', S', ?_, hF, hRn, hk⟩
                    intro d hd
                    rcases List.mem_cons.1 hd with rfl | hd
                    · refine ⟨f, cap.map (ren env'), by rw [hxd], ?_⟩
                      have hmn' : m = cap.size := by simpa using hmn
                      rw [hxd]
                      rw [hmn'] at hq'
                      simpa using hq'
                    · exact hds d hd
                  · exact hk.elim
                · exact hk.elim
              · exact hk.elim
            · exact hk.elim
          · exact hk.elim
        · exact h.elim
      · exact other _ h ds hds env a w hR
    · exact other _ h ds hds env a w hR

theorem AllC.lookC {l : List (Nat × CallS)} (h : AllC P l) : ∀ f g, lookA l f = some g → CallOK P f g := by
  induction h with
  | nil => intro f g h; simp [lookA] at h
  | cons h1 _ ih =>
    intro f g h
    unfold lookA at h
    split at h
    · rename_i hb
      cases h
      have := Nat.eq_of_beq_eq_true hb
      subst this
      exact h1
    · exact ih f g h

/-- a function that defers quiet calls -/
def XFT (P : Program) (C : Ctx) (q : FuncId → Option Nat) (fuel : Nat) (fn : Func) (args : List Value) (V : VW) (K : Value → VW → Prop) : Prop :=
  match fn.body with
  | some c => normL (normV C.cl V.length 6) args fun args => if args.length ≤ fn.ntmps then pad fn.ntmps args fun l => XT P C q fuel c ⟨l, V⟩ (xend P C fn K) else False
  | none => False

theorem XFT_ok {C : Ctx} (hC : CtxOK P C) (hblk : ∀ i, C.blk i = none) {q : FuncId → Option Nat} (hq : ∀ f n, q f = some n → Quiet P f n) {n : Nat} {f : FuncId} {fn : Func} {c : Code} {args : List Value} {V : VW} {K : Value → VW → Prop}
    (hf : P.funcs[f]? = some fn) (hb : fn.body = some c) (h : XFT P C q n fn args V K) : CallDoes P f args V K := by
  intro env w hW hsc
  unfold XFT at h
  simp only [hb] at h
  obtain ⟨_, h⟩ := normL_spec (normV_spec C.cl V.length 6) _ _ h
  split at h
  · rename_i hle
    rw [pad_eq _ _ _ hle] at h
    refine calls_of_wp_defers hf hb ?_
    have hR : @Rep _ ⟨[]⟩ env ⟨args ++ List.replicate (fn.ntmps - args.length) undef, V⟩ { tmps := (args.map (ren env)).toArray ++ Array.replicate (fn.ntmps - (args.map (ren env)).toArray.size) undef, defers := [] } w := by
      refine ⟨hW, rfl, by simp, fun t ht => .inr ?_, fun v hv => ?_⟩
      · simp only [List.length_append, List.length_replicate] at ht
        rw [nth_eq, Array.getD_eq_getD_getElem?, List.getD_eq_getElem?_getD]
        simp only [Array.getElem?_append, List.getElem?_append, List.getElem?_toArray, List.size_toArray, List.length_map, List.getElem?_map, Array.getElem?_replicate, List.getElem?_replicate]
        by_cases h1 : t < args.length
        · simp [h1]
        · simp only [h1, if_false]
          split <;> simp
      · simp only [List.mem_append, List.mem_replicate] at hv
        rcases hv with hv | ⟨_, rfl⟩
        · exact hsc v hv
        · exact .undef
    refine wp_mono (XT_ok hC hblk hq n c _ _ h [] (fun d hd => by cases hd) env _ w hR) ?_
    rintro e a' w' ⟨hne, ds', env', S', hds', hF, hR', hK⟩
    obtain ⟨r1, r2, r3, r4, r5⟩ := hR'
    have hR0 : Rep env' S' { a' with defers := [] } w' := ⟨r1, rfl, r3, r4, r5⟩
    obtain ⟨he, v, hrun, hk⟩ := xend_ok hR0 hK
    have hd : a'.defers = ds' := r2
    have fin : Leaves P fn a'.tmps (fun e w' => ∃ u env' V' v, e = .returned u ∧ Rv env' v u ∧ RepW env' V' w' ∧ Fr env V w env' V' w' ∧ K v V') a'.defers .returning w' := by
      rw [hd]
      exact leaves_quiet ⟨_, hrun, _, env', S'.V, v, rfl, .inr rfl, r1, hF, hk⟩ ds' hds'
    rcases he with rfl | rfl
    · exact fin
    · exact fin
  · exact h.elim

def inlT (P : Program) (C : Ctx) (q : FuncId → Option Nat) (n : Nat) (fn : Func) : CallS := fun args V K => XFT P C q n fn args V K
theorem inlT_ok {C : Ctx} {q : FuncId → Option Nat} {f : FuncId} {fn : Func} {c : Code} (hC : CtxOK P C) (hblk : ∀ i, C.blk i = none) (hq : ∀ f n, q f = some n → Quiet P f n) (n : Nat) (hc : Callable P f) (hf : P.funcs[f]? = some fn) (hb : fn.body = some c) : CallOK P f (inlT P C q n fn) :=
  ⟨hc, fun args V K h => XFT_ok hC hblk hq hf hb h⟩

/-- functions are run through, k deep; those of the third list defer quiet calls; those of the first have contracts -/
def runT (P : Program) (cs : List (Nat × CallS)) (q : FuncId → Option Nat) (fns ts : List (Nat × Func)) (fs : List (Nat × FnS)) (xs : List (Nat × ExtS)) : Nat → Ctx
  | 0 => ⟨true, lookA fs, lookA cs, fun _ => none, lookA xs⟩
  | k + 1 => ⟨true, lookA fs, fun f => match lookA cs f with
    | some T => some T
    | none => match lookA fns f with
      | some fn => some (inl P (runT P cs q fns ts fs xs k) 1000000 fn)
      | none => match lookA ts f with | some fn => some (inlT P (runT P cs q fns ts fs xs k) q 1000000 fn) | none => none, fun _ => none, lookA xs⟩
theorem runT_blk {cs : List (Nat × CallS)} {q : FuncId → Option Nat} {fns ts : List (Nat × Func)} {fs : List (Nat × FnS)} {xs : List (Nat × ExtS)} : ∀ k i, (runT P cs q fns ts fs xs k).blk i = none
  | 0, _ => rfl
  | _ + 1, _ => rfl
theorem runT_ok {cs : List (Nat × CallS)} {q : FuncId → Option Nat} {fns ts : List (Nat × Func)} {fs : List (Nat × FnS)} {xs : List (Nat × ExtS)} (hc : AllC P cs) (hn : FnsOK P fns) (ht : FnsOK P ts) (hf : AllF P fs) (hx : AllX P xs) (hq : ∀ f n, q f = some n → Quiet P f n) : ∀ k, CtxOK P (runT P cs q fns ts fs xs k)
  | 0 => ⟨hf.look, hc.lookC, hx.look⟩
  | k + 1 => ⟨hf.look, (fun f T h => by
      have h' : (match lookA cs f with | some T => some T | none => match lookA fns f with | some fn => some (inl P (runT P cs q fns ts fs xs k) 1000000 fn) | none => match lookA ts f with | some fn => some (inlT P (runT P cs q fns ts fs xs k) q 1000000 fn) | none => none) = some T := h
      split at h'
      · rename_i T' hT'
        cases h'
        exact hc.lookC f _ hT'
      · split at h'
        · rename_i fn hfn
          cases h'
          obtain ⟨h1, h2, h3⟩ := hn.look f fn hfn
          obtain ⟨c, hc'⟩ := Option.isSome_iff_exists.1 h2
          exact inl_ok (runT_ok hc hn ht hf hx hq k) 1000000 ⟨fn, h1, h2, h3⟩ h1 hc' (BlksOK.none (runT_blk k))
        · split at h'
          · rename_i fn hfn
            cases h'
            obtain ⟨h1, h2, h3⟩ := ht.look f fn hfn
            obtain ⟨c, hc'⟩ := Option.isSome_iff_exists.1 h2
            exact inlT_ok (runT_ok hc hn ht hf hx hq k) (runT_blk k) hq 1000000 ⟨fn, h1, h2, h3⟩ h1 hc'
          · cases h'), hx.look⟩
end Go.X
