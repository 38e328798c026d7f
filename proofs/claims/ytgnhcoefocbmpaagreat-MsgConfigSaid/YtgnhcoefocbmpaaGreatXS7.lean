/- What the symbolic run says of the real one, seventh part: regions in their text's order, code, functions, loops. -/
import Derived.Test.YtgnhcoefocbmpaaGreatXDB
import Derived.LoopN
import Derived.Scope
set_option linter.unusedSimpArgs false
set_option linter.unusedSectionVars false
set_option linter.unusedVariables false
namespace Go.X
open Go
variable [WI] [WD]
variable {P : Program} {C : Ctx}

theorem xops_ok (hC : CtxOK P C) (all : List Oper) {Q : Exit → Act → World → Prop} : ∀ (rest : List Oper) (S : VSt) (env : Nat → Loc) (a : Act) (w : World) (k : VSt → Prop),
    Rep env S a w → xops P C all rest S k → (∀ env' S' a' w', Fr env S.V w env' S'.V w' → Rep env' S' a' w' → k S' → Q .normal a' w') → wpList P all.toArray Q rest a w
  | [], S, env, a, w, k, hR, h, next => next env S a w (Fr.refl _ _ _) hR h
  | o :: rest, S, env, a, w, k, hR, h, next => by
    have run : ∀ S0 : VSt, S0.V = S.V → Rep env S0 a w → Region.wanted o (yielded all.toArray a.tmps) = true → xone P C S0 o (fun S' => xops P C all rest S' k) → wpList P all.toArray Q (o :: rest) a w := by
      intro S0 hV hR0 hw h0
      refine wpList_step fun K hK => ?_
      rw [if_pos hw]
      refine xone_ok hC hR0 h0 fun env' S' a' w' hF hR' hk => hK _ _ ?_
      exact xops_ok hC all rest S' env' a' w' k hR' hk fun env2 S2 a2 w2 hF2 hR2 hk2 => next env2 S2 a2 w2 ((hV ▸ hF).trans hF2) hR2 hk2
    have skip : ∀ S0 : VSt, S0.V = S.V → Rep env S0 a w → Region.wanted o (yielded all.toArray a.tmps) = false → skipK S0 o (fun S' => xops P C all rest S' k) → wpList P all.toArray Q (o :: rest) a w := by
      intro S0 hV hR0 hw h0
      refine wpList_step fun K hK => ?_
      rw [if_neg (by simp [hw])]
      obtain ⟨S', hV', hR', hk⟩ := skipK_ok hR0 h0
      refine hK _ _ ?_
      exact xops_ok hC all rest S' env _ w k hR' hk fun env2 S2 a2 w2 hF2 hR2 hk2 => next env2 S2 a2 w2 (by rw [hV', hV] at hF2; exact hF2) hR2 hk2
    unfold xops at h
    split at h
    · rename_i hg
      exact run S rfl hR (by simp [Region.wanted, hg]) h
    · rename_i j want hg
      split at h
      · exact h.elim
      · rename_i g hgt
        have hgt' := guardTmp_eq hgt
        split at h
        · rename_i b hb
          have hreal := tmp_bool hR hb
          have hy : yielded all.toArray a.tmps j = some b := by rw [yielded, hgt', Option.bind_some, hreal]
          have hw : Region.wanted o (yielded all.toArray a.tmps) = (b == want) := by
            simp only [Region.wanted, hg, hy]; cases b <;> cases want <;> rfl
          split at h
          · rcases bsplit_spec h with ⟨hb1, h⟩ | ⟨hb0, h⟩
            · rw [setK_eq] at h
              exact run ⟨S.tmps.set g (.bool true), S.V⟩ rfl (hR.lit hb (by rw [hb1]) (by simp [undef])) (by rw [hw, hb1]; rfl) h
            · rw [setK_eq] at h
              exact skip ⟨S.tmps.set g (.bool false), S.V⟩ rfl (hR.lit hb (by rw [hb0]) (by simp [undef])) (by rw [hw, hb0]; rfl) h
          · rcases bsplit_spec h with ⟨hb1, h⟩ | ⟨hb0, h⟩
            · rw [setK_eq] at h
              exact skip ⟨S.tmps.set g (.bool true), S.V⟩ rfl (hR.lit hb (by rw [hb1]) (by simp [undef])) (by rw [hw, hb1]; rfl) h
            · rw [setK_eq] at h
              exact run ⟨S.tmps.set g (.bool false), S.V⟩ rfl (hR.lit hb (by rw [hb0]) (by simp [undef])) (by rw [hw, hb0]; rfl) h
        · rename_i hu
          have hy : yielded all.toArray a.tmps j = none := by
            have hrv := ev_rv hR (.tmp g)
            simp only [ev, hu] at hrv
            have hu' : a.eval (.tmp g) = undef := by
              rcases hrv with h' | h'
              · simp [unk] at h'
              · rw [h']; exact ren_undef env
            simp only [Act.eval] at hu'
            simp only [yielded, hgt', Option.bind_some]
            cases ht : a.tmps[g]? with
            | none => rfl
            | some v =>
              rw [Array.getD_eq_getD_getElem?, ht] at hu'
              simp only [Option.getD_some] at hu'
              subst hu'
              rfl
          exact skip S rfl hR (by simp [Region.wanted, hg, hy]) h
        · exact h.elim

/-- what a piece of code does, told by what is asked of its end -/
def Does (P : Program) (c : Code) (S : VSt) (K : Exit → VSt → Prop) : Prop :=
  ∀ env a w, Rep env S a w → c.wp P (fun e a' w' => e ≠ .outgrown ∧ ∃ env' S', Fr env S.V w env' S'.V w' ∧ Rep env' S' a' w' ∧ K e S') a w

theorem Does.mono {c : Code} {S : VSt} {K K' : Exit → VSt → Prop} (h : Does P c S K) (hk : ∀ e S', K e S' → K' e S') : Does P c S K' :=
  fun env a w hR => wp_mono (h env a w hR) fun e a' w' ⟨hne, env', S', hF, hR', hK⟩ => ⟨hne, env', S', hF, hR', hk _ _ hK⟩

theorem Does.seq {x y : Code} {S : VSt} {K : Exit → VSt → Prop} (h : Does P x S fun e S' => match e with | .normal => Does P y S' K | e => K e S') : Does P (.seq x y) S K := by
  intro env a w hR
  refine wp_seq (wp_mono (h env a w hR) ?_)
  rintro e a' w' ⟨hne, env', S', hF, hR', hK⟩
  cases e with
  | normal => exact wp_mono (hK env' a' w' hR') fun e a2 w2 ⟨hne, env2, S2, hF2, hR2, hK2⟩ => ⟨hne, env2, S2, hF.trans hF2, hR2, hK2⟩
  | exit i => exact ⟨hne, env', S', hF, hR', hK⟩
  | goto l => exact ⟨hne, env', S', hF, hR', hK⟩
  | ret => exact ⟨hne, env', S', hF, hR', hK⟩
  | panic c => exact ⟨hne, env', S', hF, hR', hK⟩
  | outgrown => exact absurd rfl hne

theorem Does.block {id : Nat} {c : Code} {S : VSt} {K : Exit → VSt → Prop} (h : Does P c S fun e S' => match e with | .exit i => if i = id then K .normal S' else K (.exit i) S' | e => K e S') : Does P (.block id c) S K := by
  intro env a w hR
  refine wp_block (wp_mono (h env a w hR) ?_)
  rintro e a' w' ⟨hne, env', S', hF, hR', hK⟩
  cases e with
  | normal => exact ⟨hne, env', S', hF, hR', hK⟩
  | exit i =>
    simp only [Exit.inBlock]
    split
    · rename_i hi
      simp only [hi, if_true] at hK
      exact ⟨by simp, env', S', hF, hR', hK⟩
    · rename_i hi
      simp only [hi, if_false] at hK
      exact ⟨by simp, env', S', hF, hR', hK⟩
  | goto l => exact ⟨hne, env', S', hF, hR', hK⟩
  | ret => exact ⟨hne, env', S', hF, hR', hK⟩
  | panic c => exact ⟨hne, env', S', hF, hR', hK⟩
  | outgrown => exact absurd rfl hne

/-! ### Less is known -/
theorem leT_ok {env : Nat → Loc} : ∀ {l l' : List Value}, leT l l' → l.length = l'.length ∧ ∀ t, t < l.length → nth undef l t = unk ∨ nth undef l t = nth undef l' t
  | [], [], _ => ⟨rfl, fun t ht => by simp at ht⟩
  | x :: xs, y :: ys, h => by
    unfold leT at h
    have key : leT xs ys ∧ (x = unk ∨ x = y) := by
      split at h
      · exact ⟨h, .inl rfl⟩
      · exact ⟨h.2, .inr h.1⟩
    obtain ⟨hl, hxy⟩ := key
    obtain ⟨h1, h2⟩ := leT_ok (env := env) hl
    refine ⟨by simp [h1], fun t ht => ?_⟩
    cases t with
    | zero => simpa [nth] using hxy
    | succ t => exact h2 t (by simpa using ht)
  | [], _ :: _, h => by simp [leT] at h
  | _ :: _, [], h => by simp [leT] at h

theorem leV_ok : ∀ {V V' : VW}, leV V V' → V.length ≤ V'.length ∧ ∀ (i : Nat) (o : VObj), V[i]? = some o → V'[i]? = some o
  | [], V', _ => ⟨Nat.zero_le _, fun i o h => by simp at h⟩
  | o :: os, o' :: os', h => by
    obtain ⟨rfl, h⟩ := h
    obtain ⟨h1, h2⟩ := leV_ok h
    refine ⟨by simp; exact h1, fun i x hx => ?_⟩
    cases i with
    | zero => simpa using hx
    | succ i => simpa using h2 i x (by simpa using hx)
  | _ :: _, [], h => by simp [leV] at h

/-- the scopes of what is kept: below the kept places -/
def ScS (S : VSt) : Prop := (∀ v ∈ S.tmps, Sc S.V.length v) ∧ ∀ (i : Nat) (o : VObj), S.V[i]? = some o → ScO S.V.length o

theorem Rep.le {env : Nat → Loc} {S S' : VSt} {a : Act} {w : World} (hR : Rep env S' a w) (hle : Le S S') (hsc : ScS S) : Rep env S a w := by
  obtain ⟨ht, hv⟩ := hle
  obtain ⟨h1, h2⟩ := leT_ok (env := env) ht
  obtain ⟨h3, h4⟩ := leV_ok hv
  refine ⟨⟨fun i o h => hR.mem.mat i o (h4 i o h), hsc.2, fun i o hi hB => hR.mem.blk i o (h4 i o hi) hB, fun i j oi oj hi hj => hR.mem.sep i j oi oj (h4 i oi hi) (h4 j oj hj), hR.mem.inv, fun i o hi ho => hR.mem.low i o (h4 i o hi) ho, hR.mem.room⟩,
    hR.def_, hR.size.trans h1.symm, fun t ht => ?_, hsc.1⟩
  rcases h2 t ht with h | h
  · exact .inl h
  · rw [h]; exact hR.tm t (h1 ▸ ht)

theorem Fr.le {env env' : Nat → Loc} {V V' V'' : VW} {w w' : World} (h : Fr env V w env' V' w') (hle : leV V'' V') (hl : V.length ≤ V''.length) : Fr env V w env' V'' w' :=
  ⟨h.agree, hl, h.os, h.tape, h.output, h.size, h.keep, fun i o hi ho => h.own i o ((leV_ok hle).2 i o hi) ho⟩

/-- A LOOP: what holds at the head of each round, and a number that falls -/
theorem Does.loop {id : Nat} {body : Code} {K : Exit → VSt → Prop} (J : VSt → Prop) (μ : VSt → Nat)
    (round : ∀ S, J S → Does P body S fun e S' => match e with
      | .normal => ∃ S'', Le S'' S' ∧ ScS S'' ∧ S.V.length ≤ S''.V.length ∧ J S'' ∧ μ S'' < μ S
      | .exit i => if i = id then K .normal S' else K (.exit i) S'
      | e => K e S') :
    ∀ S, J S → Does P (.block id (.loop body)) S K := by
  intro S hJ env a w hR
  refine wp_block ?_
  -- the invariant of the real run: some S that J holds of is represented, and nothing else has turned since the beginning
  have main : ∀ (n : Nat) (S1 : VSt) (env1 : Nat → Loc) (a1 : Act) (w1 : World), μ S1 = n → J S1 → Fr env S.V w env1 S1.V w1 → Rep env1 S1 a1 w1 →
      body.wp P (Exit.then (fun a2 w2 => ∃ S2 env2, J S2 ∧ Fr env S.V w env2 S2.V w2 ∧ Rep env2 S2 a2 w2 ∧ μ S2 < n)
        (Exit.inBlock id fun e a' w' => e ≠ .outgrown ∧ ∃ env' S', Fr env S.V w env' S'.V w' ∧ Rep env' S' a' w' ∧ K e S')) a1 w1 := by
    intro n S1 env1 a1 w1 hn hJ1 hF1 hR1
    refine wp_mono (round S1 hJ1 env1 a1 w1 hR1) ?_
    rintro e a2 w2 ⟨hne, env2, S2, hF2, hR2, hK⟩
    cases e with
    | normal =>
      obtain ⟨S3, hle, hsc, hlen, hJ3, hlt⟩ := hK
      exact ⟨S3, env2, hJ3, (hF1.trans (hF2.le hle.2 hlen)), hR2.le hle hsc, hn ▸ hlt⟩
    | exit i =>
      simp only [Exit.then, Exit.inBlock]
      split
      · rename_i hi
        simp only [hi, if_true] at hK
        exact ⟨by simp, env2, S2, hF1.trans hF2, hR2, hK⟩
      · rename_i hi
        simp only [hi, if_false] at hK
        exact ⟨by simp, env2, S2, hF1.trans hF2, hR2, hK⟩
    | goto l => exact ⟨hne, env2, S2, hF1.trans hF2, hR2, hK⟩
    | ret => exact ⟨hne, env2, S2, hF1.trans hF2, hR2, hK⟩
    | panic c => exact ⟨hne, env2, S2, hF1.trans hF2, hR2, hK⟩
    | outgrown => exact absurd rfl hne
  -- a strong induction on the number, over the steps themselves
  intro b k cs
  have key : ∀ n (S1 : VSt) (env1 : Nat → Loc) (a1 : Act) (w1 : World), μ S1 = n → J S1 → Fr env S.V w env1 S1.V w1 → Rep env1 S1 a1 w1 →
      ∃ e a' w', (Exit.inBlock id fun e a' w' => e ≠ .outgrown ∧ ∃ env' S', Fr env S.V w env' S'.V w' ∧ Rep env' S' a' w' ∧ K e S') e a' w' ∧
        Arrives P (lone (b.at a1 (.code body :: .inLoop body :: k)) cs w1) b k cs e a' w' := by
    intro n
    induction n using Nat.strongRecOn with
    | _ n ih =>
      intro S1 env1 a1 w1 hn hJ1 hF1 hR1
      obtain ⟨e, a2, w2, hq, harr⟩ := main n S1 env1 a1 w1 hn hJ1 hF1 hR1 b (.inLoop body :: k) cs
      cases e with
      | normal =>
        obtain ⟨S2, env2, hJ2, hF2, hR2, hlt⟩ := hq
        obtain ⟨e₂, a₂, w₂, hq₂, harr₂⟩ := ih (μ S2) hlt S2 env2 a2 w2 rfl hJ2 hF2 hR2
        exact ⟨e₂, a₂, w₂, hq₂, .of_steps (Steps.trans harr (.one step_inLoop)) harr₂⟩
      | exit i => exact ⟨.exit i, a2, w2, hq, .pass (x := .inLoop body) rfl (fun _ _ => .inl (by simp)) harr⟩
      | goto l => exact ⟨.goto l, a2, w2, hq, .pass (x := .inLoop body) rfl (fun _ _ => .inl (by simp)) harr⟩
      | ret => exact ⟨.ret, a2, w2, hq, .pass (x := .inLoop body) rfl (fun _ _ => .inl (by simp)) harr⟩
      | panic ch => exact ⟨.panic ch, a2, w2, hq, .pass (x := .inLoop body) rfl (fun _ _ => .inl (by simp)) harr⟩
      | outgrown => exact ⟨.outgrown, a2, w2, hq, .pass (x := .inLoop body) rfl (fun _ _ => .inl (by simp)) harr⟩
  obtain ⟨e, a', w', hq, harr⟩ := key _ S env a w rfl hJ (Fr.refl _ _ _) hR
  exact ⟨e, a', w', hq, .of_steps (.one step_loop) harr⟩

/-- the contracts of a code's blocks -/
def BlksOK (P : Program) (C : Ctx) (c : Code) : Prop := ∀ id body T, (id, body) ∈ blksOf C c → C.blk id = some T → ∀ S K, T S K → Does P (.block id body) S K

theorem xdraw_ok (hC : CtxOK P C) {id : Nat} {ops : Array Oper} {S : VSt} {k : VSt → Prop} (h : xdrawT P C ops.toList S k) : Does P (.region id ops true) S fun e S' => e = .normal ∧ k S' := by
  intro env a w hR
  refine draw_wpT hC hR h fun env' a' w' S' hF hR' hk => ⟨by simp, env', S', hF, hR', rfl, hk⟩

theorem X_ok (hC : CtxOK P C) : ∀ (n : Nat) (c : Code) (S : VSt) (K : Exit → VSt → Prop), BlksOK P C c → X P C n c S K → Does P c S K
  | 0, _, _, _, _, h => h.elim
  | n + 1, c, S, K, hB, h => by
    have ih := X_ok hC n
    cases c with
    | skip => exact fun env a w hR => wp_skip ⟨by simp, env, S, Fr.refl _ _ _, hR, h⟩
    | label l => exact fun env a w hR => wp_label ⟨by simp, env, S, Fr.refl _ _ _, hR, h⟩
    | seq x y =>
      have hBx : BlksOK P C x := fun id body T hm => hB id body T (by simp [blksOf, hm])
      have hBy : BlksOK P C y := fun id body T hm => hB id body T (by simp [blksOf, hm])
      refine Does.seq ((ih x S _ hBx h).mono fun e S' hk => ?_)
      cases e with
      | normal => exact ih y S' K hBy hk
      | _ => exact hk
    | cond x t e =>
      have hBt : BlksOK P C t := fun id body T hm => hB id body T (by simp [blksOf, hm])
      have hBe : BlksOK P C e := fun id body T hm => hB id body T (by simp [blksOf, hm])
      simp only [X] at h
      split at h
      · rename_i b hb
        intro env a w hR
        have hb' := ev_of hR hb (by simp [unk])
        simp only [ren_bool] at hb'
        rcases bsplit_spec h with ⟨rfl, h⟩ | ⟨rfl, h⟩
        · exact wp_cond_true hb' (ih t S K hBt h env a w hR)
        · exact wp_cond_false hb' (ih e S K hBe h env a w hR)
      · exact h.elim
    | block id body =>
      simp only [X] at h
      split at h
      · rename_i T hT
        exact hB id body T (by simp [blksOf, hT]) hT S K h
      · rename_i hT
        have hBb : BlksOK P C body := fun id' body' T' hm => hB id' body' T' (by simp [blksOf, hT, hm])
        exact Does.block (ih body S _ hBb h)
    | loop body =>
      have hBb : BlksOK P C body := fun id' body' T' hm => hB id' body' T' (by simp [blksOf, hm])
      intro env a w hR
      refine wp_loop_rounds (n + 1) ?_
      have key : ∀ (m : Nat), m ≤ n + 1 → ∀ (S1 : VSt) (env1 : Nat → Loc) (a1 : Act) (w1 : World), X P C m (.loop body) S1 K → Fr env S.V w env1 S1.V w1 → Rep env1 S1 a1 w1 →
          Code.rounds P body (fun e a' w' => e ≠ .outgrown ∧ ∃ env' S', Fr env S.V w env' S'.V w' ∧ Rep env' S' a' w' ∧ K e S') m a1 w1 := by
        intro m
        induction m with
        | zero => intro _ S1 env1 a1 w1 h1 _ _; exact h1.elim
        | succ m ihm =>
          intro hm S1 env1 a1 w1 h1 hF1 hR1
          have hbody : Does P body S1 fun e S' => match e with | .normal => X P C m (.loop body) S' K | e => K e S' := by
            rcases Nat.lt_or_ge m n with hlt | hge
            · exact X_ok hC m body S1 _ hBb h1
            · have : m = n := by omega
              subst this
              exact ih body S1 _ hBb h1
          rw [rounds_succ]
          refine wp_mono (hbody env1 a1 w1 hR1) ?_
          rintro e a2 w2 ⟨hne, env2, S2, hF2, hR2, hK2⟩
          cases e with
          | normal => exact ihm (by omega) S2 env2 a2 w2 hK2 (hF1.trans hF2) hR2
          | exit i => exact ⟨hne, env2, S2, hF1.trans hF2, hR2, hK2⟩
          | goto l => exact ⟨hne, env2, S2, hF1.trans hF2, hR2, hK2⟩
          | ret => exact ⟨hne, env2, S2, hF1.trans hF2, hR2, hK2⟩
          | panic c => exact ⟨hne, env2, S2, hF1.trans hF2, hR2, hK2⟩
          | outgrown => exact absurd rfl hne
      exact key (n + 1) (Nat.le_refl _) S env a w h (Fr.refl _ _ _) hR
    | region id ops draw =>
      simp only [X] at h
      split at h
      · intro env a w hR
        refine wp_region_list ?_
        have := xops_ok hC ops.toList (Q := fun e a' w' => e ≠ .outgrown ∧ ∃ env' S', Fr env S.V w env' S'.V w' ∧ Rep env' S' a' w' ∧ K e S') ops.toList S env a w _ hR h
          (fun env' S' a' w' hF hR' hk => ⟨by simp, env', S', hF, hR', hk⟩)
        simpa using this
      · exact (xdraw_ok hC h).mono fun e S' ⟨he, hk⟩ => by subst he; exact hk
    | scope body =>
      have hBb : BlksOK P C body := fun id' body' T' hm => hB id' body' T' (by simp [blksOf, hm])
      intro env a w hR
      refine wp_scope_straight (wp_mono (ih body S _ hBb h env a w hR) ?_)
      rintro e a2 w2 ⟨hne, env2, S2, hF2, hR2, hK⟩
      cases e with
      | goto l => exact hK.elim
      | _ => exact ⟨hne, env2, S2, hF2, hR2, hK⟩
    | ret => exact fun env a w hR => wp_ret ⟨by simp, env, S, Fr.refl _ _ _, hR, h⟩
    | exit id => exact fun env a w hR => wp_exit ⟨by simp, env, S, Fr.refl _ _ _, hR, h⟩
    | _ => exact h.elim
end Go.X
