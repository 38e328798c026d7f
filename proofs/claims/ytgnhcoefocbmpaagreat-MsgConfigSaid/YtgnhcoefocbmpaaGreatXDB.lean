/- What the symbolic run says of the real one: regions that draw their order, in which an operation is run alone. -/
import Derived.Test.YtgnhcoefocbmpaaGreatXD3
set_option linter.unusedSimpArgs false
set_option linter.unusedSectionVars false
set_option linter.unusedVariables false
namespace Go.X
open Go
variable [WI] [WD]
variable {P : Program} {C : Ctx}

theorem deadTE_apply (S : VSt) : deadTE.apply S = S := by unfold TE.apply deadTE; simp

def nextP (P : Program) (o : Oper) (p : Nat) : Nat := match allocOf P o with | some _ => p + 1 | none => p

/-- what one operation of the text does -/
def OStep (P : Program) (C : Ctx) (all : List Oper) (p : Nat) (S : VSt) (o : Oper) (e : TE) : Prop :=
  (allocOf P o = none → EStep P C all S o e) ∧ (allocOf P o ≠ none → e = allocE o p)

/-- a run in the text's order of some of the operations -/
def PathS (P : Program) (C : Ctx) (all : List Oper) (pre : Nat → Bool) : List Oper → Nat → Nat → VSt → List TE → VSt → Prop
  | [], _, _, S, es, Sn => es = [] ∧ Sn = S
  | o :: os, i, p, S, es, Sn => ∃ e es', es = e :: es' ∧ ((pre i = true ∧ OStep P C all p S o e) ∨ (pre i = false ∧ e = deadTE)) ∧ PathS P C all pre os (i + 1) (nextP P o p) (e.apply S) es' Sn

def plAfter (P : Program) : List Oper → Nat → Nat
  | [], p => p
  | o :: os, p => plAfter P os (nextP P o p)

theorem PathS.congr {all : List Oper} {pre pre' : Nat → Bool} : ∀ (os : List Oper) (i p : Nat) (S : VSt) (es : List TE) (Sn : VSt), (∀ j, i ≤ j → j < i + os.length → pre j = pre' j) → PathS P C all pre os i p S es Sn → PathS P C all pre' os i p S es Sn
  | [], _, _, _, _, _, _, h => h
  | o :: os, i, p, S, es, Sn, hp, h => by
    obtain ⟨e, es', rfl, h1, h2⟩ := h
    have := hp i (Nat.le_refl _) (by simp)
    exact ⟨e, es', rfl, by rw [← this]; exact h1, PathS.congr os (i + 1) _ _ _ _ (fun j h1 h2 => hp j (by omega) (by simp at h2 ⊢; omega)) h2⟩

theorem PathS.app {all : List Oper} {pre : Nat → Bool} : ∀ (os : List Oper) (i p : Nat) (S : VSt) (es : List TE) (S1 : VSt) (os2 : List Oper) (es2 : List TE) (S2 : VSt), PathS P C all pre os i p S es S1 → PathS P C all pre os2 (i + os.length) (plAfter P os p) S1 es2 S2 →
    PathS P C all pre (os ++ os2) i p S (es ++ es2) S2
  | [], i, p, S, es, S1, os2, es2, S2, h, h' => by obtain ⟨rfl, rfl⟩ := h; simpa [plAfter] using h'
  | o :: os, i, p, S, es, S1, os2, es2, S2, h, h' => by
    obtain ⟨e, es', rfl, h1, h2⟩ := h
    exact ⟨e, es' ++ es2, rfl, h1, PathS.app os (i + 1) _ _ _ _ _ _ _ h2 (by rw [show i + 1 + os.length = i + (o :: os).length by simp; omega]; exact h')⟩

theorem PathS.lens {all : List Oper} {pre : Nat → Bool} : ∀ (os : List Oper) (i p : Nat) (S : VSt) (es : List TE) (Sn : VSt), PathS P C all pre os i p S es Sn →
    os.length = es.length ∧ (∀ (j : Nat) (e : TE) (b : Nat) (o : VObj), es[j]? = some e → e.st = some (b, o) → e.rd = some none ∨ e.rd = some (some b)) ∧
      ∀ (j : Nat) (e : TE), es[j]? = some e → pre (i + j) = false → e = deadTE
  | [], i, p, S, es, Sn, h => by obtain ⟨rfl, _⟩ := h; exact ⟨rfl, fun j e b o h => by simp at h, fun j e h => by simp at h⟩
  | o :: os, i, p, S, es, Sn, h => by
    obtain ⟨e, es', rfl, hs, hp⟩ := h
    obtain ⟨h1, h2, h3⟩ := PathS.lens os (i + 1) _ _ _ _ hp
    refine ⟨by simp [h1], fun j e' b o' hj hst => ?_, fun j e' hj hpre => ?_⟩
    · cases j with
      | zero =>
        simp at hj; subst hj
        rcases hs with ⟨_, hs⟩ | ⟨_, rfl⟩
        · cases hal : allocOf P o with
          | none => exact (hs.1 hal).st_rd hst
          | some tc => rw [hs.2 (by rw [hal]; simp)] at hst; cases hst
        · cases hst
      | succ j => exact h2 j e' b o' (by simpa using hj) hst
    · cases j with
      | zero =>
        simp at hj; subst hj
        rcases hs with ⟨ht, _⟩ | ⟨_, rfl⟩
        · rw [Nat.add_zero, ht] at hpre; cases hpre
        · rfl
      | succ j => exact h3 j e' (by simpa using hj) (by rw [show i + 1 + j = i + (j + 1) by omega]; exact hpre)

theorem allocPl_cons (o : Oper) (os : List Oper) (i p : Nat) : ∀ x, x ∈ allocPl P (o :: os) i p ↔ (allocOf P o ≠ none ∧ x = (i, p)) ∨ x ∈ allocPl P os (i + 1) (nextP P o p) := by
  intro x
  unfold nextP
  rw [allocPl]
  cases allocOf P o <;> simp

/-- the states of the path are those in which the operations ahead have been run -/
theorem PathS.states {ops : Array Oper} {tr : List TE} {S0 : VSt} {pre : Nat → Bool} {AL : List (Nat × Nat)} (hT : Tr ops tr S0.tmps.length S0.V.length)
    (hst : ∀ (j : Nat) (e : TE) (b : Nat) (o : VObj), tr[j]? = some e → e.st = some (b, o) → e.rd = some none ∨ e.rd = some (some b)) :
    ∀ (os : List Oper) (n p : Nat) (S : VSt) (es : List TE) (Sn : VSt), (∀ x ∈ allocPl P os n p, pre x.1 = true → x ∈ AL) → (∀ j, os[j]? = ops[n + j]?) → (∀ j, es[j]? = tr[n + j]?) → IsL tr S0 (fun j => Nat.blt j n) S → PathS P C ops.toList pre os n p S es Sn →
      (∀ (i : Nat) (o : Oper) (e : TE), n ≤ i → pre i = true → ops[i]? = some o → tr[i]? = some e → ∃ Si, IsL tr S0 (fun j => Nat.blt j i) Si ∧ (allocOf P o = none → EStep P C ops.toList Si o e) ∧ (allocOf P o ≠ none → ∃ q, (i, q) ∈ AL ∧ e = allocE o q)) ∧ IsL tr S0 (fun j => Nat.blt j (n + os.length)) Sn
  | [], n, p, S, es, Sn, _, ho, he, hS, h => by
    obtain ⟨rfl, rfl⟩ := h
    refine ⟨fun i o e hi _ hoi _ => ?_, by simpa using hS⟩
    have := ho (i - n)
    rw [show n + (i - n) = i by omega, hoi] at this
    simp at this
  | o :: os, n, p, S, es, Sn, hal, ho, he, hS, h => by
    obtain ⟨e, es', rfl, hs, hp⟩ := h
    have htr : tr[n]? = some e := by simpa using (he 0).symm
    have hop : ops[n]? = some o := by simpa using (ho 0).symm
    have hnn : Nat.blt n n = false := by
      cases hb : Nat.blt n n with
      | false => rfl
      | true => rw [Nat.blt_eq] at hb; omega
    have hstep : IsL tr S0 (fun j => Nat.blt j (n + 1)) (e.apply S) := hS.step hT htr hnn hst (fun _ j ej hj _ _ => by
      cases hb : Nat.blt j n with
      | false => rfl
      | true => rw [Nat.blt_eq] at hb; omega) (fun j => by
      rw [Bool.eq_iff_iff]
      simp only [Nat.blt_eq, Bool.or_eq_true]
      constructor
      · intro hj
        rcases Nat.lt_or_ge j n with h | h
        · exact .inl h
        · right; have : j = n := by omega
          subst this; exact Nat.beq_refl _
      · rintro (h | h)
        · omega
        · have := Nat.eq_of_beq_eq_true h; omega)
    obtain ⟨h1, h2⟩ := PathS.states hT hst os (n + 1) _ _ es' Sn (fun x hx hpx => hal x ((allocPl_cons o os n p x).2 (.inr hx)) hpx) (fun j => by have := ho (j + 1); simpa [Nat.add_assoc, Nat.add_comm 1 j] using this)
      (fun j => by have := he (j + 1); simpa [Nat.add_assoc, Nat.add_comm 1 j] using this) hstep hp
    refine ⟨fun i oi ei hi hpi hoi hei => ?_, by simpa [Nat.add_assoc, Nat.add_comm 1] using h2⟩
    by_cases hin : i = n
    · subst hin
      rw [hop] at hoi; cases hoi
      rw [htr] at hei; cases hei
      rcases hs with ⟨_, hs⟩ | ⟨hf, _⟩
      · exact ⟨S, hS, hs.1, fun hne => ⟨p, hal _ ((allocPl_cons o os i p _).2 (.inl ⟨hne, rfl⟩)) hpi, hs.2 hne⟩⟩
      · rw [hpi] at hf; cases hf
    · exact h1 i oi ei (by omega) hpi hoi hei

def downC (ops : Array Oper) (listed : Array Bool) : Prop := ∀ j o, ops[j]? = some o → listed.getD j false = true → ∀ e ∈ o.after, Region.binds .any e = true → listed.getD e.on false = true

/-- some of the operations, in any order that the edges allow -/
theorem phase (hC : CtxOK P C) {env : Nat → Loc} {w : World} {V0 : VW} {ops : Array Oper} {S0 : VSt} {tr : List TE} {Q : Exit → Act → World → Prop} (P0 pre : Nat → Bool) {al : List (Nat × Nat)} (hT : Tr ops tr S0.tmps.length S0.V.length)
    (hst : ∀ (j : Nat) (e : TE) (b : Nat) (o : VObj), tr[j]? = some e → e.st = some (b, o) → e.rd = some none ∨ e.rd = some (some b))
    (hstates : ∀ (i : Nat) (o : Oper) (e : TE), pre i = true → ops[i]? = some o → tr[i]? = some e → ∃ Si, IsL tr S0 (fun j => Nat.blt j i) Si ∧ (allocOf P o = none → EStep P C ops.toList Si o e) ∧ (allocOf P o ≠ none → ∃ q, (i, q) ∈ al ∧ e = allocE o q))
    (hsp : ∀ x ∈ al, ∃ j o t c, x.1 = j ∧ ops.toList[j]? = some o ∧ allocOf P o = some (t, c) ∧ V0.length ≤ x.2 ∧ S0.V[x.2]? = some (.cells t c) ∧ x.2 < S0.V.length)
    (hinj : ∀ x ∈ al, ∀ y ∈ al, (x.1 = y.1 ↔ x.2 = y.2))
    (hap : ∀ x ∈ al, ∀ (j : Nat) (e : TE), tr[j]? = some e → j = x.1 ∨ Reach ops j x.1 ∨ ApartE x.2 e)
    (hfT : ∀ x ∈ al, ∀ t, FreeV x.2 (nth undef S0.tmps t)) (hfV : ∀ x ∈ al, ∀ (b : Nat) (ob : VObj), S0.V[b]? = some ob → FreeO x.2 ob)
    (hbar : ∀ (fuel : Nat) (listed : Array Bool) (env1 : Nat → Loc) (a1 : Act) (w1 : World) (S1 : VSt) (i : Nat), listed.size = ops.size → listed.toList.count false = fuel + 1 → downC ops listed → IsL tr S0 (fun j => listed.getD j false) S1 → Rep env1 ⟨S1.tmps, maskV (fun j => listed.getD j false) al S1.V⟩ a1 w1 → Fr env V0 w env1 (maskV (fun j => listed.getD j false) al S1.V) w1 →
      i ∈ Region.ready .any ops listed → pre i = false → (∀ j, listed.getD j false = true → P0 j = true ∨ pre j = true) → (∀ j, j < ops.size → P0 j = true → listed.getD j false = true) → wpOp P ops Q i (wpAny P .any ops Q fuel (listed.setIfInBounds i true)) a1 w1)
    (hend : ∀ (listed : Array Bool) (env1 : Nat → Loc) (a1 : Act) (w1 : World) (S1 : VSt), (∀ j, j < ops.size → listed.getD j false = true) → IsL tr S0 (fun j => listed.getD j false) S1 → Rep env1 ⟨S1.tmps, maskV (fun j => listed.getD j false) al S1.V⟩ a1 w1 → Fr env V0 w env1 (maskV (fun j => listed.getD j false) al S1.V) w1 →
      (∀ j, listed.getD j false = true → P0 j = true ∨ pre j = true) → Q .normal a1 w1) :
    ∀ (fuel : Nat) (listed : Array Bool) (env1 : Nat → Loc) (a1 : Act) (w1 : World) (S1 : VSt), listed.size = ops.size → listed.toList.count false = fuel → downC ops listed → IsL tr S0 (fun j => listed.getD j false) S1 → Rep env1 ⟨S1.tmps, maskV (fun j => listed.getD j false) al S1.V⟩ a1 w1 → Fr env V0 w env1 (maskV (fun j => listed.getD j false) al S1.V) w1 →
      (∀ j, listed.getD j false = true → P0 j = true ∨ pre j = true) → (∀ j, j < ops.size → P0 j = true → listed.getD j false = true) → wpAny P .any ops Q fuel listed a1 w1 := by
  intro fuel
  induction fuel with
  | zero =>
    intro listed env1 a1 w1 S1 hsz hcnt hdc hS1 hR1 hF1 hin hP
    have hall : ∀ j, j < ops.size → listed.getD j false = true := by
      intro j hj
      have hj' : j < listed.size := by omega
      have hnot : false ∉ listed.toList := List.count_eq_zero.1 hcnt
      have : listed[j] ≠ false := fun hf => hnot (by rw [← hf]; simp)
      simp [hj', this]
    have hready : Region.ready .any ops listed = [] := by
      rw [List.eq_nil_iff_forall_not_mem]
      intro j hj
      obtain ⟨hun, o, ho, _⟩ := mem_ready.1 hj
      have hlt := (Array.getElem?_eq_some_iff.1 ho).1
      have := hall j hlt
      have hj' : j < listed.size := by omega
      simp [hj'] at this hun
      simp [this] at hun
    exact ⟨hready, hend listed env1 a1 w1 S1 hall hS1 hR1 hF1 hin⟩
  | succ fuel ih =>
    intro listed env1 a1 w1 S1 hsz hcnt hdc hS1 hR1 hF1 hin hP
    refine ⟨fun hready => ?_, fun i hi => ?_⟩
    · exfalso
      have hex : ∃ j, j < ops.size ∧ listed.getD j true = false := by
        have hmem : false ∈ listed.toList := List.count_pos_iff.1 (by omega)
        obtain ⟨j, hj, he⟩ := List.getElem_of_mem hmem
        have hj' : j < listed.size := by simpa using hj
        refine ⟨j, by omega, ?_⟩
        have : listed[j] = false := by simpa using he
        simp [hj', this]
      obtain ⟨j, hj, hun⟩ := hex
      have key : ∀ (n j : Nat), j < n → j < ops.size → listed.getD j true = false → False := by
        intro n
        induction n with
        | zero => intro j hj; omega
        | succ n ihn =>
          intro j hjn hj hun
          have ho : ops[j]? = some ops[j] := by simp [hj]
          by_cases hp : ∀ e ∈ ops[j].after, Region.binds .any e = true → listed.getD e.on false = true
          · have : j ∈ Region.ready .any ops listed := mem_ready.2 ⟨hun, ops[j], ho, hp⟩
            rw [hready] at this; cases this
          · have : ∃ e ∈ ops[j].after, Region.binds .any e = true ∧ listed.getD e.on false = false := by
              refine Classical.byContradiction fun hno => hp fun e he hb => ?_
              cases hl : listed.getD e.on false with
              | true => rfl
              | false => exact absurd ⟨e, he, hb, hl⟩ hno
            obtain ⟨e, he, hb, hl⟩ := this
            have hlt := hT.edges j ops[j] ho e he hb
            refine ihn e.on (by omega) (by omega) ?_
            have hs : e.on < listed.size := by omega
            simp [hs] at hl ⊢
            exact hl
      exact key (j + 1) j (by omega) hj hun
    · cases hpre' : pre i with
      | false => exact hbar fuel listed env1 a1 w1 S1 i hsz hcnt hdc hS1 hR1 hF1 hi hpre' hin hP
      | true =>
      obtain ⟨hun, o, ho, hpre⟩ := mem_ready.1 hi
      have hilt := (Array.getElem?_eq_some_iff.1 ho).1
      have hitr : i < tr.length := by rw [hT.size]; exact hilt
      obtain ⟨e, he⟩ : ∃ e, tr[i]? = some e := ⟨tr[i], by simp [hitr]⟩
      obtain ⟨Si, hSi, hstepN, hstepA⟩ := hstates i o e hpre' ho he
      have hunf : listed.getD i false = false := by
        have : i < listed.size := by omega
        simp [this] at hun ⊢; exact hun
      -- what is reached from i is listed; what reaches i is not
      have reachL : ∀ {x y : Nat}, Reach ops x y → (∀ o', ops[x]? = some o' → ∀ e ∈ o'.after, Region.binds .any e = true → listed.getD e.on false = true) → listed.getD y false = true := by
        intro x y hr
        induction hr with
        | edge ho' he' hb => intro hp; exact hp _ ho' _ he' hb
        | trans h1 h2 ih1 ih2 => intro hp; exact ih2 fun o' ho' => hdc _ o' ho' (ih1 hp)
      have hprei : ∀ o', ops[i]? = some o' → ∀ e ∈ o'.after, Region.binds .any e = true → listed.getD e.on false = true := by
        intro o' ho'; rw [ho] at ho'; cases ho'; exact hpre
      have reach1 : ∀ {j : Nat}, Reach ops i j → listed.getD j false = true := fun h => reachL h hprei
      have reach2 : ∀ {j : Nat}, Reach ops j i → listed.getD j false = false := by
        intro j hr
        cases hl : listed.getD j false with
        | false => rfl
        | true =>
          have := reachL hr (fun o' ho' => hdc j o' ho' hl)
          rw [hunf] at this; cases this
      have tmp_eq : ∀ t ∈ o.looksAt ops, nth undef Si.tmps t = nth undef S1.tmps t := by
        intro t ht
        by_cases hw : ∃ j ej, tr[j]? = some ej ∧ ej.dst = some t ∧ i ≠ j
        · obtain ⟨j, ej, hj, hd, hij⟩ := hw
          have uniq : ∀ j' ej', tr[j']? = some ej' → ej'.dst = some t → j' = j := by
            intro j' ej' hj' hd'
            refine Classical.byContradiction fun hne => ?_
            exact hT.apart j' j ej' ej t hj' hj hne hd hd'
          rcases hT.looks i j o e ej t ho he hj hij hd ht with ⟨hlt, hr⟩ | ⟨hlt, hr⟩
          · rw [hSi.done j ej t hj (bltI hlt) hd, hS1.done j ej t hj (reach1 hr) hd]
          · rw [hSi.same t fun j' ej' hj' hL hd' => ?_, hS1.same t fun j' ej' hj' hL hd' => ?_]
            · have := uniq j' ej' hj' hd'; subst this
              (try dsimp only at hL)
              rw [reach2 hr] at hL; cases hL
            · have := uniq j' ej' hj' hd'; subst this
              have := bltE hL; omega
        · have only : ∀ j' ej', tr[j']? = some ej' → ej'.dst = some t → j' = i := by
            intro j' ej' hj' hd'
            refine Classical.byContradiction fun hne => hw ⟨j', ej', hj', hd', fun h => hne h.symm⟩
          rw [hSi.same t fun j' ej' hj' hL hd' => ?_, hS1.same t fun j' ej' hj' hL hd' => ?_]
          · have := only j' ej' hj' hd'; subst this
            (try dsimp only at hL)
            rw [hunf] at hL; cases hL
          · have := only j' ej' hj' hd'; subst this
            have := bltE hL; omega
      -- the new places: as many in both, or not looked at
      have newSame : (∀ (j : Nat) (ej : TE), tr[j]? = some ej → ej.nw ≠ [] → i = j ∨ (j < i ∧ Reach ops i j) ∨ (i < j ∧ Reach ops j i)) → newObjs tr (fun j => Nat.blt j i) = newObjs tr (fun j => listed.getD j false) := by
        intro hall
        refine newObjs_congr' fun j ej hj hne => ?_
        rcases hall j ej hj hne with rfl | ⟨hlt, hr⟩ | ⟨hlt, hr⟩
        · have : Nat.blt i i = false := by
            cases hb : Nat.blt i i with
            | false => rfl
            | true => have := bltE hb; omega
          rw [this, hunf]
        · rw [bltI hlt, reach1 hr]
        · have : Nat.blt j i = false := by
            cases hb : Nat.blt j i with
            | false => rfl
            | true => have := bltE hb; omega
          rw [this, reach2 hr]
      have mem_eqN : ∀ b, S0.V.length ≤ b → newObjs tr (fun j => Nat.blt j i) = newObjs tr (fun j => listed.getD j false) → Si.V[b]? = S1.V[b]? := by
        intro b hb hn
        rw [hSi.newV b hb, hS1.newV b hb, hn]
      have mem_eqO : ∀ b, b < S0.V.length → (e.rd = some none ∨ e.rd = some (some b)) → Si.V[b]? = S1.V[b]? := by
        intro b hbl hrd
        have late : ∀ j ej ob, tr[j]? = some ej → ej.st = some (b, ob) → j ≠ i → listed.getD j false = false ∧ ¬ j < i := by
          intro j ej ob hj hs hji
          obtain ⟨h1, h2⟩ := hT.mem i j e ej b ob he hj (Ne.symm hji) hs hrd
          exact ⟨reach2 h2, by omega⟩
        rw [hSi.sameV b hbl fun j ej ob hj hL hs => ?_, hS1.sameV b hbl fun j ej ob hj hL hs => ?_]
        · by_cases hji : j = i
          · subst hji; (try dsimp only at hL); rw [hunf] at hL; cases hL
          · (try dsimp only at hL); rw [(late j ej ob hj hs hji).1] at hL; cases hL
        · by_cases hji : j = i
          · subst hji; have := bltE hL; omega
          · exact (late j ej ob hj hs hji).2 (bltE hL)
      -- where it stands to the one that makes new places
      have hside := hT.new i e he
      have hscope : S0.V.length ≤ S1.V.length ∧ (Si.V.length = S1.V.length ∨ (scB S0.V.length 6 e.v = true ∧ (∀ b t c, e.st = some (b, .cells t c) → c.all (scB S0.V.length 6) = true) ∧ e.nw = [] ∧ ∀ b t m n cap f hs, e.st = some (b, .raw t m n cap f hs) → holesOk S0.V.length hs = true)) := by
        refine ⟨by rw [hS1.lenV]; omega, ?_⟩
        rcases hside with h1 | ⟨h1, _, h2, h3, h4⟩
        · left; rw [hSi.lenV, hS1.lenV, newSame h1]
        · exact .inr ⟨h2, h3, h1, h4⟩
      have mem_eq : ∀ b, (e.rd = some none ∨ e.rd = some (some b)) → Si.V[b]? = S1.V[b]? := by
        intro b hrd
        by_cases hbl : b < S0.V.length
        · exact mem_eqO b hbl hrd
        · refine mem_eqN b (by omega) ?_
          rcases hside with h1 | ⟨_, h1, _⟩
          · exact newSame h1
          · exfalso
            unfold rdIn at h1
            rcases hrd with hrd | hrd
            · rw [hrd] at h1; exact h1
            · rw [hrd] at h1; exact hbl h1
      have hguard : ∀ {j : Nat} {want : Bool} {g : Tmp}, o.guard = some (j, want) → guardTmp ops.toList j = some g → g ∈ o.looksAt ops := by
        intro j want g hg hgt
        unfold Oper.looksAt
        simp [hg, guardTmp_list hgt]
      have hstep1 : allocOf P o = none → EStep P C ops.toList S1 o e := by
        intro hna
        have hstep := hstepN hna
        rcases hstep with ⟨hw, hruns⟩ | ⟨hsk, rfl⟩
        · left
          refine ⟨?_, ?_⟩
          · rcases hw with hg | ⟨j, want, g, hg, hgt, hv⟩
            · exact .inl hg
            · exact .inr ⟨j, want, g, hg, hgt, by rw [← tmp_eq g (hguard hg hgt)]; exact hv⟩
          · by_cases hpure : ∃ f args g v, xop P Si o.op = .call f args ∧ C.fn f = some g ∧ Gives (g args []) v ∧ (∀ x ∈ args, Sc 0 x) ∧ Sc 0 v ∧ e = ⟨o.dst, v, none, none, []⟩
            · obtain ⟨f, args, g, v, q1, q2, q3, q4, q5, q6⟩ := hpure
              have hops : ∀ x ∈ o.op.operands, ev Si x = ev S1 x := by
                intro x hx
                cases x with
                | tmp t =>
                  refine tmp_eq t ?_
                  unfold Oper.looksAt
                  refine List.mem_append_left _ (List.mem_filterMap.2 ⟨.tmp t, by simpa using hx, rfl⟩)
                | _ => rfl
              exact .inr (.inr (.inr (.inr (.inr (.inr (.inr (.inl ⟨f, args, g, v, xop_call_congr hops q1, q2, q3, q4, q5, q6⟩)))))))
            have hrd : e.rd = mrd Si o.op := by
              rcases or_assoc7 hruns with hruns | hp | hr
              · rcases hruns with ⟨v, _, _, rfl⟩ | ⟨_, _, _, _, _, _, rfl⟩ | ⟨_, _, _, _, rfl⟩ | ⟨_, _, _, _, _, _, rfl⟩ | ⟨_, _, _, _, _, rfl⟩ | ⟨_, _, _, _, _, _, _, rfl⟩ | ⟨_, _, _, _, _, _, _, rfl⟩ <;> rfl
              · exact absurd hp hpure
              · rcases hr with ⟨_, _, _, _, _, _, _, _, _, _, _, _, _, _, _, rfl⟩ | ⟨_, _, _, _, _, _, _, rfl⟩ | ⟨_, _, _, _, rfl⟩ | ⟨_, _, _, _, _, _, _, rfl⟩ <;> rfl
            have hops : ∀ x ∈ o.op.operands, ev Si x = ev S1 x := by
              intro x hx
              cases x with
              | tmp t =>
                refine tmp_eq t ?_
                unfold Oper.looksAt
                refine List.mem_append_left _ (List.mem_filterMap.2 ⟨.tmp t, by simpa using hx, rfl⟩)
              | _ => rfl
            have hmem : ∀ r, mrd Si o.op = some r → match r with | none => Si.V = S1.V | some b => Si.V[b]? = S1.V[b]? := by
              intro r hr
              cases r with
              | none => exact List.ext_getElem? fun b => mem_eq b (.inl (hrd.trans hr))
              | some b => exact mem_eq b (.inr (hrd.trans hr))
            obtain ⟨hx, hm'⟩ := xval_congr (P := P) (C := C) hops hmem
            have hxr := xraw_congr (P := P) hops hmem
            obtain ⟨hxop, _⟩ := xop_congr (P := P) hops hmem
            obtain ⟨hle, hlens⟩ := hscope
            rcases or_assoc7 hruns with hruns | hp | hr
            rotate_left
            · exact absurd hp hpure
            · refine .inr (.inr (.inr (.inr (.inr (.inr (.inr (.inr ?_)))))))
              have hscO : ∀ {b : Nat} {ob : VObj} {d : Option Tmp} {v : Value} {rd : Option (Option Nat)}, e = ⟨d, v, some (b, ob), rd, []⟩ → (∃ t m n cap f hs, ob = .raw t m n cap f hs) → ScO Si.V.length ob → ScO S1.V.length ob := by
                intro b ob d v rd he' ⟨t, m, n, cap, f, hs, hob⟩ hsc
                rcases hlens with hl | ⟨_, _, _, h4⟩
                · exact hl ▸ hsc
                · subst hob
                  subst he'
                  have hk := h4 b t m n cap f hs rfl
                  intro x hx y hy
                  have h5 := List.all_eq_true.1 (List.all_eq_true.1 hk x hx) y hy
                  rw [Bool.and_eq_true] at h5
                  exact ⟨(scB_ok 6 y h5.1).mono hle, h5.2⟩
              rcases hr with ⟨q, i', r, c, own, t, m, n, cap, f, hx1, hq, hd, hV, hsc, rfl⟩ | ⟨q, i', ob, hx1, hq, hd, hsc, rfl⟩ | ⟨ob, n, hx1, hsc, rfl⟩ | ⟨q, i', ob, n, hx1, hq, hsc, rfl⟩
              · exact .inl ⟨q, i', r, c, own, t, m, n, cap, f, hxop ▸ hx1, hq, hd, by rw [← mem_eq i' (.inr (sob_facts hx1))]; exact hV, hsc, by rw [hm']⟩
              · exact .inr (.inl ⟨q, i', ob, hxr ▸ hx1, hq, hd, hscO rfl (rawsto_kind hx1) hsc, by rw [hm']⟩)
              · rcases hlens with hl | ⟨_, _, h3, _⟩
                · exact .inr (.inr (.inl ⟨ob, n, hxr ▸ hx1, hl ▸ hsc, by rw [hm', hl]⟩))
                · cases h3
              · rcases hlens with hl | ⟨_, _, h3, _⟩
                · exact .inr (.inr (.inr ⟨q, i', ob, n, hxr ▸ hx1, hq, hl ▸ hsc, by rw [hm', hl]⟩))
                · cases h3
            rcases hruns with ⟨v, hg, hs, rfl⟩ | ⟨i', t, c, hxx, hd, hsc, rfl⟩ | ⟨t, c, hxx, hsc, rfl⟩ | ⟨p, os, v, hxx, hp, hs, rfl⟩ | ⟨t, m, rows, hxx, hsc, rfl⟩ | ⟨p, i', ob, v, hxx, hp, hs, rfl⟩ | ⟨p, i', ob, v, hxx, hp, hs, rfl⟩
            · refine .inl ⟨v, hx ▸ hg, ?_, by rw [hm']⟩
              rcases hlens with hl | ⟨h1, _, _, _⟩
              · exact hl ▸ hs
              · exact (scB_ok 6 v h1).mono hle
            · refine .inr (.inl ⟨i', t, c, hx ▸ hxx, hd, ?_, by rw [hm']⟩)
              rcases hlens with hl | ⟨_, h2, _, _⟩
              · exact fun x hxc => hl ▸ hsc x hxc
              · exact fun x hxc => (scB_ok 6 x (List.all_eq_true.1 (h2 i' t c rfl) x hxc)).mono hle
            · rcases hlens with hl | ⟨_, _, h3, _⟩
              · exact .inr (.inr (.inl ⟨t, c, hx ▸ hxx, fun x hxc => hl ▸ hsc x hxc, by rw [hm', hl]⟩))
              · cases h3
            · rcases hlens with hl | ⟨h1, _, h3, _⟩
              · exact .inr (.inr (.inr (.inl ⟨p, os, v, hx ▸ hxx, hp, by rw [List.length_append, ← hl, ← List.length_append]; exact hs, by rw [hm']⟩)))
              · dsimp only at h3
                subst h3
                exact .inr (.inr (.inr (.inl ⟨p, [], v, hx ▸ hxx, hp, by rw [List.append_nil]; exact (scB_ok 6 v h1).mono hle, by rw [hm']⟩)))
            · rcases hlens with hl | ⟨_, _, h3, _⟩
              · exact .inr (.inr (.inr (.inr (.inl ⟨t, m, rows, hx ▸ hxx, hsc, by rw [hm', hl]⟩))))
              · cases h3
            · rcases hlens with hl | ⟨_, _, h3, _⟩
              · exact .inr (.inr (.inr (.inr (.inr (.inl ⟨p, i', ob, v, hx ▸ hxx, hp, hl ▸ hs, by rw [hm', hl]⟩)))))
              · cases h3
            · refine .inr (.inr (.inr (.inr (.inr (.inr (.inl ⟨p, i', ob, v, hx ▸ hxx, hp, ?_, by rw [hm']⟩))))))
              rcases hlens with hl | ⟨h1, _, _, _⟩
              · exact hl ▸ hs
              · exact (scB_ok 6 v h1).mono hle
        · right
          obtain ⟨j, want, g, hg, hgt, hv⟩ := hsk
          exact ⟨⟨j, want, g, hg, hgt, by rw [← tmp_eq g (hguard hg hgt)]; exact hv⟩, rfl⟩
      have hlt : ∀ x ∈ al, x.2 < S1.V.length := fun x hx => by
        obtain ⟨_, _, _, _, _, _, _, _, _, h1⟩ := hsp x hx
        rw [hS1.lenV]; omega
      have hget : ∀ j, (listed.setIfInBounds i true).getD j false = (listed.getD j false || Nat.beq j i) := by
        intro j
        have his : i < listed.size := by omega
        by_cases hji : j = i
        · subst hji
          rw [Nat.beq_refl]
          simp [his]
        · have : Nat.beq j i = false := by
            cases hb : Nat.beq j i with
            | false => rfl
            | true => exact absurd (Nat.eq_of_beq_eq_true hb) hji
          rw [this, Bool.or_false, getD_set_ne false (Ne.symm hji)]
      -- behind it
      have hcont : ∀ env' a' w', Fr env V0 w env' (maskV (fun j => (listed.setIfInBounds i true).getD j false) al (e.apply S1).V) w' → Rep env' ⟨(e.apply S1).tmps, maskV (fun j => (listed.setIfInBounds i true).getD j false) al (e.apply S1).V⟩ a' w' → wpAny P .any ops Q fuel (listed.setIfInBounds i true) a' w' := by
        intro env' a' w' hF' hR'
        refine ih _ env' a' w' _ (by simp [hsz]) ?_ ?_ (hS1.step hT he hunf hst (fun hne j ej hlt hj hne' => by
          rcases hside with h1 | ⟨h1, _⟩
          · rcases h1 j ej hj hne' with h1 | ⟨h1, _⟩ | ⟨_, h2⟩
            · omega
            · omega
            · exact reach2 h2
          · exact absurd h1 hne) hget) hR' hF' (fun j hL => by
          rw [hget] at hL
          simp only [Bool.or_eq_true] at hL
          rcases hL with hL | hL
          · exact hin j hL
          · have := Nat.eq_of_beq_eq_true hL; subst this; exact .inr hpre') (fun j hj hp => by
          rw [hget, hP j hj hp]; rfl)
        · have his : i < listed.toList.length := by simp; omega
          have hv : listed.toList[i] = false := by
            have : i < listed.size := by omega
            simp [this] at hunf
            simpa using hunf
          rw [Array.toList_setIfInBounds]
          have : (listed.toList.set i true).count false = listed.toList.count false - 1 := by
            rw [List.count_set his]
            simp [hv]
          rw [this, hcnt]; omega
        · intro j o' ho' hL e' he' hb
          rw [hget] at hL
          rw [hget]
          simp only [Bool.or_eq_true] at hL ⊢
          rcases hL with hL | hL
          · exact .inl (hdc j o' ho' hL e' he' hb)
          · have := Nat.eq_of_beq_eq_true hL
            subst this
            exact .inl (hprei o' ho' e' he' hb)
      unfold wpOp
      simp only [ho]
      by_cases hna : allocOf P o = none
      · -- no variable is made
        have hnot : ∀ x ∈ al, x.1 ≠ i := fun x hx e' => by
          obtain ⟨j, o', t, c, h1, h2, h3, _⟩ := hsp x hx
          rw [← h1, e'] at h2
          have : ops[i]? = some o' := by simpa using h2
          rw [ho] at this; cases this
          rw [hna] at h3; cases h3
        have hapt : ∀ x ∈ al, listed.getD x.1 false = false → ApartE x.2 e := fun x hx hl => by
          rcases hap x hx i e he with h1 | h1 | h1
          · exact absurd h1.symm (hnot x hx)
          · rw [reach1 h1] at hl; cases hl
          · exact h1
        have hL' : ∀ x ∈ al, (listed.setIfInBounds i true).getD x.1 false = listed.getD x.1 false := fun x hx => by
          rw [hget, beq_ne (hnot x hx), Bool.or_false]
        have hcomm := mask_apply (L := fun j => listed.getD j false) (L' := fun j => (listed.setIfInBounds i true).getD j false) (al := al) (S := S1) (e := e) hL' hlt (fun b ob hs x hx hb => by
          cases hl : listed.getD x.1 false with
          | true => rfl
          | false => exact absurd hb.symm ((hapt x hx hl).st b ob hs).1)
        rcases hstep1 hna with ⟨hw, hruns⟩ | ⟨hsk, he'⟩
        · have hw1 : Wants ops.toList ⟨S1.tmps, maskV (fun j => listed.getD j false) al S1.V⟩ o := hw
          rw [if_pos (wants_wanted hR1 hw1)]
          have hruns1 : Runs P C ⟨S1.tmps, maskV (fun j => listed.getD j false) al S1.V⟩ o e := hruns.congr rfl (maskV_len _ al _).symm (fun r hr => by
            have hno : ∀ b, (r = none ∨ r = some b) → (maskV (fun j => listed.getD j false) al S1.V)[b]? = S1.V[b]? := fun b hrb => maskV_ne _ al _ b fun x hx hb => by
              cases hl : listed.getD x.1 false with
              | true => rfl
              | false =>
                have h1 := (hapt x hx hl).rd
                rcases hrb with rfl | rfl
                · exact absurd hr h1.1
                · exact absurd (hb ▸ hr) h1.2
            cases r with
            | none => exact List.ext_getElem? fun b => (hno b (.inl rfl)).symm
            | some b => exact (hno b (.inr rfl)).symm)
          refine .inl (runs_wp hC hR1 hruns1 fun env' a' w' hF' hR' => hcont env' a' w' ?_ ?_)
          · have h1 := hF1.trans hF'
            rw [← hcomm] at h1
            exact h1
          · rw [← hcomm] at hR'
            exact hR'
        · have hsk1 : Skips ops.toList ⟨S1.tmps, maskV (fun j => listed.getD j false) al S1.V⟩ o := hsk
          rw [if_neg (by rw [skips_wanted hR1 hsk1]; simp)]
          subst he'
          refine hcont env1 _ w1 ?_ ?_
          · have h1 : maskV (fun j => (listed.setIfInBounds i true).getD j false) al (TE.apply ⟨o.dst, undef, none, none, []⟩ S1).V = maskV (fun j => listed.getD j false) al S1.V := by
              have h2 := congrArg VSt.V hcomm
              have h3 : (TE.apply ⟨o.dst, undef, none, none, []⟩ (⟨S1.tmps, maskV (fun j => listed.getD j false) al S1.V⟩ : VSt)).V = maskV (fun j => listed.getD j false) al S1.V := by unfold TE.apply; simp
              exact h2.trans h3
            rw [h1]; exact hF1
          · rw [hcomm]
            unfold TE.apply
            simp only [List.append_nil]
            cases hd : o.dst with
            | none => exact hR1
            | some d => exact hR1.put (.inr (ren_undef env1).symm) .undef
      · -- a variable is made
        obtain ⟨q, hiq, rfl⟩ := hstepA hna
        obtain ⟨j, o', t, c, h1, h2, h3, h4, h5, h6⟩ := hsp _ hiq
        dsimp only at h1 h4 h5 h6
        subst h1
        have ho' : ops[i]? = some o' := by simpa using h2
        rw [ho] at ho'; cases ho'
        obtain ⟨hg, hc, hxop⟩ := allocOf_facts h3
        have hdone : ∀ (j : Nat) (ej : TE), tr[j]? = some ej → listed.getD j false = true → ApartE q ej := fun j ej hj hL => by
          rcases hap _ hiq j ej hj with e1 | e1 | e1
          · dsimp only at e1; subst e1; rw [hunf] at hL; cases hL
          · rw [reach2 e1] at hL; cases hL
          · exact e1
        have hs1q : S1.V[q]? = some (.cells t c) := by
          rw [hS1.sameV q h6 fun j ej ob hj hL hs => ((hdone j ej hj hL).st q ob hs).1 rfl]; exact h5
        have hdead : (maskV (fun j => listed.getD j false) al S1.V)[q]? = some .dead := maskV_dead _ al _ q (hlt _ hiq) ⟨_, hiq, rfl, hunf⟩
        have hfreeT : ∀ t', FreeV q (nth undef S1.tmps t') := fun t' => by
          by_cases hx : ∃ j ej, tr[j]? = some ej ∧ listed.getD j false = true ∧ ej.dst = some t'
          · obtain ⟨j, ej, g1, g2, g3⟩ := hx
            rw [hS1.done j ej t' g1 g2 g3]; exact (hdone j ej g1 g2).v
          · rw [hS1.same t' fun j ej g1 g2 g3 => hx ⟨j, ej, g1, g2, g3⟩]
            exact hfT _ hiq t'
        have hfreeV : ∀ (b : Nat) (ob : VObj), (maskV (fun j => listed.getD j false) al S1.V)[b]? = some ob → FreeO q ob := fun b ob hb => by
          by_cases hd : ∃ x ∈ al, x.2 = b ∧ listed.getD x.1 false = false
          · have hbl : b < S1.V.length := by obtain ⟨x, hx, hxb, _⟩ := hd; rw [← hxb]; exact hlt x hx
            rw [maskV_dead _ al _ b hbl hd] at hb
            cases hb; trivial
          · rw [maskV_ne _ al _ b fun x hx hxb => by
              cases hl : listed.getD x.1 false with
              | true => rfl
              | false => exact absurd ⟨x, hx, hxb, hl⟩ hd] at hb
            by_cases hb0 : b < S0.V.length
            · by_cases hx : ∃ j ej ob', tr[j]? = some ej ∧ listed.getD j false = true ∧ ej.st = some (b, ob')
              · obtain ⟨j, ej, ob', g1, g2, g3⟩ := hx
                have g4 := hS1.doneV j ej b ob' g1 g2 g3
                rw [hb] at g4; cases g4
                exact ((hdone j ej g1 g2).st b ob g3).2
              · rw [hS1.sameV b hb0 fun j ej ob' g1 g2 g3 => hx ⟨j, ej, ob', g1, g2, g3⟩] at hb
                exact hfV _ hiq b ob hb
            · rw [hS1.newV b (by omega)] at hb
              obtain ⟨j, ej, g1, g2, g3⟩ := newFrom_mem tr 0 (List.mem_of_getElem? hb)
              rw [Nat.zero_add] at g2
              exact (hdone j ej g1 g2).nw ob g3
        have hW2 := hR1.mem.allocAt hdead (t := t) hc hfreeV
        have hVm : maskV (fun j => (listed.setIfInBounds i true).getD j false) al S1.V = (maskV (fun j => listed.getD j false) al S1.V).set q (.cells t c) := mask_made hinj hiq hget hlt hs1q
        have hR2 : Rep (fun j => if j = q then ⟨w1.heap.size, 0, 1, 0⟩ else env1 j) ⟨S1.tmps, (maskV (fun j => listed.getD j false) al S1.V).set q (.cells t c)⟩ a1 (w1.alloc (.cells (c.map (ren env1)).toArray t)) :=
          ⟨hW2, hR1.def_, hR1.size, fun t' ht' => by
            rcases hR1.tm t' ht' with h | h
            · exact .inl h
            · exact .inr (h.trans (hfreeT t' _ _ fun j hj => (if_neg hj).symm)), fun v hv => by rw [List.length_set]; exact hR1.sc v hv⟩
        have haV : ((allocE o q).apply S1).V = S1.V := by unfold TE.apply allocE; simp
        have hold : ∀ b, b < w1.heap.size → (w1.alloc (.cells (c.map (ren env1)).toArray t)).heap[b]? = w1.heap[b]? := fun b hb => heap_alloc_old w1 _ b hb
        have hsz1 : w1.heap.size < (w1.alloc (.cells (c.map (ren env1)).toArray t)).heap.size := (Array.getElem?_eq_some_iff.1 (heap_alloc_new w1 (.cells (c.map (ren env1)).toArray t))).1
        rw [if_pos (by simp [Region.wanted, hg])]
        refine .inl ?_
        unfold Oper.wp
        rw [run_alc hR1 (hxop _), Oper.upon_value]
        refine hcont (fun j => if j = q then ⟨w1.heap.size, 0, 1, 0⟩ else env1 j) _ _ ?_ ?_
        · rw [haV, hVm]
          refine ⟨fun b hb => ?_, by rw [List.length_set]; exact hF1.len, hF1.os, hF1.tape, hF1.output, Nat.le_trans hF1.size (Nat.le_of_lt hsz1), fun b hb hno => ?_, fun b ob hb hob => ?_⟩
          · show (if b = q then _ else _) = _
            rw [if_neg (by omega)]; exact hF1.agree b hb
          · rw [hold b (Nat.lt_of_lt_of_le hb hF1.size)]; exact hF1.keep b hb hno
          · skip
            rcases setV_get hb with ⟨rfl, rfl, _⟩ | ⟨hne, hb'⟩
            · rw [if_pos rfl]; exact .inr hF1.size
            · rw [if_neg hne] at hob ⊢; exact hF1.own b ob hb' hob
        · rw [haV, hVm]
          unfold TE.apply allocE
          dsimp only
          cases hd : o.dst with
          | none => exact hR2
          | some d => exact hR2.put (.inr (by simp [ren_ptr, renA])) (.ptr (by show q < _; rw [List.length_set, maskV_len]; exact hlt _ hiq))

theorem drawSeg_path {all : List Oper} {st : Nat} : ∀ (os : List Oper) (i p : Nat) (S : VSt) (tr : List TE) (kE : VSt → List TE → Prop) (kB : Oper → Nat → Nat → VSt → List TE → Prop), drawSeg P C all st os i p S tr kE kB →
    (∃ es Sn, PathS P C all (fun j => !st.testBit j) os i p S es Sn ∧ kE Sn (tr ++ es)) ∨
    (∃ n o es Sn, os[n]? = some o ∧ st.testBit (i + n) = false ∧ allocOf P o = none ∧ PathS P C all (fun j => !st.testBit j) (os.take n) i p S es Sn ∧ kB o (i + n) (plAfter P (os.take n) p) Sn (tr ++ es))
  | [], i, p, S, tr, kE, kB, h => .inl ⟨[], S, ⟨rfl, rfl⟩, by rw [List.append_nil]; exact h⟩
  | o :: os, i, p, S, tr, kE, kB, h => by
    have step : ∀ e, ((!st.testBit i) = true ∧ OStep P C all p S o e) ∨ ((!st.testBit i) = false ∧ e = deadTE) → drawSeg P C all st os (i + 1) (nextP P o p) (e.apply S) (tr ++ [e]) kE kB →
        (∃ es Sn, PathS P C all (fun j => !st.testBit j) (o :: os) i p S es Sn ∧ kE Sn (tr ++ es)) ∨
        (∃ n o' es Sn, (o :: os)[n]? = some o' ∧ st.testBit (i + n) = false ∧ allocOf P o' = none ∧ PathS P C all (fun j => !st.testBit j) ((o :: os).take n) i p S es Sn ∧ kB o' (i + n) (plAfter P ((o :: os).take n) p) Sn (tr ++ es)) := by
      intro e he h
      rcases drawSeg_path os (i + 1) _ _ _ _ _ h with ⟨es, Sn, hp, hk⟩ | ⟨n, o', es, Sn, ho', hst, hno, hp, hk⟩
      · exact .inl ⟨e :: es, Sn, ⟨e, es, rfl, he, hp⟩, by simpa using hk⟩
      · exact .inr ⟨n + 1, o', e :: es, Sn, by simpa using ho', by rw [show i + (n + 1) = i + 1 + n by omega]; exact hst, hno, ⟨e, es, rfl, he, hp⟩, by rw [show i + (n + 1) = i + 1 + n by omega]; simpa [plAfter] using hk⟩
    unfold drawSeg at h
    split at h
    · rename_i hs
      rw [appK_eq] at h
      refine step deadTE (.inr ⟨by rw [hs]; rfl, rfl⟩) ?_
      rw [deadTE_apply]
      unfold nextP
      split at h <;> (rename_i hx; rw [hx]; exact h)
    · rename_i hs
      have hs' : (!st.testBit i) = true := by rw [hs]; rfl
      split at h
      · rename_i tc htc
        obtain ⟨_, h⟩ := norm_spec h
        refine step (allocE o p) (.inl ⟨hs', fun hn => (by rw [htc] at hn; cases hn), fun _ => rfl⟩) ?_
        have : nextP P o p = p + 1 := by unfold nextP; rw [htc]
        rw [this]
        unfold TE.apply allocE
        dsimp only
        cases hd : o.dst with
        | none => simp only [hd, List.append_nil, appK_eq] at h ⊢; exact h
        | some d => simp only [hd, setK_eq, List.append_nil, appK_eq] at h ⊢; exact h
      · rename_i htc
        have hnp : nextP P o p = p := by unfold nextP; rw [htc]
        have here : kB o i p S tr → _ := fun hk => (Or.inr ⟨0, o, [], S, by simp, by simpa using hs, htc, ⟨rfl, rfl⟩, by simpa [plAfter] using hk⟩ :
            (∃ es Sn, PathS P C all (fun j => !st.testBit j) (o :: os) i p S es Sn ∧ kE Sn (tr ++ es)) ∨
            (∃ n o' es Sn, (o :: os)[n]? = some o' ∧ st.testBit (i + n) = false ∧ allocOf P o' = none ∧ PathS P C all (fun j => !st.testBit j) ((o :: os).take n) i p S es Sn ∧ kB o' (i + n) (plAfter P ((o :: os).take n) p) Sn (tr ++ es)))
        have ost : ∀ e, EStep P C all S o e → OStep P C all p S o e := fun e he => ⟨fun _ => he, fun hne => absurd htc hne⟩
        have run : Wants all S o → (match barOp P C S o.op || hitsT tr (mrd S o.op) with
            | true => kB o i p S tr
            | false => drawOne P C S o fun S' e => appK tr e fun tr' => drawSeg P C all st os (i + 1) p S' tr' kE kB) → _ := fun hw h => (by
          split at h
          · exact here h
          · obtain ⟨e, hr, h⟩ := drawOne_ok h
            rw [appK_eq] at h
            exact step e (.inl ⟨hs', ost e (.inl ⟨hw, hr⟩)⟩) (by rw [hnp]; exact h) :
          (∃ es Sn, PathS P C all (fun j => !st.testBit j) (o :: os) i p S es Sn ∧ kE Sn (tr ++ es)) ∨
          (∃ n o' es Sn, (o :: os)[n]? = some o' ∧ st.testBit (i + n) = false ∧ allocOf P o' = none ∧ PathS P C all (fun j => !st.testBit j) ((o :: os).take n) i p S es Sn ∧ kB o' (i + n) (plAfter P ((o :: os).take n) p) Sn (tr ++ es)))
        have skip : Skips all S o → skipK S o (fun S' => appK tr ⟨o.dst, undef, none, none, []⟩ fun tr' => drawSeg P C all st os (i + 1) p S' tr' kE kB) → _ := fun hw h => (by
          have h := skipE h
          rw [appK_eq] at h
          exact step _ (.inl ⟨hs', ost _ (.inr ⟨hw, rfl⟩)⟩) (by rw [hnp]; exact h) :
          (∃ es Sn, PathS P C all (fun j => !st.testBit j) (o :: os) i p S es Sn ∧ kE Sn (tr ++ es)) ∨
          (∃ n o' es Sn, (o :: os)[n]? = some o' ∧ st.testBit (i + n) = false ∧ allocOf P o' = none ∧ PathS P C all (fun j => !st.testBit j) ((o :: os).take n) i p S es Sn ∧ kB o' (i + n) (plAfter P ((o :: os).take n) p) Sn (tr ++ es)))
        split at h
        · rename_i hg; exact run (.inl hg) h
        · rename_i j want hg
          split at h
          · exact h.elim
          · rename_i g hgt
            split at h
            · rename_i b hb
              split at h
              · rcases bsplit_spec h with ⟨rfl, h'⟩ | ⟨rfl, h'⟩
                · rw [setK_eq, set_self hb] at h'; exact run (.inr ⟨j, true, g, hg, hgt, hb⟩) h'
                · rw [setK_eq, set_self hb] at h'; exact skip ⟨j, true, g, hg, hgt, .inl hb⟩ h'
              · rcases bsplit_spec h with ⟨rfl, h'⟩ | ⟨rfl, h'⟩
                · rw [setK_eq, set_self hb] at h'; exact skip ⟨j, false, g, hg, hgt, .inl hb⟩ h'
                · rw [setK_eq, set_self hb] at h'; exact run (.inr ⟨j, false, g, hg, hgt, hb⟩) h'
            · rename_i hu; exact skip ⟨j, want, g, hg, hgt, .inr hu⟩ h
            · exact h.elim

theorem drawFl_path {all : List Oper} {ms : List Nat} {st c : Nat} : ∀ (os : List Oper) (i p : Nat) (S : VSt) (tr : List TE) (k : VSt → List TE → Prop), drawFl P C all ms st c os i p S tr k →
    ∃ es Sn, PathS P C all (fun j => !(st.testBit j || (ms.getD j 0).testBit c)) os i p S es Sn ∧ k Sn (tr ++ es)
  | [], i, p, S, tr, k, h => ⟨[], S, ⟨rfl, rfl⟩, by rw [List.append_nil]; exact h⟩
  | o :: os, i, p, S, tr, k, h => by
    have step : ∀ e, ((fun j => !(st.testBit j || (ms.getD j 0).testBit c)) i = true ∧ OStep P C all p S o e) ∨ ((fun j => !(st.testBit j || (ms.getD j 0).testBit c)) i = false ∧ e = deadTE) → drawFl P C all ms st c os (i + 1) (nextP P o p) (e.apply S) (tr ++ [e]) k →
        ∃ es Sn, PathS P C all (fun j => !(st.testBit j || (ms.getD j 0).testBit c)) (o :: os) i p S es Sn ∧ k Sn (tr ++ es) := by
      intro e he h
      obtain ⟨es, Sn, hp, hk⟩ := drawFl_path os (i + 1) _ _ _ _ h
      exact ⟨e :: es, Sn, ⟨e, es, rfl, he, hp⟩, by simpa using hk⟩
    unfold drawFl at h
    split at h
    · rename_i hs
      rw [appK_eq] at h
      refine step deadTE (.inr ⟨by show (!(st.testBit i || (ms.getD i 0).testBit c)) = false; rw [hs]; rfl, rfl⟩) ?_
      rw [deadTE_apply]
      unfold nextP
      split at h <;> (rename_i hx; rw [hx]; exact h)
    · rename_i hs
      have hs' : (fun j => !(st.testBit j || (ms.getD j 0).testBit c)) i = true := by show (!(st.testBit i || (ms.getD i 0).testBit c)) = true; rw [hs]; rfl
      split at h
      · rename_i tc htc
        obtain ⟨_, h⟩ := norm_spec h
        refine step (allocE o p) (.inl ⟨hs', fun hn => (by rw [htc] at hn; cases hn), fun _ => rfl⟩) ?_
        have : nextP P o p = p + 1 := by unfold nextP; rw [htc]
        rw [this]
        unfold TE.apply allocE
        dsimp only
        cases hd : o.dst with
        | none => simp only [hd, List.append_nil, appK_eq] at h ⊢; exact h
        | some d => simp only [hd, setK_eq, List.append_nil, appK_eq] at h ⊢; exact h
      · rename_i htc
        have hnp : nextP P o p = p := by unfold nextP; rw [htc]
        have run : Wants all S o → (drawOne P C S o fun S' e => appK tr e fun tr' => drawFl P C all ms st c os (i + 1) p S' tr' k) → _ := fun hw h => (by
          obtain ⟨e, hr, h⟩ := drawOne_ok h
          rw [appK_eq] at h
          exact step e (.inl ⟨hs', fun _ => .inl ⟨hw, hr⟩, fun hne => absurd htc hne⟩) (by rw [hnp]; exact h) :
          ∃ es Sn, PathS P C all (fun j => !(st.testBit j || (ms.getD j 0).testBit c)) (o :: os) i p S es Sn ∧ k Sn (tr ++ es))
        have skip : Skips all S o → skipK S o (fun S' => appK tr ⟨o.dst, undef, none, none, []⟩ fun tr' => drawFl P C all ms st c os (i + 1) p S' tr' k) → _ := fun hw h => (by
          have h := skipE h
          rw [appK_eq] at h
          exact step _ (.inl ⟨hs', fun _ => .inr ⟨hw, rfl⟩, fun hne => absurd htc hne⟩) (by rw [hnp]; exact h) :
          ∃ es Sn, PathS P C all (fun j => !(st.testBit j || (ms.getD j 0).testBit c)) (o :: os) i p S es Sn ∧ k Sn (tr ++ es))
        split at h
        · rename_i hg; exact run (.inl hg) h
        · rename_i j want hg
          split at h
          · exact h.elim
          · rename_i g hgt
            split at h
            · rename_i b hb
              split at h
              · rcases bsplit_spec h with ⟨rfl, h'⟩ | ⟨rfl, h'⟩
                · rw [setK_eq, set_self hb] at h'; exact run (.inr ⟨j, true, g, hg, hgt, hb⟩) h'
                · rw [setK_eq, set_self hb] at h'; exact skip ⟨j, true, g, hg, hgt, .inl hb⟩ h'
              · rcases bsplit_spec h with ⟨rfl, h'⟩ | ⟨rfl, h'⟩
                · rw [setK_eq, set_self hb] at h'; exact skip ⟨j, false, g, hg, hgt, .inl hb⟩ h'
                · rw [setK_eq, set_self hb] at h'; exact run (.inr ⟨j, false, g, hg, hgt, hb⟩) h'
            · rename_i hu; exact skip ⟨j, want, g, hg, hgt, .inr hu⟩ h
            · exact h.elim

/-- an operation leaves all tmps but its own -/
theorem wp_put {o : Oper} {a : Act} {w : World} {K : Act → World → Prop} {Q : Exit → Act → World → Prop} (hh : o.wp P a w K Q) : o.wp P a w (fun a' w' => K a' w' ∧ ∃ u, a'.tmps = (a.put o.dst u).tmps) Q := by
  unfold Oper.wp at *
  generalize (execOp a.eval o).run P w = r at *
  cases r with
  | ok n w' =>
    cases n <;> simp only [Oper.upon] at hh ⊢
    case value v => exact ⟨hh, v, rfl⟩
    case skip => exact ⟨hh, _, rfl⟩
    case defer d => exact ⟨hh, undef, by cases o.dst <;> rfl⟩
    case enter f args => exact Calls.mono hh (fun e w'' he => by cases e <;> first | exact ⟨he, _, rfl⟩ | exact he)
    case row row args => exact Rows.mono hh (fun v _ he => ⟨he, v, rfl⟩)
  | halt x w' => cases x <;> simp only [Oper.upon] at hh ⊢ <;> exact hh

theorem flOk_ok {ms : List Nat} {st st' c : Nat} {d : Option Tmp} : ∀ (tr : List TE) (i : Nat), flOk ms st st' c d i tr = true → ∀ j e, tr[j]? = some e → preB ms st c (i + j) = true → st'.testBit (i + j) = false →
    e.st = none ∧ e.nw = [] ∧ ∀ t t', e.dst = some t → d = some t' → t ≠ t'
  | [], i, h, j, e, hj, _, _ => by simp at hj
  | x :: xs, i, h, j, e, hj, hp, hs => by
    simp only [flOk, Bool.and_eq_true] at h
    cases j with
    | zero =>
      simp at hj; subst hj
      rw [Nat.add_zero] at hp hs
      have h1 := h.1
      rw [hp, hs] at h1
      simp only [Bool.not_false, Bool.and_self, Bool.and_eq_true] at h1
      obtain ⟨h1, h2⟩ := h1
      split at h1
      · rename_i e2 e3
        refine ⟨e2, e3, fun t t' ht ht' => ?_⟩
        rw [ht, ht'] at h2
        rintro rfl
        simp at h2
      · cases h1
    | succ j => exact flOk_ok xs (i + 1) h.2 j e (by simpa using hj) (by rw [show i + 1 + j = i + (j + 1) by omega]; exact hp) (by rw [show i + 1 + j = i + (j + 1) by omega]; exact hs)

theorem exOf_mem {ms : List Nat} {st st' c : Nat} {x : Nat × Option Tmp × Value} : ∀ (tr : List TE) (i : Nat), x ∈ exOf ms st st' c i tr ↔ ∃ j e, tr[j]? = some e ∧ preB ms st c (i + j) = true ∧ st'.testBit (i + j) = false ∧ x = (i + j, e.dst, e.v)
  | [], i => by simp [exOf]
  | e :: es, i => by
    have ih := exOf_mem (x := x) (ms := ms) (st := st) (st' := st') (c := c) es (i + 1)
    have shift : (∃ j e', (e :: es)[j]? = some e' ∧ preB ms st c (i + j) = true ∧ st'.testBit (i + j) = false ∧ x = (i + j, e'.dst, e'.v)) ↔
        (preB ms st c i = true ∧ st'.testBit i = false ∧ x = (i, e.dst, e.v)) ∨ ∃ j e', es[j]? = some e' ∧ preB ms st c (i + 1 + j) = true ∧ st'.testBit (i + 1 + j) = false ∧ x = (i + 1 + j, e'.dst, e'.v) := by
      constructor
      · rintro ⟨j, e', hj, h1, h2, h3⟩
        cases j with
        | zero => simp at hj; subst hj; exact .inl ⟨h1, h2, h3⟩
        | succ j =>
          refine .inr ⟨j, e', by simpa using hj, ?_, ?_, ?_⟩
          · rw [show i + 1 + j = i + (j + 1) by omega]; exact h1
          · rw [show i + 1 + j = i + (j + 1) by omega]; exact h2
          · rw [show i + 1 + j = i + (j + 1) by omega]; exact h3
      · rintro (⟨h1, h2, h3⟩ | ⟨j, e', hj, h1, h2, h3⟩)
        · exact ⟨0, e, by simp, h1, h2, h3⟩
        · refine ⟨j + 1, e', by simpa using hj, ?_, ?_, ?_⟩
          · rw [show i + (j + 1) = i + 1 + j by omega]; exact h1
          · rw [show i + (j + 1) = i + 1 + j by omega]; exact h2
          · rw [show i + (j + 1) = i + 1 + j by omega]; exact h3
    rw [shift, ← ih]
    have e0 : exOf ms st st' c i (e :: es) = (match preB ms st c i && !st'.testBit i with | true => (i, e.dst, e.v) :: exOf ms st st' c (i + 1) es | false => exOf ms st st' c (i + 1) es) := rfl
    rw [e0]
    cases hp : preB ms st c i <;> cases hs : st'.testBit i <;> simp

/-- some tmps are not known -/
def cutT' : List (Nat × Option Tmp × Value) → List Value → List Value
  | [], T => T
  | (_, some d, _) :: r, T => cutT' r (T.set d unk)
  | (_, none, _) :: r, T => cutT' r T

theorem cutEx_eq : ∀ (ex : List (Nat × Option Tmp × Value)) (T : List Value) (k : List Value → Prop), cutEx ex T k = k (cutT' ex T)
  | [], _, _ => rfl
  | (_, some d, _) :: r, T, k => by simp only [cutEx, setK_eq, cutT']; exact cutEx_eq r _ k
  | (_, none, _) :: r, T, k => by simp only [cutEx, cutT']; exact cutEx_eq r _ k

theorem cutT'_len : ∀ (ex : List (Nat × Option Tmp × Value)) (T : List Value), (cutT' ex T).length = T.length
  | [], _ => rfl
  | (_, some d, _) :: r, T => by simp only [cutT', cutT'_len r, List.length_set]
  | (_, none, _) :: r, T => by simp only [cutT', cutT'_len r]

theorem cutT'_get : ∀ (ex : List (Nat × Option Tmp × Value)) (T : List Value) (t : Nat), nth undef (cutT' ex T) t = unk ∨ (nth undef (cutT' ex T) t = nth undef T t ∧ (t < T.length → ∀ x ∈ ex, x.2.1 ≠ some t))
  | [], T, t => .inr ⟨rfl, fun _ x hx => by simp at hx⟩
  | (i, some d, v) :: r, T, t => by
    simp only [cutT']
    rcases cutT'_get r (T.set d unk) t with h | ⟨h, h'⟩
    · exact .inl h
    · rw [h, nth_set]
      split
      · exact .inl rfl
      · rename_i hne
        refine .inr ⟨rfl, fun ht x hx => ?_⟩
        rcases List.mem_cons.1 hx with rfl | hx
        · intro hd; cases hd; exact hne ⟨rfl, ht⟩
        · exact h' (by simpa using ht) x hx
  | (i, none, v) :: r, T, t => by
    simp only [cutT']
    rcases cutT'_get r T t with h | ⟨h, h'⟩
    · exact .inl h
    · refine .inr ⟨h, fun ht x hx => ?_⟩
      rcases List.mem_cons.1 hx with rfl | hx
      · simp
      · exact h' ht x hx

theorem addrT_ok {a b : Addr} (h : addrT a b = true) : a = b := by
  obtain ⟨b1, o1, s1⟩ := a
  obtain ⟨b2, o2, s2⟩ := b
  unfold addrT at h
  simp only [Bool.and_eq_true] at h
  obtain ⟨⟨h1, h2⟩, h3⟩ := h
  have h1 := Nat.eq_of_beq_eq_true h1
  have h2 := Nat.eq_of_beq_eq_true h2
  subst h1; subst h2
  cases s1 <;> cases s2 <;> simp at h3 <;> first | rfl | (subst h3; rfl)
theorem eqT_ok {v' v : Value} (h : eqT v' v = true) : v' = v := by
  unfold eqT at h
  split at h
  · simp only [Bool.and_eq_true, decide_eq_true_eq] at h; rw [h.1, h.2]
  · rw [beq_iff_eq] at h; rw [h]
  · rw [addrT_ok h]
  · rfl
  · simp only [Bool.and_eq_true] at h
    obtain ⟨⟨h1, h2⟩, h3⟩ := h
    rw [addrT_ok h1, Nat.eq_of_beq_eq_true h2, Nat.eq_of_beq_eq_true h3]
  · rw [Nat.eq_of_beq_eq_true h]
  · cases h

theorem exOk_ok {tr : List TE} {k : Prop} : ∀ (ex : List (Nat × Option Tmp × Value)), exOk tr ex k → k ∧ ∀ x ∈ ex, ∃ e, nth deadTE tr x.1 = e ∧ e.dst = x.2.1 ∧ (∀ t, x.2.1 = some t → e.v = x.2.2) ∧ e.st = none ∧ e.nw = []
  | [], h => ⟨h, fun x hx => by simp at hx⟩
  | (i, d, v) :: r, h => by
    unfold exOk at h
    split at h
    · rename_i d' v' rd' d'' he
      split at h
      · rename_i hb
        have hd := Nat.eq_of_beq_eq_true hb
        subst hd
        have h9 := andC_ok (fun hb => eqT_ok hb) h
        obtain ⟨hv, h8⟩ := h9
        obtain ⟨h1, h2⟩ := exOk_ok r h8
        subst hv
        refine ⟨h1, fun x hx => ?_⟩
        rcases List.mem_cons.1 hx with rfl | hx
        · exact ⟨_, he, rfl, fun _ _ => rfl, rfl, rfl⟩
        · exact h2 x hx
      · exact h.elim
    · rename_i v' rd' he
      obtain ⟨h1, h2⟩ := exOk_ok r h
      refine ⟨h1, fun x hx => ?_⟩
      rcases List.mem_cons.1 hx with rfl | hx
      · exact ⟨_, he, rfl, (fun t ht => by cases ht), rfl, rfl⟩
      · exact h2 x hx
    · exact h.elim

theorem guardOk_ok {all : List Oper} {o : Oper} {T : List Value} {V : VW} {k : Prop} (h : guardOk all o T k) : k ∧ Wants all ⟨T, V⟩ o := by
  unfold guardOk at h
  split at h
  · rename_i hg; exact ⟨h, .inl hg⟩
  · rename_i j want hg
    split at h
    · exact h.elim
    · rename_i g hgt
      split at h
      · rename_i hv; exact ⟨h, .inr ⟨j, true, g, hg, hgt, hv⟩⟩
      · rename_i hv; exact ⟨h, .inr ⟨j, false, g, hg, hgt, hv⟩⟩
      · exact h.elim

theorem isl_init {tr : List TE} {S S1 : VSt} {ops : Array Oper} {listed : Array Bool} {st : Nat} {ex : List (Nat × Option Tmp × Value)} (hdead : ∀ (j : Nat) (e : TE), tr[j]? = some e → st.testBit j = true → e = deadTE)
    (hex : ∀ x ∈ ex, ∃ e, nth deadTE tr x.1 = e ∧ e.dst = x.2.1 ∧ (∀ t, x.2.1 = some t → e.v = x.2.2) ∧ e.st = none ∧ e.nw = [])
    (hin : ∀ j, listed.getD j false = true → st.testBit j = true ∨ ∃ x ∈ ex, x.1 = j) (hV : S1.V = S.V) (hlen : S1.tmps.length = S.tmps.length)
    (hdone : ∀ x ∈ ex, ∀ t, listed.getD x.1 false = true → x.2.1 = some t → nth undef S1.tmps t = x.2.2)
    (hsame : ∀ t, (∀ x ∈ ex, listed.getD x.1 false = true → x.2.1 ≠ some t) → nth undef S1.tmps t = nth undef S.tmps t) : IsL tr S (fun j => listed.getD j false) S1 := by
  have at_ : ∀ {j : Nat} {e : TE}, tr[j]? = some e → nth deadTE tr j = e := fun h => by rw [nth_eq, List.getD_eq_getElem?_getD, h]; rfl
  have key : ∀ (j : Nat) (e : TE), tr[j]? = some e → listed.getD j false = true → e.st = none ∧ e.nw = [] ∧ ∀ t, e.dst = some t → ∃ x ∈ ex, x.1 = j ∧ x.2.1 = some t ∧ e.v = x.2.2 := by
    intro j e hj hL
    rcases hin j hL with h | ⟨x, hx, rfl⟩
    · rw [hdead j e hj h]
      exact ⟨rfl, rfl, fun t ht => by cases ht⟩
    · obtain ⟨e', he', h1, h2, h3, h4⟩ := hex x hx
      rw [at_ hj] at he'
      subst he'
      exact ⟨h3, h4, fun t ht => ⟨x, hx, rfl, h1 ▸ ht, h2 t (h1 ▸ ht)⟩⟩
  have hnew : newObjs tr (fun j => listed.getD j false) = [] := newFrom_none tr 0 fun j e hj hne => by
    cases hL : listed.getD (0 + j) false with
    | false => rfl
    | true => rw [Nat.zero_add] at hL; exact absurd (key j e hj hL).2.1 hne
  refine ⟨hlen, by rw [hnew, hV]; rfl, fun j e t hj hL ht => ?_, fun t hno => ?_, fun j e b o hj hL hs => ?_, fun b hb _ => by rw [hV], fun b hb => ?_⟩
  · obtain ⟨x, hx, rfl, hd, hv⟩ := (key j e hj hL).2.2 t ht
    rw [hdone x hx t hL hd, hv]
  · refine hsame t fun x hx hL hd => ?_
    obtain ⟨e, he, h1, _⟩ := hex x hx
    cases hj : tr[x.1]? with
    | none =>
      rw [nth_eq, List.getD_eq_getElem?_getD, hj] at he
      rw [← h1, ← he] at hd
      cases hd
    | some e' =>
      rw [at_ hj] at he
      subst he
      exact hno x.1 _ hj hL (h1.trans hd)
  · rw [(key j e hj hL).1] at hs; cases hs
  · rw [hV, hnew, List.getElem?_eq_none hb]; simp


/-! ### Variables that are not made yet, and an operation that is run alone -/
theorem killAl_eq : ∀ (al : List (Nat × Nat)) (V : VW) (k : VW → Prop), killAl al V k = k (maskV (fun _ => false) al V)
  | [], _, _ => rfl
  | x :: r, V, k => by simp only [killAl, setK_eq, maskV]; exact killAl_eq r _ k

theorem setAl_ok {ops : List Oper} : ∀ (al : List (Nat × Nat)) (V : VW) (k : VW → Prop), setAl P ops al V k → (∀ x ∈ al, ∀ y ∈ al, (x.1 = y.1 ↔ x.2 = y.2)) →
    ∃ V2, k V2 ∧ V2.length = V.length ∧ (∀ b, (∀ x ∈ al, x.2 ≠ b) → V2[b]? = V[b]?) ∧ ∀ x ∈ al, x.2 < V.length → ∃ o t c, ops[x.1]? = some o ∧ allocOf P o = some (t, c) ∧ V2[x.2]? = some (.cells t c)
  | [], V, k, h, _ => ⟨V, h, rfl, fun _ _ => rfl, fun x hx => by simp at hx⟩
  | x :: r, V, k, h, hinj => by
    unfold setAl at h
    split at h
    case' h_2 => exact h.elim
    rename_i o ho
    split at h
    case' h_2 => exact h.elim
    rename_i t c hal
    rw [setK_eq] at h
    obtain ⟨V2, hk, hl, h1, h2⟩ := setAl_ok r _ k h fun a ha b hb => hinj a (List.mem_cons_of_mem _ ha) b (List.mem_cons_of_mem _ hb)
    rw [List.length_set] at hl
    refine ⟨V2, hk, hl, fun b hb => ?_, fun y hy hlt => ?_⟩
    · rw [h1 b fun z hz => hb z (List.mem_cons_of_mem _ hz), List.getElem?_set, if_neg (hb x List.mem_cons_self)]
    · rcases List.mem_cons.1 hy with rfl | hy
      · by_cases hr : ∃ z ∈ r, z.2 = y.2
        · obtain ⟨z, hz, he⟩ := hr
          have h11 : z.1 = y.1 := (hinj z (List.mem_cons_of_mem _ hz) y List.mem_cons_self).2 he
          obtain ⟨o', t', c', g1, g2, g3⟩ := h2 z hz (by rw [List.length_set, he]; exact hlt)
          exact ⟨o', t', c', by rw [← h11]; exact g1, g2, by rw [← he]; exact g3⟩
        · refine ⟨o, t, c, ho, hal, ?_⟩
          rw [h1 y.2 fun z hz he => hr ⟨z, hz, he⟩, List.getElem?_set, if_pos rfl, if_pos hlt]
      · exact h2 y hy (by rw [List.length_set]; exact hlt)

/-- some places are forgotten -/
theorem RepW.forget {env : Nat → Loc} {V V' : VW} {w : World} (h : RepW env V w) (hl : V'.length = V.length) (hs : ∀ (b : Nat) (o : VObj), V'[b]? = some o → o = .dead ∨ V[b]? = some o) : RepW env V' w := by
  refine ⟨fun b o hb => ?_, fun b o hb => ?_, fun b o hb hB => ?_, fun b b' o o' hb hb' hne hw hli hB hB' => ?_, h.inv, fun b o hb ho => ?_, h.room⟩
  · rcases hs b o hb with rfl | h1
    · trivial
    · exact h.mat b o h1
  · rcases hs b o hb with rfl | h1
    · trivial
    · rw [hl]; exact h.sc b o h1
  · rcases hs b o hb with rfl | h1
    · exact hB.elim
    · exact h.blk b o h1 hB
  · rcases hs b o hb with rfl | h1
    · exact hB.elim
    · rcases hs b' o' hb' with rfl | h2
      · exact hB'.elim
      · exact h.sep b b' o o' h1 h2 hne hw hli hB hB'
  · rcases hs b o hb with rfl | h1
    · exact ho.2.elim
    · exact h.low b o h1 ho

theorem okOld_ok : ∀ (V V' : VW), okOld V V' = true → ∀ (b : Nat) (o : VObj), V[b]? = some o → o.live = true → o.owned = false → ∃ o', V'[b]? = some o' ∧ o'.live = true ∧ ∀ l, hasB l o → hasB l o'
  | [], _, _, b, o, h => by simp at h
  | x :: os, [], h, b, o, hb => by
    intro hl ho
    simp only [okOld, Bool.and_eq_true] at h
    cases b with
    | zero =>
      simp at hb; subst hb
      have h1 := h.1
      split at h1
      · cases h1
      · cases h1
      · rename_i n1 n2
        exfalso
        cases x with
        | rows own t m n cap f =>
          have : own = false := ho
          subst this
          exact absurd rfl (n2 t m n cap f)
        | arg t m n f => exact absurd rfl (n1 t m n f)
        | tab => cases hl
        | dead => cases hl
        | _ => cases ho
    | succ b => exact absurd (okOld_ok os [] h.2 b o (by simpa using hb) hl ho) (by simp)
  | x :: os, y :: os', h, b, o, hb => by
    intro hl ho
    simp only [okOld, Bool.and_eq_true] at h
    cases b with
    | zero =>
      simp at hb; subst hb
      have h1 := h.1
      refine ⟨y, by simp, ?_⟩
      split at h1
      · exact ⟨rfl, fun l hB => hB⟩
      · cases h1
      · exact ⟨rfl, fun l _ => trivial⟩
      · cases h1
      · rename_i n1 n2 n3 n4
        exfalso
        cases x with
        | rows own t m n cap f =>
          have : own = false := ho
          subst this
          exact n2 _ _ _ _ _ rfl
        | arg t m n f => exact n1 _ _ _ _ rfl
        | tab => cases hl
        | dead => cases hl
        | _ => cases ho
    | succ b =>
      obtain ⟨o', h1, h2⟩ := okOld_ok os os' h.2 b o (by simpa using hb) hl ho
      exact ⟨o', by simpa using h1, h2⟩

/-- places that were forgotten while an operation was run come back -/
theorem revive {env1 env2 : Nat → Loc} {V1 Vd V2 V3 : VW} {w1 w2 : World} (h1 : RepW env1 V1 w1) (hlen : Vd.length = V1.length) (hd : ∀ (b : Nat) (o : VObj), Vd[b]? = some o → o = .dead ∨ V1[b]? = some o) (h2 : RepW env2 V2 w2) (hF : Fr env1 Vd w1 env2 V2 w2) (hok : okOld V2 Vd = true)
    (hl3 : V3.length = V2.length) (h3 : ∀ (b : Nat) (o : VObj), V3[b]? = some o → V2[b]? = some o ∨ (Vd[b]? = some .dead ∧ ∃ t c, o = .cells t c ∧ V1[b]? = some o ∧ c.all plainC = true)) : RepW env2 V3 w2 ∧ Fr env1 V1 w1 env2 V3 w2 := by
  have hag : ∀ b, b < V1.length → env2 b = env1 b := fun b hb => hF.agree b (by rw [hlen]; exact hb)
  have lt1 : ∀ {b : Nat} {o : VObj}, V1[b]? = some o → b < V1.length := fun h => (List.getElem?_eq_some_iff.1 h).1
  -- the block of a place that comes back
  have back : ∀ b t c, V1[b]? = some (.cells t c) → Vd[b]? = some .dead → (env1 b).blk < w1.heap.size ∧ w2.heap[(env1 b).blk]? = w1.heap[(env1 b).blk]? ∧ ∀ (j : Nat) (o : VObj), V2[j]? = some o → o.live = true → hasB (env2 j) o → (env2 j).blk ≠ (env1 b).blk := by
    intro b t c hb hdb
    have hblk := h1.blk b _ hb trivial
    have notd : ∀ (i : Nat) (o : VObj), Vd[i]? = some o → ownB (env1 i) o → i ≠ b ∧ V1[i]? = some o := fun i o hi ho => by
      rcases hd i o hi with rfl | h
      · exact ho.2.elim
      · refine ⟨fun e => ?_, h⟩
        subst e
        rw [hdb] at hi; cases hi
        exact ho.2.elim
    refine ⟨hblk, hF.keep _ hblk fun i o hi ho => ?_, fun j o hj hlv hB => ?_⟩
    · obtain ⟨hne, hi1⟩ := notd i o hi ho
      have hliv : o.live = true := by cases o <;> simp_all [ownB, VObj.owned, VObj.live, hasB]
      exact fun e => h1.sep b i _ o hb hi1 (Ne.symm hne) rfl hliv trivial ho.2 e.symm
    · cases hown : o.owned with
      | true =>
        rcases hF.own j o hj ⟨hown, hB⟩ with ⟨i, oi, hi, hoi, he⟩ | hge
        · obtain ⟨hne, hi1⟩ := notd i oi hi hoi
          have hliv : oi.live = true := by cases oi <;> simp_all [ownB, VObj.owned, VObj.live, hasB]
          rw [← he]
          exact fun e => h1.sep b i _ oi hb hi1 (Ne.symm hne) rfl hliv trivial hoi.2 e.symm
        · omega
      | false =>
        obtain ⟨o', g1, g2, g3⟩ := okOld_ok V2 Vd hok j o hj hlv hown
        rcases hd j o' g1 with rfl | hj1
        · cases g2
        · have hne : j ≠ b := fun e => by subst e; rw [hdb] at g1; cases g1; cases g2
          have hje : env2 j = env1 j := hag j (lt1 hj1)
          rw [hje] at hB ⊢
          exact fun e => h1.sep b j _ o' hb hj1 (Ne.symm hne) rfl g2 trivial (g3 _ hB) e.symm
  have hRW : RepW env2 V3 w2 := by
    refine ⟨fun b o hb => ?_, fun b o hb => ?_, fun b o hb hB => ?_, fun b b' o o' hb hb' hne hw hli hB hB' => ?_, h2.inv, fun b o hb ho => ?_, h2.room⟩
    · rcases h3 b o hb with h | ⟨hdb, t, c, rfl, h, hc⟩
      · exact h2.mat b o h
      · rw [hag b (lt1 h)]
        obtain ⟨g1, g2⟩ := h1.mat b _ h
        exact ⟨by rw [(back b t c h hdb).2.1, g1, map_ren_plain env1 hc, map_ren_plain env2 hc], g2⟩
    · rw [hl3]
      rcases h3 b o hb with h | ⟨hdb, t, c, rfl, h, hc⟩
      · exact h2.sc b o h
      · exact fun v hv => .plain (List.all_eq_true.1 hc v hv)
    · rcases h3 b o hb with h | ⟨hdb, t, c, rfl, h, hc⟩
      · exact h2.blk b o h hB
      · rw [hag b (lt1 h)]; exact Nat.lt_of_lt_of_le (back b t c h hdb).1 hF.size
    · rcases h3 b o hb with h | ⟨hdb, t, c, rfl, h, hc⟩
      · rcases h3 b' o' hb' with h' | ⟨hdb', t', c', rfl, h', hc'⟩
        · exact h2.sep b b' o o' h h' hne hw hli hB hB'
        · rw [hag b' (lt1 h')]
          exact (back b' t' c' h' hdb').2.2 b o h (by cases o <;> simp_all [VObj.writes, VObj.live]) hB
      · rcases h3 b' o' hb' with h' | ⟨hdb', t', c', rfl, h', hc'⟩
        · rw [hag b (lt1 h)]
          exact ((back b t c h hdb).2.2 b' o' h' hli hB').symm
        · rw [hag b (lt1 h), hag b' (lt1 h')]
          exact h1.sep b b' _ _ h h' hne rfl rfl trivial trivial
    · rcases h3 b o hb with h | ⟨hdb, t, c, rfl, h, hc⟩
      · exact h2.low b o h ho
      · rw [hag b (lt1 h)]; exact h1.low b _ h ⟨rfl, trivial⟩
  refine ⟨hRW, hag, by rw [hl3, ← hlen]; exact hF.len, hF.os, hF.tape, hF.output, hF.size, fun b hb hno => hF.keep b hb fun i o hi ho => ?_, fun b o hb ho => ?_⟩
  · rcases hd i o hi with rfl | h
    · exact ho.2.elim
    · exact hno i o h ho
  · rcases h3 b o hb with h | ⟨hdb, t, c, rfl, h, hc⟩
    · rcases hF.own b o h ho with ⟨j, oj, hj, hoj, he⟩ | hge
      · rcases hd j oj hj with rfl | hj1
        · exact hoj.2.elim
        · exact .inl ⟨j, oj, hj1, hoj, he⟩
      · exact .inr hge
    · exact .inl ⟨b, _, h, ⟨rfl, trivial⟩, by rw [hag b (lt1 h)]⟩
/-- A REGION WITH OPERATIONS THAT ARE RUN ALONE -/
theorem drawBar_wp (hC : CtxOK P C) {env : Nat → Loc} {w : World} {V0 : VW} {ops : Array Oper} {k : VSt → Prop} {Q : Exit → Act → World → Prop}
    (next : ∀ env' a' w' S', Fr env V0 w env' S'.V w' → Rep env' S' a' w' → k S' → Q .normal a' w') :
    ∀ (n st : Nat) (ex : List (Nat × Option Tmp × Value)) (S : VSt), drawBar P C ops.toList (masks ops.toList []) V0.length n st ex S k →
    (∀ x ∈ alOf P ops.toList V0.length st, ∃ o t c, ops.toList[x.1]? = some o ∧ allocOf P o = some (t, c) ∧ S.V[x.2]? = some (.cells t c)) →
    (∀ x ∈ alOf P ops.toList V0.length st, ∀ t, FreeV x.2 (nth undef S.tmps t)) → (∀ x ∈ alOf P ops.toList V0.length st, ∀ (b : Nat) (ob : VObj), S.V[b]? = some ob → FreeO x.2 ob) →
    ∀ (fuel : Nat) (listed : Array Bool) (env1 : Nat → Loc) (a1 : Act) (w1 : World) (S1 : VSt), listed.size = ops.size → listed.toList.count false = fuel → downC ops listed →
      (∀ j, j < ops.size → st.testBit j = true → listed.getD j false = true) →
      (∀ j, listed.getD j false = true → st.testBit j = true ∨ ∃ x ∈ ex, x.1 = j) → S1.V = S.V → S1.tmps.length = S.tmps.length →
      (∀ x ∈ ex, ∀ t, listed.getD x.1 false = true → x.2.1 = some t → nth undef S1.tmps t = x.2.2) →
      (∀ t, (∀ x ∈ ex, listed.getD x.1 false = true → x.2.1 ≠ some t) → nth undef S1.tmps t = nth undef S.tmps t) →
      Rep env1 ⟨S1.tmps, maskV (fun j => listed.getD j false) (alOf P ops.toList V0.length st) S1.V⟩ a1 w1 → Fr env V0 w env1 (maskV (fun j => listed.getD j false) (alOf P ops.toList V0.length st) S1.V) w1 → wpAny P .any ops Q fuel listed a1 w1 := by
  intro n
  induction n with
  | zero => intro st ex S h; exact h.elim
  | succ n IH =>
    intro st ex S h hAl hAT hAV fuel0 listed0 env0 a0 w0 S10 hsz0 hcnt0 hdc0 hP0 hin0 hV0 hlen0 hdone0 hsame0 hR0 hF0
    unfold drawBar at h
    have hms : ∀ a j, ((masks ops.toList []).getD a 0).testBit j = true → Reach ops a j := masks_ok ops.toList [] (by simp) (by simp)
    have hb0 : ∀ j, Nat.blt j 0 = false := fun j => rfl
    have start : ∀ (tr : List TE), IsL tr S (fun j => Nat.blt j 0) S := fun tr => by
      have hn0 : newObjs tr (fun j => Nat.blt j 0) = [] := newFrom_none tr 0 fun j _ _ _ => hb0 _
      exact ⟨rfl, (by rw [hn0]; rfl), fun j e t _ hL => (by rw [hb0] at hL; cases hL), fun _ _ => rfl, fun j e b o _ hL => (by rw [hb0] at hL; cases hL), fun _ _ _ => rfl,
        fun b hb => (by rw [hn0, List.getElem?_eq_none hb]; simp)⟩
    have almem : ∀ x, x ∈ alOf P ops.toList V0.length st ↔ x ∈ allocPl P ops.toList 0 V0.length ∧ st.testBit x.1 = false := fun x => by
      unfold alOf; rw [List.mem_filter]; simp
    have hinj : ∀ x ∈ alOf P ops.toList V0.length st, ∀ y ∈ alOf P ops.toList V0.length st, (x.1 = y.1 ↔ x.2 = y.2) := fun x hx y hy => allocPl_inj _ _ _ x ((almem x).1 hx).1 y ((almem y).1 hy).1
    have hsp : ∀ x ∈ alOf P ops.toList V0.length st, ∃ j o t c, x.1 = j ∧ ops.toList[j]? = some o ∧ allocOf P o = some (t, c) ∧ V0.length ≤ x.2 ∧ S.V[x.2]? = some (.cells t c) ∧ x.2 < S.V.length := fun x hx => by
      obtain ⟨o, t, c, h1, h2, h3⟩ := hAl x hx
      obtain ⟨_, _, _, _, _, _, _, h4, _⟩ := allocPl_spec _ _ _ x ((almem x).1 hx).1
      exact ⟨x.1, o, t, c, rfl, h1, h2, h4, h3, (List.getElem?_eq_some_iff.1 h3).1⟩
    have hapOf : ∀ tr : List TE, achk (masks ops.toList []) (alOf P ops.toList V0.length st) tr = true → ∀ x ∈ alOf P ops.toList V0.length st, ∀ (j : Nat) (e : TE), tr[j]? = some e → j = x.1 ∨ Reach ops j x.1 ∨ ApartE x.2 e := by
      intro tr hachk x hx j e hj
      have h1 := List.all_eq_true.1 hachk x hx
      have h2 := apartsOk_ok tr 0 h1 j e hj
      rw [Nat.zero_add] at h2
      exact apart_of h2
    rcases drawSeg_path _ _ _ _ _ _ _ h with ⟨tr, Sn, hpath, hk⟩ | ⟨c, o, es1, Sq, hoc, hstc, hnoal, hpath1, hk⟩
    · rw [List.nil_append] at hk
      split at hk
      case' h_2 => exact hk.elim
      rename_i hchk hachk
      have hT := Tr.of hchk
      obtain ⟨hk, hex⟩ := exOk_ok _ hk
      obtain ⟨hlen, hst, hdead⟩ := PathS.lens _ _ _ _ _ _ hpath
      obtain ⟨hstates, hfinal⟩ := PathS.states (AL := alOf P ops.toList V0.length st) hT hst ops.toList 0 V0.length S tr Sn (fun x hx hp => (almem x).2 ⟨hx, by simpa using hp⟩) (by simp) (by simp) (start tr) hpath
      refine phase hC (fun j => st.testBit j) (fun j => !st.testBit j) hT hst (fun i o e hp ho he => hstates i o e (Nat.zero_le _) hp ho he) hsp hinj (hapOf tr hachk) hAT hAV ?_ ?_ fuel0 listed0 env0 a0 w0 S10 hsz0 hcnt0 hdc0
        (isl_init (ops := ops) (fun j e hj hs => hdead j e hj (by rw [Nat.zero_add]; simp [hs])) hex hin0 hV0 hlen0 hdone0 hsame0) hR0 hF0 (fun j hL => by
          cases hs : st.testBit j with
          | true => exact .inl rfl
          | false => exact .inr rfl) hP0
      · intro fuel listed env1 a1 w1 S1 i hsz hcnt hdc hS1 hR1 hF1 hi hpre hin hP
        exfalso
        obtain ⟨hun, o, ho, _⟩ := mem_ready.1 hi
        have hilt := (Array.getElem?_eq_some_iff.1 ho).1
        have := hP i hilt (by simpa using hpre)
        have hl : i < listed.size := by omega
        simp [hl] at this hun
        simp [this] at hun
      · intro listed env1 a1 w1 S1 hall hS1 hR1 hF1 hin
        have e1 : S1 = Sn := by
          refine (hS1.congr (L' := fun _ => true) fun j hj => hall j (by rw [← hT.size]; exact hj)).unique (hfinal.congr fun j hj => ?_)
          simp only [Nat.zero_add]
          exact bltI (by rw [hlen]; exact hj)
        have e2 : maskV (fun j => listed.getD j false) (alOf P ops.toList V0.length st) S1.V = S1.V := List.ext_getElem? fun b => maskV_ne _ _ _ b fun x hx _ => by
          obtain ⟨j, o', t, c, h1, h2, _⟩ := hsp x hx
          have hj := (List.getElem?_eq_some_iff.1 h2).1
          exact hall x.1 (by rw [h1]; simpa using hj)
        rw [e2] at hR1 hF1
        exact next env1 a1 w1 S1 hF1 hR1 (e1 ▸ hk)
    · rw [Nat.zero_add] at hk hstc
      rw [List.nil_append, appK_eq] at hk
      obtain ⟨es2, Sp, hpath2, hk⟩ := drawFl_path (all := ops.toList) _ _ _ _ _ _ hk
      have hclt : c < ops.toList.length := (List.getElem?_eq_some_iff.1 hoc).1
      have hc1 : es1.length = c := by
        have := (PathS.lens _ _ _ _ _ _ hpath1).1
        rw [List.length_take] at this
        omega
      generalize htr : es1 ++ [deadTE] ++ es2 = tr at hk
      have hpath : PathS P C ops.toList (preB (masks ops.toList []) st c) ops.toList 0 V0.length S tr Sp := by
        have h1 : PathS P C ops.toList (preB (masks ops.toList []) st c) (ops.toList.take c) 0 V0.length S es1 Sq := PathS.congr _ _ _ _ _ _ (fun j _ hj => by
          have hjc : j < c := by rw [List.length_take] at hj; omega
          unfold preB
          rw [beq_ne (by omega : j ≠ c), bltI hjc]
          simp) hpath1
        have h2 : PathS P C ops.toList (preB (masks ops.toList []) st c) [o] c (plAfter P (ops.toList.take c) V0.length) Sq [deadTE] Sq := ⟨deadTE, [], rfl, .inr ⟨by unfold preB; rw [Nat.beq_refl]; simp, rfl⟩, by rw [deadTE_apply]; exact ⟨rfl, rfl⟩⟩
        have h3 : PathS P C ops.toList (preB (masks ops.toList []) st c) (ops.toList.drop (c + 1)) (c + 1) (nextP P o (plAfter P (ops.toList.take c) V0.length)) Sq es2 Sp := PathS.congr _ _ _ _ _ _ (fun j hj _ => by
          have hb : Nat.blt j c = false := by
            cases hb : Nat.blt j c with
            | false => rfl
            | true => have := bltE hb; omega
          unfold preB
          rw [beq_ne (by omega : j ≠ c), hb]
          simp) hpath2
        have hpl : plAfter P (ops.toList.take c ++ [o]) V0.length = nextP P o (plAfter P (ops.toList.take c) V0.length) := by
          have : ∀ (l : List Oper) (q : Nat), plAfter P (l ++ [o]) q = nextP P o (plAfter P l q) := by
            intro l
            induction l with
            | nil => intro q; rfl
            | cons x l ih => intro q; exact ih _
          exact this _ _
        have h4 := PathS.app _ _ _ _ _ _ _ _ _ (PathS.app _ _ _ _ _ _ _ _ _ h1 (by rw [Nat.zero_add, List.length_take, Nat.min_eq_left (by omega)]; exact h2)) (by rw [Nat.zero_add, List.length_append, List.length_take, Nat.min_eq_left (by omega), hpl]; exact h3)
        rw [htr] at h4
        have h5 : ops.toList.take c ++ [o] ++ ops.toList.drop (c + 1) = ops.toList := by
          have : [o] = (ops.toList.drop c).take 1 := by
            rw [List.take_one, List.head?_drop, hoc]; rfl
          rw [this, ← List.take_add, List.take_append_drop]
        rwa [h5] at h4
      split at hk
      case' h_2 => exact hk.elim
      rename_i hchk hachk hfl
      simp only [Bool.and_eq_true] at hfl
      obtain ⟨⟨hfl, hexp⟩, hnost⟩ := hfl
      have hT := Tr.of hchk
      obtain ⟨hk, hex⟩ := exOk_ok _ hk
      obtain ⟨hlen, hst, hdead⟩ := PathS.lens _ _ _ _ _ _ hpath
      obtain ⟨hstates, hfinal⟩ := PathS.states (AL := alOf P ops.toList V0.length st) hT hst ops.toList 0 V0.length S tr Sp (fun x hx hp => (almem x).2 ⟨hx, by
        unfold preB at hp
        simp only [Bool.and_eq_true, Bool.not_eq_true'] at hp
        exact hp.1.1⟩) (by simp) (by simp) (start tr) hpath
      generalize hms' : masks ops.toList [] = ms at *
      generalize hst' : (st ||| ms.getD c 0 ||| (1 <<< c)) = st' at *
      have st'_iff : ∀ j, st'.testBit j = true ↔ st.testBit j = true ∨ (ms.getD c 0).testBit j = true ∨ j = c := by
        intro j
        rw [← hst', Nat.testBit_or, Nat.testBit_or, Nat.one_shiftLeft, Nat.testBit_two_pow]
        simp only [Bool.or_eq_true, decide_eq_true_eq]
        constructor
        · rintro ((h | h) | h)
          · exact .inl h
          · exact .inr (.inl h)
          · exact .inr (.inr h.symm)
        · rintro (h | h | h)
          · exact .inl (.inl h)
          · exact .inl (.inr h)
          · exact .inr h.symm
      have prec : preB ms st c c = false := by unfold preB; rw [Nat.beq_refl]; simp
      have pre_st : ∀ {j}, preB ms st c j = true → st.testBit j = false := fun {j} hp => by
        unfold preB at hp
        simp only [Bool.and_eq_true, Bool.not_eq_true'] at hp
        exact hp.1.1
      have hflo := flOk_ok tr 0 hfl
      simp only [Nat.zero_add] at hflo
      rw [cutEx_eq, killAl_eq] at hk
      obtain ⟨hk, hwants⟩ := guardOk_ok (V := maskV (fun _ => false) (alOf P ops.toList V0.length st') Sp.V) hk
      have hopc : ops[c]? = some o := by simpa using hoc
      have hcsz : c < ops.size := by simpa using hclt
      refine phase hC (fun j => st.testBit j) (preB ms st c) hT hst (fun i o e hp ho he => hstates i o e (Nat.zero_le _) hp ho he) hsp hinj (hapOf tr hachk) hAT hAV ?_ ?_ fuel0 listed0 env0 a0 w0 S10 hsz0 hcnt0 hdc0
        (isl_init (ops := ops) (fun j e hj hs => hdead j e hj (by rw [Nat.zero_add]; unfold preB; rw [hs]; simp)) hex hin0 hV0 hlen0 hdone0 hsame0) hR0 hF0 (fun j hL => by
          rcases hin0 j hL with h1 | ⟨x, hx, rfl⟩
          · exact .inl h1
          · cases hp : preB ms st c x.1 with
            | true => exact .inr rfl
            | false => exact .inl (by have := List.all_eq_true.1 hexp x hx; rw [hp, Bool.false_or] at this; exact this)) hP0
      · intro fuel listed env1 a1 w1 S1 i hsz hcnt hdc hS1 hR1 hF1 hi hpre hin hP
        obtain ⟨hun, o', ho', hpr⟩ := mem_ready.1 hi
        have hilt := (Array.getElem?_eq_some_iff.1 ho').1
        have hunf : listed.getD i false = false := by
          have : i < listed.size := by omega
          simp [this] at hun ⊢; exact hun
        have reachL : ∀ {x y : Nat}, Reach ops x y → (∀ o', ops[x]? = some o' → ∀ e ∈ o'.after, Region.binds .any e = true → listed.getD e.on false = true) → listed.getD y false = true := by
          intro x y hr
          induction hr with
          | edge ho' he' hb => intro hp; exact hp _ ho' _ he' hb
          | trans h1 h2 ih1 ih2 => intro hp; exact ih2 fun o' ho' => hdc _ o' ho' (ih1 hp)
        have reach1 : ∀ {j : Nat}, Reach ops i j → listed.getD j false = true := fun h => reachL h fun o'' ho'' => by rw [ho'] at ho''; cases ho''; exact hpr
        have hcun : listed.getD c false = false := by
          cases hl : listed.getD c false with
          | false => rfl
          | true =>
            rcases hin c hl with h | h
            · rw [hstc] at h; cases h
            · rw [prec] at h; cases h
        have hic : i = c := by
          refine Classical.byContradiction fun hne => ?_
          have hsi : st.testBit i = false := by
            cases hs : st.testBit i with
            | false => rfl
            | true => rw [hP i hilt hs] at hunf; cases hunf
          unfold preB at hpre
          rw [hsi, beq_ne hne] at hpre
          simp only [Bool.not_false, Bool.true_and, Bool.or_eq_false_iff, Bool.not_eq_false'] at hpre
          have := reach1 (hms i c hpre.2)
          rw [hcun] at this; cases this
        subst hic
        rw [hopc] at ho'
        cases ho'
        have hanc : ∀ {j : Nat}, (ms.getD i 0).testBit j = true → listed.getD j false = true := fun h => reach1 (hms _ _ h)
        -- a live entry is one ahead of the operation, or is noted
        have live : ∀ (j : Nat) (e : TE), tr[j]? = some e → e ≠ deadTE → preB ms st i j = true := by
          intro j e hj hne
          cases hp : preB ms st i j with
          | true => rfl
          | false => exact absurd (hdead j e hj (by rw [Nat.zero_add]; exact hp)) hne
        have ahead : ∀ (j : Nat) (e : TE), tr[j]? = some e → e ≠ deadTE → st'.testBit j = true → listed.getD j false = true := by
          intro j e hj hne hs
          have hp := live j e hj hne
          rcases (st'_iff j).1 hs with h | h | h
          · rw [pre_st hp] at h; cases h
          · exact hanc h
          · subst h; rw [prec] at hp; cases hp
        have stmem : ∀ (j : Nat) (e : TE), tr[j]? = some e → (e.st ≠ none ∨ e.nw ≠ []) → listed.getD j false = true := by
          intro j e hj hs
          have hne : e ≠ deadTE := fun h => by subst h; rcases hs with hs | hs <;> exact hs rfl
          cases hs' : st'.testBit j with
          | true => exact ahead j e hj hne hs'
          | false =>
            obtain ⟨h2, h3, _⟩ := hflo j e hj (live j e hj hne) hs'
            rcases hs with hs | hs
            · exact absurd h2 hs
            · exact absurd h3 hs
        have jlt : ∀ {j : Nat} {e : TE}, tr[j]? = some e → Nat.blt j (0 + ops.toList.length) = true := fun hj => by
          rw [Nat.zero_add]; exact bltI (by rw [hlen]; exact (List.getElem?_eq_some_iff.1 hj).1)
        have hVeq : S1.V = Sp.V := by
          apply List.ext_getElem?
          intro b
          by_cases hb : b < S.V.length
          · by_cases hex : ∃ (j : Nat) (e : TE) (ob : VObj), tr[j]? = some e ∧ e.st = some (b, ob)
            · obtain ⟨j, e, ob, hj, hs⟩ := hex
              rw [hS1.doneV j e b ob hj (stmem j e hj (.inl (by rw [hs]; simp))) hs, hfinal.doneV j e b ob hj (jlt hj) hs]
            · rw [hS1.sameV b hb fun j e ob hj _ hs => hex ⟨j, e, ob, hj, hs⟩, hfinal.sameV b hb fun j e ob hj _ hs => hex ⟨j, e, ob, hj, hs⟩]
          · rw [hS1.newV b (by omega), hfinal.newV b (by omega)]
            congr 1
            exact newObjs_congr' fun j e hj hne => by rw [stmem j e hj (.inr hne), jlt hj]
        generalize hexd : exOf ms st st' i 0 tr = ex' at *
        have exin : ∀ x, x ∈ ex' ↔ ∃ j e, tr[j]? = some e ∧ preB ms st i j = true ∧ st'.testBit j = false ∧ x = (j, e.dst, e.v) := fun x => by
          rw [← hexd]
          have := exOf_mem (x := x) (ms := ms) (st := st) (st' := st') (c := i) tr 0
          simpa only [Nat.zero_add] using this
        have tmpEq : ∀ t, (t < Sp.tmps.length → ∀ x ∈ ex', x.2.1 ≠ some t) → nth undef Sp.tmps t = nth undef S1.tmps t := by
          intro t hno
          by_cases ht : t < Sp.tmps.length
          · by_cases hex : ∃ (j : Nat) (e : TE), tr[j]? = some e ∧ e.dst = some t
            · obtain ⟨j, e, hj, hd⟩ := hex
              have hne : e ≠ deadTE := fun h => by subst h; cases hd
              cases hs' : st'.testBit j with
              | true => rw [hS1.done j e t hj (ahead j e hj hne hs') hd, hfinal.done j e t hj (jlt hj) hd]
              | false => exact absurd hd (hno ht (j, e.dst, e.v) ((exin _).2 ⟨j, e, hj, live j e hj hne, hs', rfl⟩))
            · rw [hS1.same t fun j e hj _ hd => hex ⟨j, e, hj, hd⟩, hfinal.same t fun j e hj _ hd => hex ⟨j, e, hj, hd⟩]
          · have h1 : nth undef Sp.tmps t = undef := by rw [nth_eq, List.getD_eq_getElem?_getD, List.getElem?_eq_none (by omega)]; rfl
            have h2 : nth undef S1.tmps t = undef := by rw [nth_eq, List.getD_eq_getElem?_getD, List.getElem?_eq_none (by rw [hS1.lenT, ← hfinal.lenT]; omega)]; rfl
            rw [h1, h2]
        have al'mem : ∀ x, x ∈ alOf P ops.toList V0.length st' ↔ x ∈ allocPl P ops.toList 0 V0.length ∧ st'.testBit x.1 = false := fun x => by
          unfold alOf; rw [List.mem_filter]; simp
        have alsub : ∀ x ∈ alOf P ops.toList V0.length st', x ∈ alOf P ops.toList V0.length st ∧ st'.testBit x.1 = false := fun x hx => by
          obtain ⟨h1, h2⟩ := (al'mem x).1 hx
          refine ⟨(almem x).2 ⟨h1, ?_⟩, h2⟩
          cases hs : st.testBit x.1 with
          | false => rfl
          | true => rw [(st'_iff x.1).2 (.inl hs)] at h2; cases h2
        have alrest : ∀ x ∈ alOf P ops.toList V0.length st, listed.getD x.1 false = false → x ∈ alOf P ops.toList V0.length st' := fun x hx hL => by
          obtain ⟨h1, h2⟩ := (almem x).1 hx
          refine (al'mem x).2 ⟨h1, ?_⟩
          cases hs : st'.testBit x.1 with
          | false => rfl
          | true =>
            rcases (st'_iff x.1).1 hs with h | h | h
            · rw [h2] at h; cases h
            · rw [hanc h] at hL; cases hL
            · exfalso
              obtain ⟨_, o', t, c, g1, g2, g3, _⟩ := hsp x hx
              rw [← g1, h, hoc] at g2
              cases g2
              rw [hnoal] at g3; cases g3
        have hVdlen : (maskV (fun _ => false) (alOf P ops.toList V0.length st') Sp.V).length = (maskV (fun j => listed.getD j false) (alOf P ops.toList V0.length st) S1.V).length := by
          rw [maskV_len, maskV_len, hVeq]
        have hVd : ∀ (b : Nat) (ob : VObj), (maskV (fun _ => false) (alOf P ops.toList V0.length st') Sp.V)[b]? = some ob → ob = .dead ∨ (maskV (fun j => listed.getD j false) (alOf P ops.toList V0.length st) S1.V)[b]? = some ob := by
          intro b ob hb
          by_cases hd : ∃ x ∈ alOf P ops.toList V0.length st', x.2 = b
          · obtain ⟨x, hx, hxb⟩ := hd
            left
            have hbl : b < Sp.V.length := by
              have := (List.getElem?_eq_some_iff.1 hb).1
              rwa [maskV_len] at this
            rw [maskV_dead _ _ _ b hbl ⟨x, hx, hxb, rfl⟩] at hb
            cases hb; rfl
          · right
            rw [maskV_ne _ _ _ b fun x hx hxb => absurd ⟨x, hx, hxb⟩ hd] at hb
            rw [maskV_ne _ _ _ b fun x hx hxb => ?_, hVeq]
            · exact hb
            · cases hL : listed.getD x.1 false with
              | true => rfl
              | false => exact absurd ⟨x, alrest x hx hL, hxb⟩ hd
        have hRm : Rep env1 ⟨cutT' ex' Sp.tmps, maskV (fun _ => false) (alOf P ops.toList V0.length st') Sp.V⟩ a1 w1 := by
          refine ⟨hR1.mem.forget hVdlen hVd, hR1.def_, by rw [hR1.size, hS1.lenT, ← hfinal.lenT]; exact (cutT'_len _ _).symm, fun t ht => ?_, fun v hv => ?_⟩
          · rcases cutT'_get ex' Sp.tmps t with h | ⟨h, h'⟩
            · exact .inl h
            · dsimp only
              rw [h, tmpEq t h']
              exact hR1.tm t (by rw [hS1.lenT, ← hfinal.lenT]; dsimp only at ht; rwa [cutT'_len] at ht)
          · obtain ⟨t, ht, he⟩ := List.getElem_of_mem hv
            have hv' : nth undef (cutT' ex' Sp.tmps) t = v := by rw [nth_eq, List.getD_eq_getElem?_getD, List.getElem?_eq_getElem ht]; exact he
            rcases cutT'_get ex' Sp.tmps t with h | ⟨h, h'⟩
            · rw [← hv', h]; exact .unk
            · rw [← hv', h, tmpEq t h']
              show Sc (maskV (fun _ => false) (alOf P ops.toList V0.length st') Sp.V).length _
              rw [hVdlen]
              have ht1 : t < S1.tmps.length := by rw [hS1.lenT, ← hfinal.lenT]; rwa [cutT'_len] at ht
              exact hR1.sc _ (by rw [nth_eq, List.getD_eq_getElem?_getD, List.getElem?_eq_getElem ht1]; simp)
        unfold wpOp
        simp only [hopc]
        rw [if_pos (wants_wanted hRm hwants)]
        refine .inl (Oper.wp_mono ?_ (wp_put (xone_ok (K := fun a' w' => ∃ env' S2, Fr env1 (maskV (fun _ => false) (alOf P ops.toList V0.length st') Sp.V) w1 env' S2.V w' ∧ Rep env' S2 a' w' ∧ (match reviveOk (alOf P ops.toList V0.length st') (maskV (fun _ => false) (alOf P ops.toList V0.length st') Sp.V) S2 with | true => setAl P ops.toList (alOf P ops.toList V0.length st') S2.V fun V2 => drawBar P C ops.toList ms V0.length n st' ex' ⟨S2.tmps, V2⟩ k | false => False)) hC hRm hk (fun env' S' a' w' hF' hR' hk' => ⟨env', S', hF', hR', hk'⟩))))
        rintro a2 w2 ⟨⟨env2, S2, hF2, hR2, hd2⟩, u, hu⟩
        split at hd2
        case' h_2 => exact hd2.elim
        rename_i hrev
        obtain ⟨V2, hd2, hV2len, hV2o, hV2a⟩ := setAl_ok _ _ _ hd2 fun x hx y hy => hinj x (alsub x hx).1 y (alsub y hy).1
        have hrev' : ∀ x ∈ alOf P ops.toList V0.length st', okOld S2.V (maskV (fun _ => false) (alOf P ops.toList V0.length st') Sp.V) = true ∧ S2.V[x.2]? = some .dead ∧ (∀ v ∈ S2.tmps, FreeV x.2 v) ∧ ∀ ob ∈ S2.V, FreeO x.2 ob := by
          intro x hx
          unfold reviveOk at hrev
          split at hrev
          · rename_i he; rw [he] at hx; cases hx
          · rw [Bool.and_eq_true] at hrev
            have := List.all_eq_true.1 hrev.2 x hx
            simp only [Bool.and_eq_true] at this
            obtain ⟨⟨q1, q2⟩, q3⟩ := this
            refine ⟨hrev.1, ?_, fun v hv => freeB_ok 6 v (List.all_eq_true.1 q2 v hv), fun ob hob => freeO_ok (List.all_eq_true.1 q3 ob hob)⟩
            split at q1
            · assumption
            · cases q1
        have hokOld : alOf P ops.toList V0.length st' ≠ [] → okOld S2.V (maskV (fun _ => false) (alOf P ops.toList V0.length st') Sp.V) = true := fun hne => by
          obtain ⟨x, hx⟩ := List.exists_mem_of_ne_nil _ hne
          exact (hrev' x hx).1
        have hal2 : ∀ x ∈ alOf P ops.toList V0.length st', ∃ o t c, ops.toList[x.1]? = some o ∧ allocOf P o = some (t, c) ∧ V2[x.2]? = some (.cells t c) := fun x hx => hV2a x hx (List.getElem?_eq_some_iff.1 (hrev' x hx).2.1).1
        have hsz2 : S2.tmps.length = S1.tmps.length := by
          rw [← hR2.size, ← hR1.size, hu]
          cases o.dst <;> simp [Act.put]
        -- the tmps of what has been run
        let T2 : List Value := (List.range S2.tmps.length).map fun t => match ex'.find? (fun x => listed.getD x.1 false && x.2.1 == some t) with | some x => x.2.2 | none => nth undef S2.tmps t
        have hT2len : T2.length = S2.tmps.length := by simp [T2]
        have hT2get : ∀ t, t < S2.tmps.length → nth undef T2 t = (match ex'.find? (fun x => listed.getD x.1 false && x.2.1 == some t) with | some x => x.2.2 | none => nth undef S2.tmps t) := fun t ht => by
          rw [nth_eq, List.getD_eq_getElem?_getD]
          simp [T2, ht]
        have found : ∀ t x, ex'.find? (fun x => listed.getD x.1 false && x.2.1 == some t) = some x → x ∈ ex' ∧ listed.getD x.1 false = true ∧ x.2.1 = some t := fun t x h => by
          have h1 := List.find?_some h
          simp only [Bool.and_eq_true, beq_iff_eq] at h1
          exact ⟨List.mem_of_find?_eq_some h, h1.1, h1.2⟩
        have uniq : ∀ x ∈ ex', ∀ y ∈ ex', ∀ t, x.2.1 = some t → y.2.1 = some t → x = y := by
          intro x hx y hy t hxt hyt
          obtain ⟨j, e, hj, _, _, rfl⟩ := (exin x).1 hx
          obtain ⟨j', e', hj', _, _, rfl⟩ := (exin y).1 hy
          by_cases hjj : j = j'
          · subst hjj; rw [hj] at hj'; cases hj'; rfl
          · exact absurd hxt (hT.apart j j' e e' t hj hj' hjj hyt)
        have hex2 : ∀ x ∈ ex', ∀ t, listed.getD x.1 false = true → x.2.1 = some t → t < S2.tmps.length ∧ nth undef T2 t = x.2.2 := by
          intro x hx t hL hd
          have ht : t < S2.tmps.length := by
            obtain ⟨j, e, hj, _, _, rfl⟩ := (exin x).1 hx
            rw [hsz2, hS1.lenT]; exact hT.dst j e t hj hd
          refine ⟨ht, ?_⟩
          rw [hT2get t ht]
          cases hf : ex'.find? (fun x => listed.getD x.1 false && x.2.1 == some t) with
          | none =>
            have := List.find?_eq_none.1 hf x hx
            simp [hL, hd] at this
          | some y =>
            obtain ⟨h1, h2, h3⟩ := found t y hf
            rw [uniq y h1 x hx t h3 hd]
        have hno2 : ∀ t, (∀ x ∈ ex', listed.getD x.1 false = true → x.2.1 ≠ some t) → nth undef T2 t = nth undef S2.tmps t := by
          intro t hno
          by_cases ht : t < S2.tmps.length
          · rw [hT2get t ht]
            cases hf : ex'.find? (fun x => listed.getD x.1 false && x.2.1 == some t) with
            | none => rfl
            | some y =>
              obtain ⟨h1, h2, h3⟩ := found t y hf
              exact absurd h3 (hno y h1 h2)
          · have h1 : nth undef T2 t = undef := by rw [nth_eq, List.getD_eq_getElem?_getD, List.getElem?_eq_none (by rw [hT2len]; exact Nat.le_of_not_lt ht)]; rfl
            have h2 : nth undef S2.tmps t = undef := by rw [nth_eq, List.getD_eq_getElem?_getD, List.getElem?_eq_none (Nat.le_of_not_lt ht)]; rfl
            rw [h1, h2]
        have hexv : ∀ x ∈ ex', ∀ t, listed.getD x.1 false = true → x.2.1 = some t → Rv env2 x.2.2 (a2.tmps.getD t undef) ∧ Sc S2.V.length x.2.2 := by
          intro x hx t hL hd
          obtain ⟨j, e, hj, hp, hs', rfl⟩ := (exin x).1 hx
          dsimp only at hL hd ⊢
          have h1 := hS1.done j e t hj hL hd
          have ht1 : t < S1.tmps.length := by rw [hS1.lenT]; exact hT.dst j e t hj hd
          have hsc : Sc (maskV (fun j => listed.getD j false) (alOf P ops.toList V0.length st) S1.V).length e.v := by
            rw [← h1]
            exact hR1.sc _ (by rw [nth_eq, List.getD_eq_getElem?_getD, List.getElem?_eq_getElem ht1]; simp)
          have hsame : a2.tmps.getD t undef = a1.tmps.getD t undef := by
            rw [hu]
            cases hod : o.dst with
            | none => rfl
            | some d =>
              have hne : t ≠ d := (hflo j e hj hp hs').2.2 t d hd hod
              simp only [Act.put, Array.getD_eq_getD_getElem?]
              rw [Array.getElem?_setIfInBounds, if_neg (fun h => hne h.symm)]
          have hsc' : Sc (maskV (fun _ => false) (alOf P ops.toList V0.length st') Sp.V).length e.v := by rw [hVdlen]; exact hsc
          refine ⟨?_, hsc'.mono hF2.len⟩
          rw [hsame]
          rcases hR1.tm t ht1 with h | h
          · left; rw [← h1]; exact h
          · right
            rw [h, h1]
            exact hsc' env1 env2 fun q hq => (hF2.agree q hq).symm
        have his : i < listed.size := by omega
        have hget : ∀ j, (listed.setIfInBounds i true).getD j false = (listed.getD j false || Nat.beq j i) := by
          intro j
          by_cases hji : j = i
          · subst hji
            rw [Nat.beq_refl]
            simp [his]
          · rw [beq_ne hji, Bool.or_false, getD_set_ne false (Ne.symm hji)]
        have alne : ∀ x ∈ alOf P ops.toList V0.length st', (listed.setIfInBounds i true).getD x.1 false = listed.getD x.1 false := fun x hx => by
          have : x.1 ≠ i := fun h => by
            have h1 := (alsub x hx).2
            rw [h, (st'_iff i).2 (.inr (.inr rfl))] at h1
            cases h1
          rw [hget, beq_ne this, Bool.or_false]
        -- the variables that were made come back
        have hV3 : ∀ (b : Nat) (ob : VObj), (maskV (fun j => (listed.setIfInBounds i true).getD j false) (alOf P ops.toList V0.length st') V2)[b]? = some ob →
            S2.V[b]? = some ob ∨ ((maskV (fun _ => false) (alOf P ops.toList V0.length st') Sp.V)[b]? = some .dead ∧ ∃ t c, ob = .cells t c ∧ (maskV (fun j => listed.getD j false) (alOf P ops.toList V0.length st) S1.V)[b]? = some ob ∧ c.all plainC = true) := by
          intro b ob hb
          have hb2 : b < V2.length := by
            have := (List.getElem?_eq_some_iff.1 hb).1
            rwa [maskV_len] at this
          by_cases hd : ∃ x ∈ alOf P ops.toList V0.length st', x.2 = b
          · obtain ⟨x, hx, hxb⟩ := hd
            have hdead2 := (hrev' x hx).2.1
            rw [hxb] at hdead2
            cases hL : listed.getD x.1 false with
            | false =>
              rw [maskV_dead _ _ _ b hb2 ⟨x, hx, hxb, by rw [alne x hx]; exact hL⟩] at hb
              cases hb
              exact .inl hdead2
            | true =>
              right
              have hun : ∀ y ∈ alOf P ops.toList V0.length st', y.2 = b → y.1 = x.1 := fun y hy hyb => (hinj y (alsub y hy).1 x (alsub x hx).1).2 (by rw [hyb, hxb])
              rw [maskV_ne _ _ _ b fun y hy hyb => by rw [alne y hy, hun y hy hyb]; exact hL] at hb
              obtain ⟨o', t, c, g1, g2, g3⟩ := hal2 x hx
              rw [hxb, hb] at g3
              cases g3
              obtain ⟨_, o'', t', c', g4, g5, g6, g7, g8, g9⟩ := hsp x (alsub x hx).1
              rw [← g4, g1] at g5
              cases g5
              rw [g2] at g6
              cases g6
              have hbS : b < Sp.V.length := by rw [hfinal.lenV, ← hxb]; omega
              refine ⟨maskV_dead _ _ _ b hbS ⟨x, hx, hxb, rfl⟩, t, c, rfl, ?_, (allocOf_facts g2).2.1⟩
              rw [maskV_ne _ _ _ b fun y hy hyb => by
                have h1 : y.1 = x.1 := (hinj y hy x (alsub x hx).1).2 (by rw [hyb, hxb])
                rw [h1]; exact hL]
              rw [← hxb]
              rw [hS1.sameV x.2 g9 fun j e ob hj hLj hs => ?_]
              · exact g8
              · have h1 := List.all_eq_true.1 (List.all_eq_true.1 hnost x hx) e (List.mem_of_getElem? hj)
                rw [hs] at h1
                simp at h1
          · rw [maskV_ne _ _ _ b fun y hy hyb => absurd ⟨y, hy, hyb⟩ hd, hV2o b fun y hy hyb => hd ⟨y, hy, hyb⟩] at hb
            exact .inl hb
        have hRF3 : RepW env2 (maskV (fun j => (listed.setIfInBounds i true).getD j false) (alOf P ops.toList V0.length st') V2) w2 ∧ Fr env1 (maskV (fun j => listed.getD j false) (alOf P ops.toList V0.length st) S1.V) w1 env2 (maskV (fun j => (listed.setIfInBounds i true).getD j false) (alOf P ops.toList V0.length st') V2) w2 := by
          by_cases hne : alOf P ops.toList V0.length st' = []
          · have e1 : maskV (fun j => (listed.setIfInBounds i true).getD j false) (alOf P ops.toList V0.length st') V2 = S2.V := List.ext_getElem? fun b => by
              rw [maskV_ne _ _ _ b fun x hx => (by rw [hne] at hx; cases hx)]
              exact hV2o b fun x hx => (by rw [hne] at hx; cases hx)
            have e2 : maskV (fun j => listed.getD j false) (alOf P ops.toList V0.length st) S1.V = maskV (fun _ => false) (alOf P ops.toList V0.length st') Sp.V := List.ext_getElem? fun b => by
              have q1 : (maskV (fun j => listed.getD j false) (alOf P ops.toList V0.length st) S1.V)[b]? = S1.V[b]? := maskV_ne _ _ _ b fun x hx _ => by
                cases hL : listed.getD x.1 false with
                | true => rfl
                | false => have := alrest x hx hL; rw [hne] at this; cases this
              have q2 : (maskV (fun _ => false) (alOf P ops.toList V0.length st') Sp.V)[b]? = Sp.V[b]? := maskV_ne _ _ _ b fun x hx => (by rw [hne] at hx; cases hx)
              rw [q1, q2, hVeq]
            rw [e1, e2]
            exact ⟨hR2.mem, hF2⟩
          · exact revive hR1.mem hVdlen hVd hR2.mem hF2 (hokOld hne) (by rw [maskV_len, hV2len]) hV3
        have hR2' : Rep env2 ⟨T2, maskV (fun j => (listed.setIfInBounds i true).getD j false) (alOf P ops.toList V0.length st') V2⟩ a2 w2 := by
          refine ⟨hRF3.1, hR2.def_, by rw [hR2.size]; exact hT2len.symm, fun t ht => ?_, fun v hv => ?_⟩
          · dsimp only at ht ⊢
            rw [hT2len] at ht
            rw [hT2get t ht]
            cases hf : ex'.find? (fun x => listed.getD x.1 false && x.2.1 == some t) with
            | none => exact hR2.tm t ht
            | some y =>
              obtain ⟨h1, h2, h3⟩ := found t y hf
              exact (hexv y h1 t h2 h3).1
          · show Sc (maskV (fun j => (listed.setIfInBounds i true).getD j false) (alOf P ops.toList V0.length st') V2).length v
            rw [maskV_len, hV2len]
            obtain ⟨t, ht, he⟩ := List.mem_map.1 hv
            rw [List.mem_range] at ht
            rw [← he]
            cases hf : ex'.find? (fun x => listed.getD x.1 false && x.2.1 == some t) with
            | none => exact hR2.sc _ (by rw [nth_eq, List.getD_eq_getElem?_getD, List.getElem?_eq_getElem ht]; simp)
            | some y =>
              obtain ⟨h1, h2, h3⟩ := found t y hf
              exact (hexv y h1 t h2 h3).2
        have xne : ∀ x ∈ ex', (listed.setIfInBounds i true).getD x.1 false = listed.getD x.1 false := fun x hx => by
          obtain ⟨j, e, hj, hp, hs', rfl⟩ := (exin x).1 hx
          have : j ≠ i := fun h => by subst h; rw [prec] at hp; cases hp
          rw [hget, beq_ne this, Bool.or_false]
        refine IH st' ex' ⟨S2.tmps, V2⟩ hd2 hal2 ?_ ?_ fuel (listed.setIfInBounds i true) env2 a2 w2 ⟨T2, V2⟩ (by simp [hsz]) ?_ ?_ ?_ ?_ rfl hT2len ?_ ?_ hR2' (hF1.trans hRF3.2)
        · intro x hx t
          by_cases ht : t < S2.tmps.length
          · exact (hrev' x hx).2.2.1 _ (by rw [nth_eq, List.getD_eq_getElem?_getD, List.getElem?_eq_getElem ht]; simp)
          · have : nth undef S2.tmps t = undef := by rw [nth_eq, List.getD_eq_getElem?_getD, List.getElem?_eq_none (Nat.le_of_not_lt ht)]; rfl
            dsimp only
            rw [this]
            exact .of_sc (Sc.undef (n := 0)) (Nat.zero_le _)
        · intro x hx b ob hb
          by_cases hd : ∃ y ∈ alOf P ops.toList V0.length st', y.2 = b
          · obtain ⟨y, hy, hyb⟩ := hd
            obtain ⟨o', t, c, g1, g2, g3⟩ := hal2 y hy
            dsimp only at hb
            rw [hyb, hb] at g3
            cases g3
            exact fun v hv => .plain (List.all_eq_true.1 (allocOf_facts g2).2.1 v hv)
          · dsimp only at hb
            rw [hV2o b fun y hy hyb => hd ⟨y, hy, hyb⟩] at hb
            exact (hrev' x hx).2.2.2 ob (List.mem_of_getElem? hb)
        · have hi' : i < listed.toList.length := by simp; omega
          have hv : listed.toList[i] = false := by
            simp [his] at hunf
            simpa using hunf
          rw [Array.toList_setIfInBounds]
          have : (listed.toList.set i true).count false = listed.toList.count false - 1 := by
            rw [List.count_set hi']
            simp [hv]
          rw [this, hcnt]; omega
        · intro j o' ho' hL e' he' hb
          rw [hget] at hL
          rw [hget]
          simp only [Bool.or_eq_true] at hL ⊢
          rcases hL with hL | hL
          · exact .inl (hdc j o' ho' hL e' he' hb)
          · have := Nat.eq_of_beq_eq_true hL
            subst this
            rw [hopc] at ho'; cases ho'
            exact .inl (hpr e' he' hb)
        · intro j hj hs
          rw [hget]
          rcases (st'_iff j).1 hs with h | h | h
          · rw [hP j hj h]; rfl
          · rw [hanc h]; rfl
          · subst h; rw [Nat.beq_refl, Bool.or_true]
        · intro j hL
          rw [hget, Bool.or_eq_true] at hL
          rcases hL with hL | hL
          · rcases hin j hL with h | h
            · exact .inl ((st'_iff j).2 (.inl h))
            · cases hs' : st'.testBit j with
              | true => exact .inl rfl
              | false =>
                have hjs : j < ops.size := by
                  refine Classical.byContradiction fun hge => ?_
                  have : ¬ j < listed.size := by omega
                  simp [this] at hL
                have hjt : j < tr.length := by rw [hT.size]; exact hjs
                exact .inr ⟨(j, tr[j].dst, tr[j].v), (exin _).2 ⟨j, tr[j], by simp [hjt], h, hs', rfl⟩, rfl⟩
          · exact .inl ((st'_iff j).2 (.inr (.inr (Nat.eq_of_beq_eq_true hL))))
        · intro x hx t hL hd
          rw [xne x hx] at hL
          exact (hex2 x hx t hL hd).2
        · intro t hno
          exact hno2 t fun x hx hL => hno x hx (by rw [xne x hx]; exact hL)
      · intro listed env1 a1 w1 S1 hall hS1 hR1 hF1 hin
        exfalso
        rcases hin c (hall c hcsz) with h | h
        · rw [hstc] at h; cases h
        · rw [prec] at h; cases h


theorem draw_wpT (hC : CtxOK P C) {env : Nat → Loc} {id : Nat} {ops : Array Oper} {S : VSt} {a : Act} {w : World} {k : VSt → Prop} {Q : Exit → Act → World → Prop} (hR : Rep env S a w)
    (h : xdrawT P C ops.toList S k) (next : ∀ env' a' w' S', Fr env S.V w env' S'.V w' → Rep env' S' a' w' → k S' → Q .normal a' w') : (Code.region id ops true).wp P Q a w := by
  unfold xdrawT at h
  split at h
  · exact draw_wp hC hR h next
  · split at h
    · exact h.elim
    · rename_i hm
      rw [appsK_eq] at h
      rcases drawSeg_path _ _ _ _ _ _ _ h with ⟨_, _, _, h⟩ | ⟨_, _, _, _, _, _, _, _, h⟩
      · exact draw_wp hC hR h next
      · refine wp_region_any hm ?_
        have hrep : ∀ j, (Array.replicate ops.size false).getD j false = false := fun j => by
          rcases Nat.lt_or_ge j ops.size with h | h <;> simp [h]
        have hal0 : ∀ x ∈ alOf P ops.toList S.V.length 0, x ∈ allocPl P ops.toList 0 S.V.length := fun x hx => (List.mem_filter.1 hx).1
        have hall0 : ∀ x ∈ allocPl P ops.toList 0 S.V.length, x ∈ alOf P ops.toList S.V.length 0 := fun x hx => List.mem_filter.2 ⟨hx, by simp⟩
        have hspec : ∀ x ∈ alOf P ops.toList S.V.length 0, ∃ o t c, ops.toList[x.1]? = some o ∧ allocOf P o = some (t, c) ∧ S.V.length ≤ x.2 ∧ (S.V ++ allocObs P ops.toList)[x.2]? = some (.cells t c) := fun x hx => by
          obtain ⟨j, o, t, c, h1, h2, h3, h4, h5⟩ := allocPl_spec _ _ _ x (hal0 x hx)
          exact ⟨o, t, c, by rw [h1, Nat.zero_add]; exact h2, h3, h4, by rw [List.getElem?_append_right h4]; exact h5⟩
        have hlenS : S.V.length ≤ (maskV (fun j => (Array.replicate ops.size false).getD j false) (alOf P ops.toList S.V.length 0) (S.V ++ allocObs P ops.toList)).length := by rw [maskV_len, List.length_append]; omega
        have hstart : ∀ (b : Nat) (o : VObj), (maskV (fun j => (Array.replicate ops.size false).getD j false) (alOf P ops.toList S.V.length 0) (S.V ++ allocObs P ops.toList))[b]? = some o → (b < S.V.length ∧ S.V[b]? = some o) ∨ o = .dead := by
          intro b o hb
          by_cases hbS : b < S.V.length
          · rw [maskV_ne _ _ _ b fun x hx hxb => by
              obtain ⟨_, _, _, _, _, h4, _⟩ := hspec x hx
              omega, List.getElem?_append_left hbS] at hb
            exact .inl ⟨hbS, hb⟩
          · right
            have hbl : b < (S.V ++ allocObs P ops.toList).length := by
              have := (List.getElem?_eq_some_iff.1 hb).1
              rwa [maskV_len] at this
            have hk : b - S.V.length < (allocObs P ops.toList).length := by
              rw [List.length_append] at hbl; omega
            obtain ⟨i', hi'⟩ := allocPl_all ops.toList 0 S.V.length _ hk
            rw [show S.V.length + (b - S.V.length) = b by omega] at hi'
            rw [maskV_dead _ _ _ b hbl ⟨_, hall0 _ hi', rfl, hrep _⟩] at hb
            cases hb; rfl
        have hRd := hR.drew
        have hfree : ∀ x ∈ alOf P ops.toList S.V.length 0, ∀ t, FreeV x.2 (nth undef S.tmps t) := fun x hx t => by
          obtain ⟨_, _, _, _, _, h4, _⟩ := hspec x hx
          by_cases ht : t < S.tmps.length
          · exact .of_sc (hR.sc _ (by rw [nth_eq, List.getD_eq_getElem?_getD, List.getElem?_eq_getElem ht]; simp)) h4
          · rw [nth_eq, List.getD_eq_getElem?_getD, List.getElem?_eq_none (Nat.le_of_not_lt ht)]
            exact .of_sc (Sc.undef (n := 0)) (Nat.zero_le _)
        have hfreeV : ∀ x ∈ alOf P ops.toList S.V.length 0, ∀ (b : Nat) (ob : VObj), (S.V ++ allocObs P ops.toList)[b]? = some ob → FreeO x.2 ob := fun x hx b ob hb => by
          obtain ⟨_, _, _, _, _, h4, _⟩ := hspec x hx
          by_cases hbS : b < S.V.length
          · rw [List.getElem?_append_left hbS] at hb
            exact .of_sc (hR.mem.sc b ob hb) h4
          · rw [List.getElem?_append_right (by omega)] at hb
            exact allocObs_free _ _ (List.mem_of_getElem? hb)
        refine drawBar_wp hC (env := env) (w := w) (V0 := S.V) next 12 0 [] ⟨S.tmps, S.V ++ allocObs P ops.toList⟩ h (fun x hx => by obtain ⟨o, t, c, h1, h2, _, h3⟩ := hspec x hx; exact ⟨o, t, c, h1, h2, h3⟩) hfree hfreeV
          ops.size (Array.replicate ops.size false) env a _ ⟨S.tmps, S.V ++ allocObs P ops.toList⟩ (by simp) (by simp [List.count_replicate]) ?_ (fun j _ hj => by simp at hj) ?_ rfl rfl (fun x hx => by simp at hx) (fun _ _ => rfl)
          ⟨⟨fun b o hb => ?_, fun b o hb => ?_, fun b o hb hB => ?_, fun b b' o o' hb hb' hne hw hl hB hB' => ?_, hRd.mem.inv, fun b o hb ho => ?_, hRd.mem.room⟩, hRd.def_, hRd.size, hRd.tm, fun v hv => (hRd.sc v hv).mono hlenS⟩
          ⟨fun _ _ => rfl, hlenS, rfl, rfl, rfl, Nat.le_refl _, fun _ _ _ => rfl, fun b o hb ho => ?_⟩
        · intro j o _ hL
          rw [hrep] at hL; cases hL
        · intro j hL
          rw [hrep] at hL; cases hL
        · rcases hstart b o hb with ⟨_, h1⟩ | rfl
          · exact hRd.mem.mat b o h1
          · trivial
        · rcases hstart b o hb with ⟨_, h1⟩ | rfl
          · exact (hRd.mem.sc b o h1).mono hlenS
          · trivial
        · rcases hstart b o hb with ⟨_, h1⟩ | rfl
          · exact hRd.mem.blk b o h1 hB
          · exact hB.elim
        · rcases hstart b o hb with ⟨_, h1⟩ | rfl
          · rcases hstart b' o' hb' with ⟨_, h2⟩ | rfl
            · exact hRd.mem.sep b b' o o' h1 h2 hne hw hl hB hB'
            · exact hB'.elim
          · exact hB.elim
        · rcases hstart b o hb with ⟨_, h1⟩ | rfl
          · exact hRd.mem.low b o h1 ho
          · exact ho.2.elim
        · rcases hstart b o hb with ⟨_, h1⟩ | rfl
          · exact .inl ⟨b, o, h1, ho, rfl⟩
          · exact ho.2.elim

end Go.X
