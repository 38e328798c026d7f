/- Loops whose rounds end in a state that is cut: the tmps of a list are kept, and the places that there were. -/
import Derived.Test.YtgnhcoefocbmpaaGreatXS9
set_option linter.unusedSimpArgs false
set_option linter.unusedSectionVars false
set_option linter.unusedVariables false
namespace Go.X
open Go
variable [WI]
variable {P : Program}

def cutT (ks : List Nat) : Nat → List Value → List Value
  | _, [] => []
  | i, v :: vs => (match ks.contains i with | true => v | false => unk) :: cutT ks (i + 1) vs

theorem leT_cons {x y : Value} {xs ys : List Value} (h : x = unk ∨ x = y) (hs : leT xs ys) : leT (x :: xs) (y :: ys) := by
  rcases h with rfl | rfl
  · exact hs
  · unfold leT
    split
    · exact hs
    · exact ⟨rfl, hs⟩

theorem cutT_le (ks : List Nat) : ∀ (i : Nat) (l : List Value), leT (cutT ks i l) l
  | _, [] => trivial
  | i, v :: vs => by
    unfold cutT
    refine leT_cons ?_ (cutT_le ks (i + 1) vs)
    split
    · exact .inr rfl
    · exact .inl rfl

/-- the places that there were: cells hold no new place, rows are as they were -/
def okObjs (m : Nat) : VW → VW → Prop → Prop
  | [], _, k => k
  | _ :: _, [], _ => False
  | o :: os, o' :: os', k =>
    match o' with
    | .cells _ c => match c.all (scB m 6) with | true => okObjs m os os' k | false => False
    | .rows .. => o' = o ∧ okObjs m os os' k
    | .iter .. => okObjs m os os' k
    | .mp es _ => match es.all fun e => scB m 6 e.1 && scB m 6 e.2.1 with | true => okObjs m os os' k | false => False
    | .mq .. => okObjs m os os' k
    | .vec .. => o' = o ∧ okObjs m os os' k
    | .arg .. => okObjs m os os' k
    | .tab .. => okObjs m os os' k
    | .raw _ _ _ _ _ hs => match holesOk m hs with | true => okObjs m os os' k | false => False
    | .dead => okObjs m os os' k

theorem okObjs_ok {m : Nat} : ∀ {os os' : VW} {k : Prop}, okObjs m os os' k → (∀ (i : Nat) (o : VObj), os[i]? = some o → ScO m o) →
    k ∧ os.length ≤ os'.length ∧ ∀ (i : Nat) (o : VObj), i < os.length → os'[i]? = some o → ScO m o
  | [], _, k, h, _ => ⟨h, Nat.zero_le _, fun i o hi => by simp at hi⟩
  | _ :: _, [], k, h, _ => h.elim
  | o :: os, o' :: os', k, h, hs => by
    unfold okObjs at h
    have hs' : ∀ (i : Nat) (o : VObj), os[i]? = some o → ScO m o := fun i o hi => hs (i + 1) o hi
    have fin : ScO m o' → okObjs m os os' k → k ∧ (o :: os).length ≤ (o' :: os').length ∧ ∀ (i : Nat) (q : VObj), i < (o :: os).length → (o' :: os')[i]? = some q → ScO m q := by
      intro h1 h2
      obtain ⟨hk, hl, hi⟩ := okObjs_ok h2 hs'
      refine ⟨hk, by simpa using hl, fun i q hi' hq => ?_⟩
      cases i with
      | zero => simp at hq; subst hq; exact h1
      | succ i => exact hi i q (by simpa using hi') (by simpa using hq)
    split at h
    · split at h
      · rename_i hc
        exact fin (fun v hv => scB_ok 6 v (List.all_eq_true.1 hc v hv)) h
      · exact h.elim
    · exact fin (h.1 ▸ hs 0 o rfl) h.2
    · exact fin trivial h
    · split at h
      · rename_i hc
        exact fin (fun e he => by have := List.all_eq_true.1 hc e he; simp only [Bool.and_eq_true] at this; exact ⟨scB_ok 6 _ this.1, scB_ok 6 _ this.2⟩) h
      · exact h.elim
    · exact fin trivial h
    · exact fin (h.1 ▸ hs 0 o rfl) h.2
    · exact fin trivial h
    · exact fin trivial h
    · split at h
      · rename_i hc
        exact fin (holesOk_ok hc) h
      · exact h.elim
    · exact fin trivial h

def okCut (S : VSt) (ks : List Nat) (S' : VSt) (k : VSt → Prop) : Prop :=
  match (cutT ks 0 S'.tmps).all (scB S.V.length 6) with
  | true => okObjs S.V.length S.V S'.V (k ⟨cutT ks 0 S'.tmps, S'.V.take S.V.length⟩)
  | false => False

theorem leV_take : ∀ (n : Nat) (V : VW), leV (V.take n) V
  | 0, V => by simp [leV]
  | n + 1, [] => by simp [leV]
  | n + 1, o :: os => by
    rw [List.take_succ_cons]
    exact ⟨rfl, leV_take n os⟩

theorem Does.cutPost {c : Code} {S : VSt} {K : Exit → VSt → Prop} (ks : List Nat) (h : Does P c S fun e S' => okCut S ks S' (K e)) :
    Does P c S fun e S'' => K e S'' ∧ ScS S'' ∧ S''.V.length = S.V.length :=
  fun env a w hR => wp_mono (h env a w hR) fun e a' w' ⟨hne, env', S', hF, hR', hK⟩ => by
    dsimp only at hK
    unfold okCut at hK
    split at hK
    · rename_i hc
      obtain ⟨hk, hl, hsc⟩ := okObjs_ok hK hR.mem.sc
      have hlen : (S'.V.take S.V.length).length = S.V.length := by simp [hl]
      have hS : ScS ⟨cutT ks 0 S'.tmps, S'.V.take S.V.length⟩ := by
        refine .of (by rw [hlen]; exact hc) fun i o hi => ?_
        rw [hlen]
        have hi' : i < S.V.length := by
          have := (List.getElem?_eq_some_iff.1 hi).1
          rw [hlen] at this; exact this
        refine hsc i o hi' ?_
        rwa [List.getElem?_take, if_pos hi'] at hi
      have hle : Le ⟨cutT ks 0 S'.tmps, S'.V.take S.V.length⟩ S' := ⟨cutT_le ks 0 _, leV_take _ _⟩
      exact ⟨hne, env', ⟨cutT ks 0 S'.tmps, S'.V.take S.V.length⟩, hF.le hle.2 (Nat.le_of_eq hlen.symm), hR'.le hle hS, hk, hS, hlen⟩
    · exact hK.elim

theorem least {p : Nat → Prop} (h : ∃ n, p n) : ∃ n, p n ∧ ∀ m, p m → n ≤ m := by
  obtain ⟨n, hn⟩ := h
  induction n using Nat.strongRecOn with
  | _ n ih =>
    by_cases hm : ∃ m, m < n ∧ p m
    · obtain ⟨m, h1, h2⟩ := hm
      exact ih m h1 h2
    · exact ⟨n, hn, fun m hp => Nat.le_of_not_lt fun hlt => hm ⟨m, hlt, hp⟩⟩

open Classical in
noncomputable def leastOf (J : Nat → VSt → Prop) (S : VSt) : Nat := if h : ∃ k, J k S then Classical.choose (least h) else 0

theorem leastOf_le {J : Nat → VSt → Prop} {S : VSt} {k : Nat} (h : J k S) : J (leastOf J S) S ∧ leastOf J S ≤ k := by
  have he : ∃ k, J k S := ⟨k, h⟩
  unfold leastOf
  rw [dif_pos he]
  have := Classical.choose_spec (least he)
  exact ⟨this.1, this.2 k h⟩

/-- what is asked of the end of a round: the state that is cut -/
def roundC (id : Nat) (ks : List Nat) (J : Nat → VSt → Prop) (k : Nat) (K : Exit → VSt → Prop) (S : VSt) (e : Exit) (S' : VSt) : Prop :=
  match e with
  | .normal => okCut S ks S' fun S'' => k ≠ 0 ∧ J (k - 1) S''
  | .exit i => match Nat.beq i id with | true => okCut S ks S' (K .normal) | false => okCut S ks S' (K (.exit i))
  | e => okCut S ks S' (K e)

theorem Does.roundsC {id : Nat} {body : Code} {K : Exit → VSt → Prop} (ks : List Nat) (J : Nat → VSt → Prop)
    (round : ∀ k S, J k S → Does P body S (roundC id ks J k K S)) : ∀ k S, J k S → Does P (.block id (.loop body)) S K := by
  intro k S hJ
  refine Does.rounds (fun S => ∃ k, J k S) (leastOf J) (fun S ⟨k, hk⟩ => ?_) S ⟨k, hJ⟩
  have h := round _ S (leastOf_le hk).1
  have h2 := Does.cutPost (P := P) (c := body) (S := S) ks (K := fun e S'' => match e with
      | .normal => leastOf J S ≠ 0 ∧ J (leastOf J S - 1) S''
      | .exit i => if i = id then K .normal S'' else K (.exit i) S''
      | e => K e S'') (h.mono fun e S' h => by
    cases e with
    | exit i =>
      simp only [roundC] at h
      by_cases hi : i = id
      · subst hi; simp only [Nat.beq_refl] at h; simp only [if_true]; exact h
      · rw [beq_ne hi] at h; simp only [hi, if_false]; exact h
    | _ => exact h)
  refine h2.mono fun e S'' ⟨hk, hsc, hl⟩ => ?_
  have hle : Less S S'' S'' := ⟨⟨leT_refl _, leV_refl _⟩, hsc, Nat.le_of_eq hl.symm⟩
  cases e with
  | normal => exact ⟨S'', hle, ⟨_, hk.2⟩, by have := (leastOf_le hk.2).2; have := hk.1; omega⟩
  | exit i =>
    simp only [roundK]
    by_cases hi : i = id
    · subst hi; simp only [Nat.beq_refl]; simp only [if_true] at hk; exact ⟨S'', hle, hk⟩
    · rw [beq_ne hi]; simp only [hi, if_false] at hk; exact ⟨S'', hle, hk⟩
  | _ => exact ⟨S'', hle, hk⟩
end Go.X
