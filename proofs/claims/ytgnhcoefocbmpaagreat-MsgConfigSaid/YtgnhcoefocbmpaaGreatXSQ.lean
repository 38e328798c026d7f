/- Calls whose ends are told under other numbers; contexts with calls that turn the memory, and with several loops. -/
import Derived.Test.YtgnhcoefocbmpaaGreatXSR
set_option linter.unusedSimpArgs false
set_option linter.unusedSectionVars false
set_option linter.unusedVariables false
namespace Go.X
open Go
variable [WI]
variable {P : Program}

def one1 (K : Value → VW → Prop) (S : VSt) : Prop := match S.tmps with | [v] => K v S.V | _ => False

theorem CallDoes.reshape {f : FuncId} {args : List Value} {V : VW} {K : Value → VW → Prop} (sel : Value → VW → List Sel) (nt : List (Nat × Nat)) (nc : List (Nat × Nat × Nat))
    (h : CallDoes P f args V fun v V' => reshape V.length (sel v V') [0] nt nc ⟨[v], V'⟩ (one1 K)) : CallDoes P f args V K := by
  intro env w hW hsc
  refine (h env w hW hsc).mono ?_
  rintro e w' ⟨u, env', V', v, rfl, hrv, hW', hF, hK⟩
  obtain ⟨env2, S2, hF2, hR2, hk, _⟩ := reshape_ok' (a := ⟨#[u], []⟩) (S := ⟨[v], V'⟩) hF hW' rfl rfl (fun t ht => by
    have : t = 0 := by simp at ht; exact ht
    subst this
    exact hrv) hK
  unfold one1 at hk
  split at hk
  · rename_i v' hv'
    refine ⟨u, env2, S2.V, v', rfl, ?_, hR2.mem, hF2, hk⟩
    have := hR2.tm 0 (by rw [hv']; simp)
    rw [hv'] at this
    exact this
  · exact hk.elim

theorem rsV_mono {sel : List Sel} {nc : List (Nat × Nat × Nat)} {V : VW} : ∀ (l : List Sel) (j : Nat) {k k' : VW → Prop}, (∀ V, k V → k' V) → rsV sel nc V j l k → rsV sel nc V j l k'
  | [], j, k, k', hk, h => hk _ h
  | y :: r, j, k, k', hk, h => by
    cases y with
    | keep p =>
      simp only [rsV] at h ⊢
      split at h
      · split at h
        · exact rsV_mono r (j + 1) (fun l => hk _) h
        · exact h.elim
      · exact h.elim
    | drop p =>
      simp only [rsV] at h ⊢
      split at h
      · exact rsV_mono r (j + 1) (fun l => hk _) h
      · exact h.elim
    | vec p =>
      simp only [rsV] at h ⊢
      split at h
      · exact ⟨h.1, rsV_mono r (j + 1) (fun l => hk _) h.2⟩
      · exact h.elim
    | nilv t m =>
      simp only [rsV] at h ⊢
      exact rsV_mono r (j + 1) (fun l => hk _) h

theorem reshape_mono {n0 : Nat} {sel : List Sel} {ks : List Nat} {nt : List (Nat × Nat)} {nc : List (Nat × Nat × Nat)} {S : VSt} {k k' : VSt → Prop} (hk : ∀ S, k S → k' S) (h : reshape n0 sel ks nt nc S k) : reshape n0 sel ks nt nc S k' := by
  unfold X.reshape at h ⊢
  split at h
  · exact rsV_mono _ _ (fun V hV => hk _ hV) h
  · exact h.elim

/-- a call in a larger memory of a function that was run over none: what it made lies behind -/
theorem CallDoes.frame {f : FuncId} {args : List Value} {V : VW} {K : Value → VW → Prop} (ha : ∀ x ∈ args, Sc 0 x)
    (h : CallDoes P f args [] fun v V' => (∀ o ∈ V', flatO o ∧ o.owned = true) ∧ K (renB (fun i => V.length + i) v) (V ++ V')) : CallDoes P f args V K := by
  intro env w hW hsc
  have h0 : RepW env [] w := ⟨fun i o h => by simp at h, fun i o h => by simp at h, fun i o h => by simp at h, fun i j oi oj h => by simp at h, hW.inv, fun i o h => by simp at h, hW.room⟩
  refine (h env w h0 ha).mono ?_
  rintro e w' ⟨u, env1, V', v, rfl, hrv, hW1, hF, hok, hK⟩
  have hkeep : ∀ b, b < w.heap.size → w'.heap[b]? = w.heap[b]? := fun b hb => hF.keep b hb (fun i o h => by simp at h)
  let env' : Nat → Loc := fun i => if i < V.length then env i else env1 (i - V.length)
  have hag : ∀ i, i < V.length → env' i = env i := fun i hi => by simp [env', hi]
  have hnew : ∀ j, env' (V.length + j) = env1 j := fun j => by simp [env', show ¬ V.length + j < V.length by omega]
  have hget : ∀ {i : Nat} {o : VObj}, (V ++ V')[i]? = some o → (i < V.length ∧ V[i]? = some o) ∨ (∃ j, i = V.length + j ∧ V'[j]? = some o) := by
    intro i o h
    rw [List.getElem?_append] at h
    split at h
    · exact .inl ⟨‹_›, h⟩
    · exact .inr ⟨i - V.length, by omega, h⟩
  have hfresh : ∀ j o, V'[j]? = some o → hasB (env1 j) o → w.heap.size ≤ (env1 j).blk := by
    intro j o hj hB
    rcases hF.own j o hj ⟨(hok o (List.mem_of_getElem? hj)).2, hB⟩ with ⟨k, ok, hk, _⟩ | h
    · simp at hk
    · exact h
  refine ⟨u, env', V ++ V', renB (fun i => V.length + i) v, rfl, ?_, ?_⟩
  · rcases hrv with h1 | h1
    · left; rw [h1]; simp [renB, unk]
    · right
      rw [h1, ren_renB]
      congr 1
      funext i
      exact (hnew i).symm
  · have := pairRF hW (env' := env') (V' := V ++ V') (w' := w') (fun i o hi => ?_) (fun i o hi => ?_) (fun i o hi hB => ?_) (fun i j oi oj hi hj hij hw hl hBi hBj => ?_)
      ⟨hag, by simp, hF.os, hF.tape, hF.output, hF.size, fun b hb _ => hkeep b hb, fun i o hi ho => ?_⟩
    · exact ⟨this.1, this.2, hK⟩
    · rcases hget hi with ⟨hlt, hi⟩ | ⟨j, rfl, hj⟩
      · rw [hag i hlt]; exact (hW.mat i o hi).keep (fun hB => hkeep _ (hW.blk i o hi hB)) (hW.sc i o hi) hag
      · rw [hnew]; exact (hok o (List.mem_of_getElem? hj)).1.mat (hW1.mat j o hj)
    · rcases hget hi with ⟨hlt, hi⟩ | ⟨j, rfl, hj⟩
      · rw [List.length_append]; exact (hW.sc i o hi).mono (by omega)
      · exact (hok o (List.mem_of_getElem? hj)).1.sc
    · rcases hget hi with ⟨hlt, hi⟩ | ⟨j, rfl, hj⟩
      · rw [hag i hlt] at hB ⊢; exact Nat.lt_of_lt_of_le (hW.blk i o hi hB) hF.size
      · rw [hnew] at hB ⊢; exact hW1.blk j o hj hB
    · rcases hget hi with ⟨hlt, hi⟩ | ⟨k, rfl, hk⟩
      · rcases hget hj with ⟨hlt2, hj⟩ | ⟨m, rfl, hm⟩
        · rw [hag i hlt] at hBi ⊢; rw [hag j hlt2] at hBj ⊢; exact hW.sep i j oi oj hi hj hij hw hl hBi hBj
        · rw [hag i hlt] at hBi ⊢; rw [hnew]
          have := hW.blk i oi hi hBi
          have := hfresh m oj hm (by rw [hnew] at hBj; exact hBj)
          omega
      · rcases hget hj with ⟨hlt2, hj⟩ | ⟨m, rfl, hm⟩
        · rw [hag j hlt2] at hBj ⊢; rw [hnew]
          have := hW.blk j oj hj hBj
          have := hfresh k oi hk (by rw [hnew] at hBi; exact hBi)
          omega
        · rw [hnew] at hBi hBj ⊢; rw [hnew]
          exact hW1.sep k m oi oj hk hm (fun h => hij (by rw [h])) hw hl hBi hBj
    · rcases hget hi with ⟨hlt, hi⟩ | ⟨j, rfl, hj⟩
      · left; rw [hag i hlt] at ho ⊢; exact ⟨i, o, hi, ho, rfl⟩
      · right; rw [hnew] at ho ⊢; exact hfresh j o hj ho.2

/-- rows that may be nil, told by another function that agrees on them -/
inductive AgreeO : VObj → VObj → Prop
  | same (o : VObj) : AgreeO o o
  | vec (t : TypeId) (m n : Nat) (f g : Nat → List Value) : (∀ r, r < n → f r = g r) → AgreeO (.vec t m n f) (.vec t m n g)
  | rows (own : Bool) (t : TypeId) (m n cap : Nat) (f g : Nat → List Value) : (∀ r, r < n → f r = g r) → AgreeO (.rows own t m n cap f) (.rows own t m n cap g)
inductive AgreeV : VW → VW → Prop
  | nil : AgreeV [] []
  | cons {o o' V V'} : AgreeO o o' → AgreeV V V' → AgreeV (o :: V) (o' :: V')

theorem AgreeV.len : ∀ {V V' : VW}, AgreeV V V' → V'.length = V.length
  | _, _, .nil => rfl
  | _, _, .cons _ h => by simp [h.len]
theorem AgreeV.get : ∀ {V V' : VW}, AgreeV V V' → ∀ (i : Nat) (o' : VObj), V'[i]? = some o' → ∃ o, V[i]? = some o ∧ AgreeO o o'
  | _, _, .nil, i, o', h => by simp at h
  | _, _, .cons h hs, 0, o', he => by simp at he; subst he; exact ⟨_, by simp, h⟩
  | _, _, .cons h hs, i + 1, o', he => by
    obtain ⟨o, h1, h2⟩ := hs.get i o' (by simpa using he)
    exact ⟨o, by simpa using h1, h2⟩
theorem AgreeO.flags {o o' : VObj} (h : AgreeO o o') : o'.owned = o.owned ∧ o'.writes = o.writes ∧ o'.live = o.live ∧ ∀ l, hasB l o' ↔ hasB l o := by
  cases h <;> exact ⟨rfl, rfl, rfl, fun _ => Iff.rfl⟩

theorem CallDoes.agree {f : FuncId} {args : List Value} {V : VW} {K : Value → VW → Prop} (h : CallDoes P f args V fun v V' => ∃ V'', AgreeV V' V'' ∧ K v V'') : CallDoes P f args V K := by
  intro env w hW hsc
  refine (h env w hW hsc).mono ?_
  rintro e w' ⟨u, env', V', v, rfl, hrv, hW', hF, V'', hA, hK⟩
  refine ⟨u, env', V'', v, rfl, hrv, ⟨fun i o hi => ?_, fun i o hi => ?_, fun i o hi hB => ?_, fun i j oi oj hi hj hij hw hl hBi hBj => ?_, hW'.inv, fun i o hi ho => ?_, hW'.room⟩,
    ⟨hF.agree, by rw [hA.len]; exact hF.len, hF.os, hF.tape, hF.output, hF.size, hF.keep, fun i o hi ho => ?_⟩, hK⟩
  · obtain ⟨o1, h1, h2⟩ := hA.get i o hi
    have hm := hW'.mat i o1 h1
    cases h2 with
    | same => exact hm
    | vec t m n f g hfg =>
      obtain ⟨a, b, c⟩ := hm
      refine ⟨a, b, fun hc => ?_⟩
      obtain ⟨d, e⟩ := c hc
      exact ⟨fun r hr => by rw [← hfg r hr]; exact d r hr, e⟩
    | rows own t m n cap f g hfg =>
      obtain ⟨a, b, c⟩ := hm
      exact ⟨a, fun r hr => by rw [← hfg r hr]; exact b r hr, c⟩
  · obtain ⟨o1, h1, h2⟩ := hA.get i o hi
    have hm := hW'.sc i o1 h1
    rw [hA.len]
    cases h2 with
    | same => exact hm
    | vec t m n f g hfg => exact fun r hr => by rw [← hfg r hr]; exact hm r hr
    | rows own t m n cap f g hfg => exact fun r hr => by rw [← hfg r hr]; exact hm r hr
  · obtain ⟨o1, h1, h2⟩ := hA.get i o hi
    exact hW'.blk i o1 h1 ((h2.flags.2.2.2 _).1 hB)
  · obtain ⟨o1, h1, h2⟩ := hA.get i oi hi
    obtain ⟨o2, h3, h4⟩ := hA.get j oj hj
    exact hW'.sep i j o1 o2 h1 h3 hij (by rw [← h2.flags.2.1]; exact hw) (by rw [← h4.flags.2.2.1]; exact hl) ((h2.flags.2.2.2 _).1 hBi) ((h4.flags.2.2.2 _).1 hBj)
  · obtain ⟨o1, h1, h2⟩ := hA.get i o hi
    exact hW'.low i o1 h1 ⟨by rw [← h2.flags.1]; exact ho.1, (h2.flags.2.2.2 _).1 ho.2⟩
  · obtain ⟨o1, h1, h2⟩ := hA.get i o hi
    exact hF.own i o1 h1 ⟨by rw [← h2.flags.1]; exact ho.1, (h2.flags.2.2.2 _).1 ho.2⟩

abbrev FnS := List Value → VW → Res
abbrev CallS := List Value → VW → (Value → VW → Prop) → Prop
abbrev BlkS := VSt → (Exit → VSt → Prop) → Prop

def lookA {α : Type} (l : List (Nat × α)) (f : Nat) : Option α :=
  match l with
  | [] => none
  | (k, g) :: r => match Nat.beq k f with | true => some g | false => lookA r f

def ctxG (l : List (Nat × FnS)) (cs : List (Nat × CallS)) (bs : List (Nat × BlkS)) : Ctx := ⟨false, lookA l, lookA cs, lookA bs, fun _ => none⟩

inductive AllF (P : Program) : List (Nat × FnS) → Prop
  | nil : AllF P []
  | cons {f g l} : FnOK P f g → AllF P l → AllF P ((f, g) :: l)
inductive AllC (P : Program) : List (Nat × CallS) → Prop
  | nil : AllC P []
  | cons {f g l} : CallOK P f g → AllC P l → AllC P ((f, g) :: l)

theorem ctxG_ok {l : List (Nat × FnS)} {cs : List (Nat × CallS)} {bs : List (Nat × BlkS)} (h : AllF P l) (hc : AllC P cs) : CtxOK P (ctxG l cs bs) := by
  constructor
  · show ∀ f g, lookA l f = some g → FnOK P f g
    induction h with
    | nil => intro f g h; simp [lookA] at h
    | cons h1 _ ih =>
      intro f g h
      unfold lookA at h
      split at h
      · rename_i hb
        cases h
        have := Nat.eq_of_beq_eq_true hb
        subst this
        exact h1
      · exact ih f g h
  · show ∀ f g, lookA cs f = some g → CallOK P f g
    clear h
    induction hc with
    | nil => intro f g h; simp [lookA] at h
    | cons h1 _ ih =>
      intro f g h
      unfold lookA at h
      split at h
      · rename_i hb
        cases h
        have := Nat.eq_of_beq_eq_true hb
        subst this
        exact h1
      · exact ih f g h
  · intro f g h; cases h

theorem BlksOK.g {c : Code} {l : List (Nat × FnS)} {cs : List (Nat × CallS)} : BlksOK P (ctxG l cs []) c := BlksOK.none fun _ => rfl

def g1p {α : Type} (A : Dec α) (pre : α → Prop) (res : α → Value) : List Value → VW → Res := fun args _ =>
  match args with | [x] => (match A.dec x with | some a => .ob (pre a) (res a) | none => .bad) | _ => .bad

theorem FnOK.g1p {f : FuncId} {α : Type} (hc : Callable P f) (A : Dec α) (pre : α → Prop) (res : α → Value) (hpr : ∀ a, plainR (res a) = true) (h : ∀ a, pre a → CallDoes P f [A.enc a] [] fun v _ => v = res a) : FnOK P f (g1p A pre res) :=
  FnOK.of hc (fun args V p os v h => by unfold X.g1p at h; (repeat' split at h) <;> cases h) fun args V v hg => by
    unfold X.g1p at hg
    split at hg
    · rename_i x
      split at hg
      · rename_i a ha
        rw [Gives.ob_iff] at hg
        obtain ⟨rfl, hp⟩ := hg
        obtain rfl := A.ok _ _ ha
        exact ⟨by simp [A.plain], hpr a, h a hp⟩
      · exact (Gives.bad.1 hg).elim
    · exact (Gives.bad.1 hg).elim

/-- an old row: kept, or kept as one that may be nil -/
def selV (V : VW) (p : Nat) : Sel := match V[p]? with | some (.rows true _ _ _ _ _) => .vec p | _ => .keep p

/-- the place of a slice, as one that may be nil -/
def selS (t : TypeId) (m : Nat) (V : VW) (v : Value) : Sel :=
  match v with
  | .slice (some a) _ _ => selV V a.block
  | _ => .nilv t m
end Go.X
