/- States told under other numbers of their places; loops whose rounds end so. -/
import Derived.Test.YtgnhcoefocbmpaaGreatXS10
set_option linter.unusedSimpArgs false
set_option linter.unusedSectionVars false
set_option linter.unusedVariables false
namespace Go.X
open Go
variable [WI]
variable {P : Program}

def rnL (g : Value → Option Value) : List Value → Option (List Value)
  | [] => some []
  | v :: vs => match g v, rnL g vs with | some v', some l => some (v' :: l) | _, _ => none

/-- the holes of rows, their values under other numbers -/
def rnHs (g : Value → Option Value) : List (Nat × List Value) → Option (List (Nat × List Value))
  | [] => some []
  | (i, c) :: r =>
    match rnL g c, rnHs g r with
    | some c', some r' => match c'.all cellC with | true => some ((i, c') :: r') | false => none
    | _, _ => none

/-- the entries of a map, under other numbers -/
def rnEs (g : Value → Option Value) : List (Value × Value × Nat) → Option (List (Value × Value × Nat))
  | [] => some []
  | (k, v, b) :: r => match g k, g v, rnEs g r with | some k', some v', some r' => some ((k', v', b) :: r') | _, _, _ => none

/-- a slice whose place may turn into one that may be nil -/
def offV (vec : Bool) (off : Nat) : Option Nat :=
  match vec with
  | false => some off
  | true => match off with | 1 => some 2 | 2 => some 2 | _ => none

/-- a value, its places under other numbers -/
def rnV (ρ : Nat → Option (Nat × Bool)) : Nat → Value → Option Value
  | 0, _ => none
  | d + 1, v =>
    match v with
    | .pointer (some a) => match ρ a.block with | some (b, _) => some (.pointer (some ⟨b, a.off, a.spot⟩)) | none => none
    | .slice (some a) l c => match ρ a.block with | some (b, x) => (match offV x a.off with | some o => some (.slice (some ⟨b, o, a.spot⟩) l c) | none => none) | none => none
    | .map (some r) => match ρ r with | some (b, _) => some (.map (some b)) | none => none
    | .iface t v => match rnV ρ d v with | some v' => some (.iface t v') | none => none
    | .agg cs => match rnL (rnV ρ d) cs.toList with | some l => some (.agg ⟨l⟩) | none => none
    | .tuple cs => match rnL (rnV ρ d) cs.toList with | some l => some (.tuple ⟨l⟩) | none => none
    | .func fn a b => match rnL (rnV ρ d) a.toList, rnL (rnV ρ d) b.toList with | some l, some l' => some (.func fn ⟨l⟩ ⟨l'⟩) | _, _ => none
    | .complex .. | .float .. | .chan _ => none
    | v => some v

inductive Two (Q : Value → Value → Prop) : List Value → List Value → Prop
  | nil : Two Q [] []
  | cons {v v' l l'} : Q v v' → Two Q l l' → Two Q (v :: l) (v' :: l')

theorem rnL_ok {g : Value → Option Value} {Q : Value → Value → Prop} (hg : ∀ v v', g v = some v' → Q v v') : ∀ {l l' : List Value}, rnL g l = some l' → Two Q l l'
  | [], l', h => by simp [rnL] at h; subst h; exact .nil
  | v :: vs, l', h => by
    unfold rnL at h
    split at h
    · rename_i v' l hv hl
      cases h
      exact .cons (hg _ _ hv) (rnL_ok hg hl)
    · cases h

theorem Two.mono {Q R : Value → Value → Prop} (hq : ∀ v v', Q v v' → R v v') : ∀ {l l' : List Value}, Two Q l l' → Two R l l'
  | _, _, .nil => .nil
  | _, _, .cons h hs => .cons (hq _ _ h) (hs.mono hq)

theorem two_map {f g : Value → Value} : ∀ {l l' : List Value}, Two (fun v v' => f v' = g v) l l' → l'.map f = l.map g
  | _, _, .nil => rfl
  | _, _, .cons h hs => by simp [h, two_map hs]

theorem two_sc {n : Nat} : ∀ {l l' : List Value}, Two (fun v v' => Sc n v') l l' → ∀ x ∈ l', Sc n x
  | _, _, .nil => by simp
  | _, _, .cons h hs => by simpa using ⟨h, two_sc hs⟩

theorem rnV_ren {ρ : Nat → Option (Nat × Bool)} {env env' : Nat → Loc} (hρ : ∀ i j x, ρ i = some (j, x) → env' j = env i) (ht : ∀ i j, ρ i = some (j, true) → (env i).cap ≠ 0) :
    ∀ (d : Nat) (v v' : Value), rnV ρ d v = some v' → ren env' v' = ren env v
  | 0, v, v', h => by simp [rnV] at h
  | d + 1, v, v', h => by
    have ih := rnV_ren hρ ht d
    cases v <;> simp only [rnV] at h <;> first | (cases h; done) | skip
    case bool => cases h; simp
    case int => cases h; simp
    case string => cases h; simp
    case nilFunc => cases h; simp
    case nilIface => cases h; simp
    case pointer a =>
      cases a with
      | none => cases h; simp
      | some a =>
        dsimp only at h
        split at h
        · rename_i b x hb
          cases h
          rw [ren_ptr, ren_ptr, renA, renA]
          simp only [hρ _ _ _ hb]
        · cases h
    case slice a l c =>
      cases a with
      | none => cases h; simp
      | some a =>
        dsimp only at h
        split at h
        · rename_i b x hb
          split at h
          · rename_i o ho
            cases h
            have he := hρ _ _ _ hb
            have same : ren env' (.slice (some ⟨b, a.off, a.spot⟩) l c) = ren env (.slice (some a) l c) := by
              rw [ren_sliceS, ren_sliceS]
              unfold renS renA rcap
              simp only [he]
            cases x with
            | false =>
              simp only [offV, Option.some.injEq] at ho
              subst ho
              exact same
            | true =>
              unfold offV at ho
              split at ho
              · rename_i hh; cases hh
              · split at ho
                · rename_i h1
                  cases ho
                  rw [ren_slice2 (a := ⟨b, 2, a.spot⟩) env' _ _ rfl, ren_slice env _ _ (by rw [h1]; decide)]
                  have hcap := ht _ _ hb
                  simp only [he]
                  cases hcc : (env a.block).cap with
                  | zero => exact absurd hcc hcap
                  | succ q =>
                    have hrc : rcap env a c = (env a.block).cap - a.spot.getD 0 := by unfold rcap; rw [h1]
                    rw [hrc, hcc]
                    simp only [renA, he]
                · rename_i h2
                  cases ho
                  rw [← h2]
                  exact same
                · cases ho
          · cases h
        · cases h
    case map a =>
      cases a with
      | none => cases h; simp
      | some a =>
        dsimp only at h
        split at h
        · rename_i b x hb
          cases h
          rw [ren_map, ren_map, hρ _ _ _ hb]
        · cases h
    case iface t v =>
      split at h
      · rename_i v' hv; cases h; rw [ren_iface, ren_iface, ih _ _ hv]
      · cases h
    case agg cs =>
      split at h
      · rename_i l hl
        cases h
        have := two_map (rnL_ok (Q := fun v v' => ren env' v' = ren env v) ih hl)
        rw [ren_agg, ren_agg]; congr 1; apply Array.ext'; simpa using this
      · cases h
    case tuple cs =>
      split at h
      · rename_i l hl
        cases h
        have := two_map (rnL_ok (Q := fun v v' => ren env' v' = ren env v) ih hl)
        rw [ren_tuple, ren_tuple]; congr 1; apply Array.ext'; simpa using this
      · cases h
    case func fn a b =>
      split at h
      · rename_i l l' hl hl'
        cases h
        have h1 := two_map (rnL_ok (Q := fun v v' => ren env' v' = ren env v) ih hl)
        have h2 := two_map (rnL_ok (Q := fun v v' => ren env' v' = ren env v) ih hl')
        rw [ren_func, ren_func]; congr 1
        · apply Array.ext'; simpa using h1
        · apply Array.ext'; simpa using h2
      · cases h

theorem rnV_sc {ρ : Nat → Option (Nat × Bool)} {n : Nat} (hρ : ∀ i j x, ρ i = some (j, x) → j < n) : ∀ (d : Nat) (v v' : Value), rnV ρ d v = some v' → Sc n v'
  | 0, v, v', h => by simp [rnV] at h
  | d + 1, v, v', h => by
    have ih := rnV_sc hρ d
    cases v <;> simp only [rnV] at h <;> first | (cases h; done) | skip
    case bool => cases h; exact .plain rfl
    case int => cases h; exact .plain rfl
    case string => cases h; exact .plain rfl
    case nilFunc => cases h; exact .plain rfl
    case nilIface => cases h; exact .plain rfl
    case pointer a =>
      cases a with
      | none => cases h; exact .plain rfl
      | some a =>
        dsimp only at h
        split at h
        · rename_i b x hb; cases h; exact .ptr (hρ _ _ _ hb)
        · cases h
    case slice a l c =>
      cases a with
      | none => cases h; exact .plain rfl
      | some a =>
        dsimp only at h
        split at h
        · rename_i b x hb
          split at h
          · cases h; exact .slice (hρ _ _ _ hb)
          · cases h
        · cases h
    case map a =>
      cases a with
      | none => cases h; exact .plain rfl
      | some a =>
        dsimp only at h
        split at h
        · rename_i b x hb; cases h; exact .map (hρ _ _ _ hb)
        · cases h
    case iface t v =>
      split at h
      · rename_i v' hv; cases h; exact .iface (ih _ _ hv)
      · cases h
    case agg cs =>
      split at h
      · rename_i l hl; cases h; exact .agg (two_sc (rnL_ok (Q := fun v v' => Sc n v') ih hl))
      · cases h
    case tuple cs =>
      split at h
      · rename_i l hl; cases h; exact .tuple (two_sc (rnL_ok (Q := fun v v' => Sc n v') ih hl))
      · cases h
    case func fn a b =>
      split at h
      · rename_i l l' hl hl'
        cases h
        exact .func (two_sc (rnL_ok (Q := fun v v' => Sc n v') ih hl)) (two_sc (rnL_ok (Q := fun v v' => Sc n v') ih hl'))
      · cases h

/-- what a new place is: an old one; an old one, forgotten; an old row, of which it is forgotten that it is not nil; a nil one -/
inductive Sel where
  | keep (p : Nat)
  | drop (p : Nat)
  | vec (p : Nat)
  | nilv (t : TypeId) (m : Nat)

/-- where an old place stands among the new ones -/
def idxOf (p : Nat) : Nat → List Sel → Option (Nat × Bool)
  | _, [] => none
  | j, .keep q :: r => match Nat.beq q p with | true => some (j, false) | false => idxOf p (j + 1) r
  | j, .vec q :: r => match Nat.beq q p with | true => some (j, true) | false => idxOf p (j + 1) r
  | j, _ :: r => idxOf p (j + 1) r

theorem idxOf_ok {p : Nat} : ∀ (sel : List Sel) (j i : Nat) (x : Bool), idxOf p j sel = some (i, x) → j ≤ i ∧ sel[i - j]? = some (match x with | false => .keep p | true => .vec p)
  | [], j, i, x, h => by simp [idxOf] at h
  | .drop q :: r, j, i, x, h => by
    unfold idxOf at h
    obtain ⟨h1, h2⟩ := idxOf_ok r (j + 1) i x h
    refine ⟨by omega, ?_⟩
    rw [show i - j = (i - (j + 1)) + 1 by omega]
    simpa using h2
  | .nilv t m :: r, j, i, x, h => by
    unfold idxOf at h
    obtain ⟨h1, h2⟩ := idxOf_ok r (j + 1) i x h
    refine ⟨by omega, ?_⟩
    rw [show i - j = (i - (j + 1)) + 1 by omega]
    simpa using h2
  | .keep q :: r, j, i, x, h => by
    unfold idxOf at h
    split at h
    · rename_i hb
      cases h
      have := Nat.eq_of_beq_eq_true hb
      subst this
      exact ⟨Nat.le_refl _, by simp⟩
    · obtain ⟨h1, h2⟩ := idxOf_ok r (j + 1) i x h
      refine ⟨by omega, ?_⟩
      rw [show i - j = (i - (j + 1)) + 1 by omega]
      simpa using h2
  | .vec q :: r, j, i, x, h => by
    unfold idxOf at h
    split at h
    · rename_i hb
      cases h
      have := Nat.eq_of_beq_eq_true hb
      subst this
      exact ⟨Nat.le_refl _, by simp⟩
    · obtain ⟨h1, h2⟩ := idxOf_ok r (j + 1) i x h
      refine ⟨by omega, ?_⟩
      rw [show i - j = (i - (j + 1)) + 1 by omega]
      simpa using h2

def isIdx (o : Option (Nat × Bool)) (j : Nat) : Bool := match o with | some (j', _) => Nat.beq j' j | none => false

/-- the list keeps the first n0 places where they are, or forgets them; none twice -/
def selOk (n0 : Nat) (sel : List Sel) : Nat → List Sel → Bool
  | j, [] => Nat.ble n0 j
  | j, .keep p :: r => isIdx (idxOf p 0 sel) j && (Nat.ble n0 j || Nat.beq p j) && selOk n0 sel (j + 1) r
  | j, .vec p :: r => isIdx (idxOf p 0 sel) j && (Nat.ble n0 j || Nat.beq p j) && selOk n0 sel (j + 1) r
  | j, .drop p :: r => (Nat.ble n0 j || Nat.beq p j) && selOk n0 sel (j + 1) r
  | j, .nilv _ _ :: r => Nat.ble n0 j && selOk n0 sel (j + 1) r

theorem isIdx_ok {o : Option (Nat × Bool)} {j : Nat} (h : isIdx o j = true) : ∃ x, o = some (j, x) := by
  unfold isIdx at h
  split at h
  · rename_i j' x
    have := Nat.eq_of_beq_eq_true h
    subst this
    exact ⟨x, rfl⟩
  · cases h

/-- what a list that is so says of its entry j -/
def selAt (n0 : Nat) (sel : List Sel) (j : Nat) (x : Sel) : Prop :=
  match x with
  | .keep p => (∃ b, idxOf p 0 sel = some (j, b)) ∧ (j < n0 → p = j)
  | .vec p => (∃ b, idxOf p 0 sel = some (j, b)) ∧ (j < n0 → p = j)
  | .drop p => j < n0 → p = j
  | .nilv _ _ => n0 ≤ j

theorem selOk_ok {n0 : Nat} {sel : List Sel} : ∀ (l : List Sel) (j : Nat), selOk n0 sel j l = true →
    n0 ≤ j + l.length ∧ ∀ (i : Nat) (x : Sel), l[i]? = some x → selAt n0 sel (j + i) x
  | [], j, h => by
    unfold selOk at h
    exact ⟨by have := Nat.le_of_ble_eq_true h; simpa using this, fun i x hi => by simp at hi⟩
  | y :: r, j, h => by
    have step : selOk n0 sel (j + 1) r = true → selAt n0 sel j y → n0 ≤ j + (y :: r).length ∧ ∀ (i : Nat) (x : Sel), (y :: r)[i]? = some x → selAt n0 sel (j + i) x := by
      intro hr hy
      obtain ⟨h1, h2⟩ := selOk_ok r (j + 1) hr
      refine ⟨by simp only [List.length_cons]; omega, fun i x hi => ?_⟩
      cases i with
      | zero => simp at hi; subst hi; exact hy
      | succ i =>
        have := h2 i x (by simpa using hi)
        rwa [show j + (i + 1) = j + 1 + i by omega]
    have low : ∀ {p : Nat}, (Nat.ble n0 j || Nat.beq p j) = true → j < n0 → p = j := by
      intro p hp hlt
      rw [Bool.or_eq_true] at hp
      rcases hp with hp | hp
      · have := Nat.le_of_ble_eq_true hp; omega
      · exact Nat.eq_of_beq_eq_true hp
    cases y with
    | keep p =>
      simp only [selOk, Bool.and_eq_true] at h
      exact step h.2 ⟨isIdx_ok h.1.1, low h.1.2⟩
    | vec p =>
      simp only [selOk, Bool.and_eq_true] at h
      exact step h.2 ⟨isIdx_ok h.1.1, low h.1.2⟩
    | drop p =>
      simp only [selOk, Bool.and_eq_true] at h
      exact step h.2 (low h.1)
    | nilv t m =>
      simp only [selOk, Bool.and_eq_true] at h
      exact step h.2 (Nat.le_of_ble_eq_true h.1)

def isNilv (sel : List Sel) (j : Nat) : Bool := match sel[j]? with | some (.nilv _ _) => true | _ => false

/-- a nil slice that gets a place -/
def nilTo (sel : List Sel) (j : Option Nat) (v : Value) (k : Option Value) : Option Value :=
  match j, v with
  | some j, .slice none 0 0 => match isNilv sel j with | true => some (.slice (some ⟨j, 2, some 0⟩) 0 0) | false => k
  | _, _ => k

def lk (l : List (Nat × Nat)) (i : Nat) : Option Nat :=
  match l with
  | [] => none
  | (a, j) :: r => match Nat.beq a i with | true => some j | false => lk r i

def rsT (sel : List Sel) (ks : List Nat) (nt : List (Nat × Nat)) : Nat → List Value → List Value
  | _, [] => []
  | i, v :: vs => (match ks.contains i with | true => (match nilTo sel (lk nt i) v (rnV (fun p => idxOf p 0 sel) 6 v) with | some v' => v' | none => unk) | false => unk) :: rsT sel ks nt (i + 1) vs

def rsC (sel : List Sel) (nc : List (Nat × Nat)) : Nat → List Value → Option (List Value)
  | _, [] => some []
  | i, v :: vs => match nilTo sel (lk nc i) v (rnV (fun p => idxOf p 0 sel) 6 v), rsC sel nc (i + 1) vs with | some v', some l => some (v' :: l) | _, _ => none

/-- a place, in the new numbers -/
def rsO (sel : List Sel) (nc : List (Nat × Nat)) : VObj → Option VObj
  | .cells t c => match rsC sel nc 0 c with | some c' => some (.cells t c') | none => none
  | .rows own t m n cap f => some (.rows own t m n cap f)
  | .iter s pos => some (.iter s pos)
  | .vec t m n f => some (.vec t m n f)
  | .arg t m n f => some (.arg t m n f)
  | .tab t m n f => some (.tab t m n f)
  | .raw t m n cap f hs => match rnHs (fun v => rnV (fun p => idxOf p 0 sel) 6 v) hs with | some hs' => some (.raw t m n cap f hs') | none => none
  | .mp es c => match rnEs (fun v => rnV (fun p => idxOf p 0 sel) 6 v) es with | some es' => some (.mp es' c) | none => none
  | .mq g => some (.mq g)
  | .dead => some .dead

def ncOf (nc : List (Nat × Nat × Nat)) (i : Nat) : List (Nat × Nat) :=
  match nc with
  | [] => []
  | (a, k, j) :: r => match Nat.beq a i with | true => (k, j) :: ncOf r i | false => ncOf r i

/-- the places in the new numbers -/
def rsV (sel : List Sel) (nc : List (Nat × Nat × Nat)) (V : VW) : Nat → List Sel → (VW → Prop) → Prop
  | _, [], k => k []
  | j, .keep p :: r, k => match V[p]? with | some o => (match rsO sel (ncOf nc j) o with | some o' => rsV sel nc V (j + 1) r fun l => k (o' :: l) | none => False) | none => False
  | j, .drop p :: r, k => match V[p]? with | some o => rsV sel nc V (j + 1) r fun l => k (.dead :: l) | none => False
  | j, .vec p :: r, k =>
    match V[p]? with
    | some (.rows true t m n _ f) => 0 < n ∧ rsV sel nc V (j + 1) r fun l => k (.vec t m n f :: l)
    | _ => False
  | j, .nilv t m :: r, k => rsV sel nc V (j + 1) r fun l => k (.vec t m 0 (fun _ => []) :: l)

/-- a state under other numbers; the tmps of a list are kept, if their places are -/
def reshape (n0 : Nat) (sel : List Sel) (ks : List Nat) (nt : List (Nat × Nat)) (nc : List (Nat × Nat × Nat)) (S : VSt) (k : VSt → Prop) : Prop :=
  match selOk n0 sel 0 sel with
  | true => rsV sel nc S.V 0 sel fun V' => k ⟨rsT sel ks nt 0 S.tmps, V'⟩
  | false => False

/-- what the new place j is -/
def SelM (sel : List Sel) (nc : List (Nat × Nat × Nat)) (V : VW) (j : Nat) (x : Sel) (o' : VObj) : Prop :=
  match x with
  | .keep p => ∃ o, V[p]? = some o ∧ rsO sel (ncOf nc j) o = some o'
  | .drop p => o' = .dead ∧ ∃ o, V[p]? = some o
  | .vec p => ∃ t m n cap f, o' = .vec t m n f ∧ V[p]? = some (.rows true t m n cap f) ∧ 0 < n
  | .nilv t m => o' = .vec t m 0 fun _ => []

theorem rsV_ok {sel : List Sel} {nc : List (Nat × Nat × Nat)} {V : VW} : ∀ (l : List Sel) (j : Nat) (k : VW → Prop), rsV sel nc V j l k →
    ∃ V', k V' ∧ V'.length = l.length ∧ ∀ (i : Nat) (o' : VObj), V'[i]? = some o' → ∃ x, l[i]? = some x ∧ SelM sel nc V (j + i) x o'
  | [], j, k, h => ⟨[], h, rfl, fun i o' hi => by simp at hi⟩
  | y :: r, j, k, h => by
    have step : ∀ o, SelM sel nc V j y o → rsV sel nc V (j + 1) r (fun l => k (o :: l)) →
        ∃ V', k V' ∧ V'.length = (y :: r).length ∧ ∀ (i : Nat) (o' : VObj), V'[i]? = some o' → ∃ x, (y :: r)[i]? = some x ∧ SelM sel nc V (j + i) x o' := by
      intro o ho hr
      obtain ⟨V', hk, hl, hg⟩ := rsV_ok r (j + 1) _ hr
      refine ⟨o :: V', hk, by simp [hl], fun i o' hi => ?_⟩
      cases i with
      | zero => simp at hi; subst hi; exact ⟨y, by simp, ho⟩
      | succ i =>
        obtain ⟨x, h1, h2⟩ := hg i o' (by simpa using hi)
        exact ⟨x, by simpa using h1, by rwa [show j + (i + 1) = j + 1 + i by omega]⟩
    cases y with
    | keep p =>
      simp only [rsV] at h
      split at h
      · rename_i o ho
        split at h
        · rename_i o' ho'; exact step o' ⟨o, ho, ho'⟩ h
        · exact h.elim
      · exact h.elim
    | drop p =>
      simp only [rsV] at h
      split at h
      · rename_i o ho
        exact step .dead ⟨rfl, o, ho⟩ h
      · exact h.elim
    | vec p =>
      simp only [rsV] at h
      split at h
      · rename_i t m n cap f ho; exact step _ ⟨t, m, n, cap, f, rfl, ho, h.1⟩ h.2
      · exact h.elim
    | nilv t m =>
      simp only [rsV] at h
      exact step _ rfl h

theorem nilTo_ok {sel : List Sel} {j : Option Nat} {v v' : Value} {k : Option Value} (h : nilTo sel j v k = some v') :
    k = some v' ∨ (v = .slice none 0 0 ∧ ∃ j' t m, sel[j']? = some (.nilv t m) ∧ v' = .slice (some ⟨j', 2, some 0⟩) 0 0) := by
  unfold nilTo at h
  split at h
  · rename_i j'
    split at h
    · rename_i hn
      unfold isNilv at hn
      split at hn
      · rename_i t m hs
        cases h
        exact .inr ⟨rfl, j', t, m, hs, rfl⟩
      · cases hn
    · exact .inl h
  · exact .inl h

theorem rsT_get {sel : List Sel} {ks : List Nat} {nt : List (Nat × Nat)} : ∀ (l : List Value) (i t : Nat), (rsT sel ks nt i l).length = l.length ∧
    (nth undef (rsT sel ks nt i l) t = unk ∨ t ≥ l.length ∨ ∃ j, nilTo sel j (nth undef l t) (rnV (fun p => idxOf p 0 sel) 6 (nth undef l t)) = some (nth undef (rsT sel ks nt i l) t))
  | [], i, t => ⟨rfl, .inr (.inl (Nat.zero_le _))⟩
  | v :: vs, i, t => by
    refine ⟨by simp [rsT, (rsT_get vs (i + 1) 0).1], ?_⟩
    cases t with
    | zero =>
      simp only [rsT, nth]
      split
      · split
        · rename_i v' hv; exact .inr (.inr ⟨lk nt i, by rw [hv]⟩)
        · exact .inl rfl
      · exact .inl rfl
    | succ t =>
      simp only [rsT, nth]
      rcases (rsT_get vs (i + 1) t).2 with h | h | h
      · exact .inl h
      · exact .inr (.inl (by simpa using h))
      · exact .inr (.inr h)

theorem rsC_ok {sel : List Sel} {nc : List (Nat × Nat)} {Q : Value → Value → Prop} (hg : ∀ v v' j, nilTo sel j v (rnV (fun p => idxOf p 0 sel) 6 v) = some v' → Q v v') : ∀ {l l' : List Value} {i : Nat}, rsC sel nc i l = some l' → Two Q l l'
  | [], l', i, h => by simp [rsC] at h; subst h; exact .nil
  | v :: vs, l', i, h => by
    unfold rsC at h
    split at h
    · rename_i v' l hv hl
      cases h
      exact .cons (hg _ _ _ hv) (rsC_ok hg hl)
    · cases h

theorem rsO_flags {sel : List Sel} {nc : List (Nat × Nat)} {o o' : VObj} (h : rsO sel nc o = some o') : o'.owned = o.owned ∧ o'.writes = o.writes ∧ o'.live = o.live ∧ ∀ l, hasB l o' ↔ hasB l o := by
  cases o with
  | cells t c =>
    simp only [rsO] at h
    split at h
    · cases h; exact ⟨rfl, rfl, rfl, fun _ => Iff.rfl⟩
    · cases h
  | rows => cases h; exact ⟨rfl, rfl, rfl, fun _ => Iff.rfl⟩
  | iter => cases h; exact ⟨rfl, rfl, rfl, fun _ => Iff.rfl⟩
  | vec => cases h; exact ⟨rfl, rfl, rfl, fun _ => Iff.rfl⟩
  | arg => cases h; exact ⟨rfl, rfl, rfl, fun _ => Iff.rfl⟩
  | tab => cases h; exact ⟨rfl, rfl, rfl, fun _ => Iff.rfl⟩
  | mq => cases h; exact ⟨rfl, rfl, rfl, fun _ => Iff.rfl⟩
  | raw t m n cap f hs =>
    simp only [rsO] at h
    split at h
    · cases h; exact ⟨rfl, rfl, rfl, fun _ => Iff.rfl⟩
    · cases h
  | mp es c =>
    simp only [rsO] at h
    split at h
    · cases h; exact ⟨rfl, rfl, rfl, fun _ => Iff.rfl⟩
    · cases h
  | dead => cases h; exact ⟨rfl, rfl, rfl, fun _ => Iff.rfl⟩

theorem rnEs_ok {g : Value → Option Value} {env env' : Nat → Loc} {n' : Nat} (h1 : ∀ v v', g v = some v' → ren env' v' = ren env v) (h2 : ∀ v v', g v = some v' → Sc n' v') :
    ∀ {es es' : List (Value × Value × Nat)}, rnEs g es = some es' → es'.map (renE env') = es.map (renE env) ∧ ∀ e ∈ es', Sc n' e.1 ∧ Sc n' e.2.1
  | [], es', h => by cases h; exact ⟨rfl, fun e he => by simp at he⟩
  | (k, v, b) :: r, es', h => by
    unfold rnEs at h
    split at h
    · rename_i k' v' r' hk hv hr
      cases h
      obtain ⟨a1, a2⟩ := rnEs_ok h1 h2 hr
      refine ⟨?_, fun e he => ?_⟩
      · simp only [List.map_cons, renE, h1 _ _ hk, h1 _ _ hv, a1]
      · rcases List.mem_cons.1 he with rfl | he
        · exact ⟨h2 _ _ hk, h2 _ _ hv⟩
        · exact a2 e he
    · cases h

theorem map_mat {g : Value → Option Value} {env env' : Nat → Loc} {w : World} {l : Loc} {n' c : Nat} {es es' : List (Value × Value × Nat)} (h1 : ∀ v v', g v = some v' → ren env' v' = ren env v) (h2 : ∀ v v', g v = some v' → Sc n' v')
    (h : rnEs g es = some es') (hm : Mat env w l (.mp es c)) : Mat env' w l (.mp es' c) ∧ ScO n' (.mp es' c) := by
  obtain ⟨a1, a2⟩ := rnEs_ok h1 h2 h
  obtain ⟨b0, b1⟩ := hm
  refine ⟨⟨?_, b1⟩, a2⟩
  rw [b0]
  congr 3
  have := a1.symm
  exact this

theorem rnHs_ok {g : Value → Option Value} {env env' : Nat → Loc} {n' : Nat} (h1 : ∀ v v', g v = some v' → ren env' v' = ren env v) (h2 : ∀ v v', g v = some v' → Sc n' v') (f : Nat → List Value) :
    ∀ {hs hs' : List (Nat × List Value)}, rnHs g hs = some hs' → (∀ x ∈ hs', ∀ v ∈ x.2, Sc n' v ∧ cellC v = true) ∧ (∀ x ∈ hs', ∃ y ∈ hs, y.1 = x.1) ∧ ∀ r, rawRow env' f hs' r = rawRow env f hs r
  | [], hs', h => by
    cases h
    exact ⟨fun x hx => by simp at hx, fun x hx => by simp at hx, fun r => rfl⟩
  | (i, c) :: r, hs', h => by
    unfold rnHs at h
    split at h
    · rename_i c' r' hc hr
      split at h
      · rename_i hcell
        cases h
        obtain ⟨a1, a2, a3⟩ := rnHs_ok h1 h2 f hr
        have e1 : c'.map (ren env') = c.map (ren env) := two_map (rnL_ok (Q := fun v v' => ren env' v' = ren env v) h1 hc)
        have e2 : ∀ x ∈ c', Sc n' x := two_sc (rnL_ok (Q := fun v v' => Sc n' v') h2 hc)
        refine ⟨fun x hx => ?_, fun x hx => ?_, fun q => ?_⟩
        · rcases List.mem_cons.1 hx with rfl | hx
          · exact fun v hv => ⟨e2 v hv, List.all_eq_true.1 hcell v hv⟩
          · exact a1 x hx
        · rcases List.mem_cons.1 hx with rfl | hx
          · exact ⟨(i, c), by simp, rfl⟩
          · obtain ⟨y, hy, he⟩ := a2 x hx
            exact ⟨y, List.mem_cons_of_mem _ hy, he⟩
        · have := a3 q
          unfold rawRow at this ⊢
          simp only [List.find?]
          cases hiq : (i == q)
          · exact this
          · exact e1
      · cases h
    · cases h

theorem raw_mat {g : Value → Option Value} {env env' : Nat → Loc} {w : World} {l : Loc} {n' : Nat} {t : TypeId} {m n cap : Nat} {f : Nat → List Value} {hs hs' : List (Nat × List Value)} (h1 : ∀ v v', g v = some v' → ren env' v' = ren env v) (h2 : ∀ v v', g v = some v' → Sc n' v')
    (h : rnHs g hs = some hs') (hm : Mat env w l (.raw t m n cap f hs)) : Mat env' w l (.raw t m n cap f hs') ∧ ScO n' (.raw t m n cap f hs') := by
  obtain ⟨a1, a2, a3⟩ := rnHs_ok h1 h2 f h
  obtain ⟨b0, b1, b2, b3⟩ := hm
  refine ⟨⟨fun x hx => ?_, b1, fun r hr => ?_, b3⟩, a1⟩
  · obtain ⟨y, hy, he⟩ := a2 x hx
    rw [← he]; exact b0 y hy
  · rw [a3 r]; exact b2 r hr

/-- A STATE UNDER OTHER NUMBERS -/
theorem reshape_ok' {env0 env : Nat → Loc} {V0 : VW} {w0 w : World} {S : VSt} {a : Act} {sel : List Sel} {ks : List Nat} {nt : List (Nat × Nat)} {nc : List (Nat × Nat × Nat)} {k : VSt → Prop} (hF : Fr env0 V0 w0 env S.V w) (hM : RepW env S.V w) (hD : a.defers = []) (hZ : a.tmps.size = S.tmps.length) (hT : ∀ t, t < S.tmps.length → Rv env (nth undef S.tmps t) (a.tmps.getD t undef))
    (h : reshape V0.length sel ks nt nc S k) : ∃ env' S', Fr env0 V0 w0 env' S'.V w ∧ Rep env' S' a w ∧ k S' ∧ S'.V.length = sel.length ∧ (∀ (j p : Nat), sel[j]? = some (.keep p) → env' j = env p) ∧ ∀ (j : Nat) (o' : VObj), S'.V[j]? = some o' → o'.live = true → hasB (env' j) o' → ∃ p o, S.V[p]? = some o ∧ env' j = env p ∧ o.live = true ∧ hasB (env p) o := by
  unfold reshape at h
  split at h
  case' h_2 => exact h.elim
  rename_i hsel
  obtain ⟨hn0, hs⟩ := selOk_ok sel 0 hsel
  simp only [Nat.zero_add] at hn0 hs
  obtain ⟨V', hk, hlen, hget⟩ := rsV_ok sel 0 _ h
  simp only [Nat.zero_add] at hget
  let env' : Nat → Loc := fun j => match sel[j]? with | some (.keep p) => env p | some (.vec p) => env p | some (.drop p) => env p | some (.nilv _ m) => ⟨w.heap.size, 0, m, 0⟩ | none => env j
  have hag : ∀ i, i < V0.length → env' i = env i := by
    intro i hi
    show (match sel[i]? with | some (.keep p) => env p | some (.vec p) => env p | some (.drop p) => env p | some (.nilv _ m) => ⟨w.heap.size, 0, m, 0⟩ | none => env i) = env i
    split
    · rename_i p hp; rw [(hs i _ hp).2 hi]
    · rename_i p hp; rw [(hs i _ hp).2 hi]
    · rename_i p hp; rw [hs i _ hp hi]
    · rename_i t m hp; have : V0.length ≤ i := hs i _ hp; omega
    · rfl
  have hsk : ∀ {j p : Nat}, sel[j]? = some (.keep p) → env' j = env p := fun {j p} hp => by simp [env', hp]
  have hsv : ∀ {j p : Nat}, sel[j]? = some (.vec p) → env' j = env p := fun {j p} hp => by simp [env', hp]
  have hsd : ∀ {j p : Nat}, sel[j]? = some (.drop p) → env' j = env p := fun {j p} hp => by simp [env', hp]
  have hsn : ∀ {j : Nat} {t m}, sel[j]? = some (.nilv t m) → env' j = ⟨w.heap.size, 0, m, 0⟩ := fun {j t m} hp => by simp [env', hp]
  have hρ : ∀ i j x, idxOf i 0 sel = some (j, x) → env' j = env i ∧ j < V'.length := by
    intro i j x hij
    obtain ⟨_, h2⟩ := idxOf_ok sel 0 j x hij
    rw [Nat.sub_zero] at h2
    refine ⟨?_, by rw [hlen]; exact (List.getElem?_eq_some_iff.1 h2).1⟩
    cases x with
    | false => exact hsk h2
    | true => exact hsv h2
  have hcapv : ∀ i j, idxOf i 0 sel = some (j, true) → (env i).cap ≠ 0 := by
    intro i j hij
    obtain ⟨_, h2⟩ := idxOf_ok sel 0 j true hij
    rw [Nat.sub_zero] at h2
    have hjl : j < V'.length := by rw [hlen]; exact (List.getElem?_eq_some_iff.1 h2).1
    obtain ⟨x, hx, hm⟩ := hget j V'[j] (by simp [hjl])
    rw [h2] at hx
    cases hx
    obtain ⟨t, m, n, cap, f, _, hv, hn⟩ := hm
    obtain ⟨_, _, hown⟩ := hM.mat i _ hv
    obtain ⟨_, _, _, _, hnc, _⟩ := hown rfl
    omega
  have hval : ∀ v v' j, nilTo sel j v (rnV (fun p => idxOf p 0 sel) 6 v) = some v' → ren env' v' = ren env v ∧ Sc V'.length v' := by
    intro v v' j hv
    rcases nilTo_ok hv with h1 | ⟨rfl, j', t, m, hj', rfl⟩
    · exact ⟨rnV_ren (fun i j x hij => (hρ i j x hij).1) hcapv 6 _ _ h1, rnV_sc (fun i j x hij => (hρ i j x hij).2) 6 _ _ h1⟩
    · refine ⟨?_, .slice (by show j' < _; rw [hlen]; exact (List.getElem?_eq_some_iff.1 hj').1)⟩
      rw [ren_slice2 (a := ⟨j', 2, some 0⟩) env' _ _ rfl]
      simp only [hsn hj', ren_snone]
  -- each new place
  have hplace : ∀ (j : Nat) (o' : VObj), V'[j]? = some o' → Mat env' w (env' j) o' ∧ ScO V'.length o' ∧ (hasB (env' j) o' → (env' j).blk < w.heap.size) ∧
      (ownB (env' j) o' → ((∃ (i : Nat) (oi : VObj), V0[i]? = some oi ∧ ownB (env0 i) oi ∧ (env0 i).blk = (env' j).blk) ∨ w0.heap.size ≤ (env' j).blk) ∧ WI.n ≤ (env' j).blk) ∧
      (o'.live = true → hasB (env' j) o' → ∃ p o, S.V[p]? = some o ∧ env' j = env p ∧ o.live = true ∧ (o'.writes = true → o.writes = true) ∧ hasB (env p) o ∧ ∃ b, idxOf p 0 sel = some (j, b)) := by
    intro j o' hj
    obtain ⟨x, hx, hm⟩ := hget j o' hj
    cases x with
    | keep p =>
      obtain ⟨o, ho, hro⟩ := hm
      obtain ⟨hf1, hf2, hf3, hf4⟩ := rsO_flags hro
      rw [hsk hx]
      have hmat := hM.mat p o ho
      have hsc := hM.sc p o ho
      have hMS : Mat env' w (env p) o' ∧ ScO V'.length o' := by
        cases o with
        | cells t c =>
          simp only [rsO] at hro
          split at hro
          · rename_i c' hc
            cases hro
            have h2 := rsC_ok (Q := fun v v' => ren env' v' = ren env v ∧ Sc V'.length v') hval hc
            have h3 : c'.map (ren env') = c.map (ren env) := two_map (h2.mono fun v v' h => h.1)
            have h4 : ∀ x ∈ c', Sc V'.length x := two_sc (h2.mono fun v v' h => h.2)
            obtain ⟨hh, hb⟩ := hmat
            exact ⟨⟨by rw [h3]; exact hh, hb⟩, h4⟩
          · cases hro
        | rows own t m n cap f =>
          cases hro
          obtain ⟨h1, h2, h3⟩ := hmat
          refine ⟨⟨h1, fun r hr => ⟨(h2 r hr).1, ?_⟩, h3⟩, hsc⟩
          rw [map_congr_sc (fun v hv => (hsc r hr v hv).1) (e := env') (e' := env) (fun i hi => absurd hi (Nat.not_lt_zero i))]
          exact (h2 r hr).2
        | vec t m n f =>
          cases hro
          obtain ⟨h1, h2, h3⟩ := hmat
          refine ⟨⟨h1, h2, fun hc => ?_⟩, hsc⟩
          obtain ⟨h3, h4⟩ := h3 hc
          refine ⟨fun r hr => ⟨(h3 r hr).1, ?_⟩, h4⟩
          rw [map_congr_sc (fun v hv => (hsc r hr v hv).1) (e := env') (e' := env) (fun i hi => absurd hi (Nat.not_lt_zero i))]
          exact (h3 r hr).2
        | iter s pos => cases hro; exact ⟨hmat, trivial⟩
        | arg t m n f => cases hro; exact ⟨hmat, trivial⟩
        | tab t m n f => cases hro; exact ⟨hmat, trivial⟩
        | mq g => cases hro; exact ⟨hmat, trivial⟩
        | raw t m n cap f hz =>
          simp only [rsO] at hro
          split at hro
          · rename_i hz' hzz
            cases hro
            exact raw_mat (fun v v' h => (hval v v' none h).1) (fun v v' h => (hval v v' none h).2) hzz hmat
          · cases hro
        | mp es c =>
          simp only [rsO] at hro
          split at hro
          · rename_i hz' hzz
            cases hro
            exact map_mat (fun v v' h => (hval v v' none h).1) (fun v v' h => (hval v v' none h).2) hzz hmat
          · cases hro
        | dead => cases hro; exact ⟨trivial, trivial⟩
      refine ⟨hMS.1, hMS.2, fun hB => hM.blk p o ho ((hf4 _).1 hB), fun hown => ⟨hF.own p o ho ⟨by rw [← hf1]; exact hown.1, (hf4 _).1 hown.2⟩, hM.low p o ho ⟨by rw [← hf1]; exact hown.1, (hf4 _).1 hown.2⟩⟩, fun hl hB => ⟨p, o, ho, rfl, by rw [← hf3]; exact hl, fun hw => by rw [← hf2]; exact hw, (hf4 _).1 hB, (hs j _ hx).1⟩⟩
    | drop p =>
      obtain ⟨rfl, o, ho⟩ := hm
      rw [hsd hx]
      exact ⟨trivial, trivial, fun h => h.elim, fun h => h.2.elim, fun h => by cases h⟩
    | vec p =>
      obtain ⟨t, m, n, cap, f, rfl, ho, hn⟩ := hm
      rw [hsv hx]
      obtain ⟨h1, h2, h3⟩ := hM.mat p _ ho
      have hsc := hM.sc p _ ho
      obtain ⟨hb, cs, hh, hsz, hnc, _⟩ := h3 rfl
      refine ⟨⟨h1, fun h0 => by omega, fun _ => ⟨fun r hr => ⟨(h2 r hr).1, ?_⟩, hb, cs, hh, hsz, hnc⟩⟩, hsc, fun _ => hM.blk p _ ho trivial, fun _ => ⟨hF.own p _ ho ⟨rfl, trivial⟩, hM.low p _ ho ⟨rfl, trivial⟩⟩,
        fun _ _ => ⟨p, _, ho, rfl, rfl, fun _ => rfl, trivial, (hs j _ hx).1⟩⟩
      rw [map_congr_sc (fun v hv => (hsc r hr v hv).1) (e := env') (e' := env) (fun i hi => absurd hi (Nat.not_lt_zero i))]
      exact (h2 r hr).2
    | nilv t m =>
      cases hm
      rw [hsn hx]
      exact ⟨⟨rfl, fun _ => rfl, fun h => absurd rfl h⟩, fun r hr => absurd hr (Nat.not_lt_zero r), fun h => absurd rfl h, fun _ => ⟨.inr hF.size, hM.room⟩, fun _ h => absurd rfl h⟩
  have hFr : Fr env0 V0 w0 env' V' w := ⟨fun i hi => (hag i hi).trans (hF.agree i hi), by rw [hlen]; exact hn0, hF.os, hF.tape, hF.output, hF.size, hF.keep, fun j o' hj ho => ((hplace j o' hj).2.2.2.1 ho).1⟩
  refine ⟨env', ⟨rsT sel ks nt 0 S.tmps, V'⟩, hFr,
    ⟨⟨fun j o' hj => (hplace j o' hj).1, fun j o' hj => (hplace j o' hj).2.1, fun j o' hj hB => (hplace j o' hj).2.2.1 hB, fun i j oi oj hi hj hij hw hl hBi hBj => ?_, hM.inv,
      fun j o' hj ho => ((hplace j o' hj).2.2.2.1 ho).2, hM.room⟩, hD, by rw [hZ]; exact (rsT_get S.tmps 0 0).1.symm, fun t ht => ?_, fun v hv => ?_⟩, hk, hlen, fun j p h => hsk h, fun j o' hj hl hB => by
      obtain ⟨p, o, ho, he, hlo, _, hBo, _⟩ := (hplace j o' hj).2.2.2.2 hl hB
      exact ⟨p, o, ho, he, hlo, hBo⟩⟩
  · have hli : oi.live = true := by cases oi <;> simp_all [VObj.writes, VObj.live]
    obtain ⟨p, o, ho, he, hlo, hwo, hBo, b, hib⟩ := (hplace i oi hi).2.2.2.2 hli hBi
    obtain ⟨p2, o2, ho2, he2, hlo2, _, hBo2, b2, hjb⟩ := (hplace j oj hj).2.2.2.2 hl hBj
    rw [he, he2]
    refine hM.sep p p2 o o2 ho ho2 (fun hpp => hij ?_) (hwo hw) hlo2 hBo hBo2
    subst hpp
    rw [hib] at hjb
    simpa using congrArg (Option.map Prod.fst) hjb
  · have ht' : t < S.tmps.length := by
      have := (rsT_get (sel := sel) (ks := ks) (nt := nt) S.tmps 0 0).1
      rw [this] at ht; exact ht
    rcases (rsT_get (sel := sel) (ks := ks) (nt := nt) S.tmps 0 t).2 with h1 | h1 | ⟨j, h1⟩
    · exact .inl h1
    · omega
    · rcases hT t ht' with h3 | h3
      · rw [h3] at h1; simp [nilTo, rnV, unk] at h1
      · exact .inr (by rw [h3, (hval _ _ _ h1).1])
  · obtain ⟨t, ht, rfl⟩ := List.getElem_of_mem hv
    have ht' : t < S.tmps.length := by
      have := (rsT_get (sel := sel) (ks := ks) (nt := nt) S.tmps 0 0).1
      rw [this] at ht; exact ht
    have hn : nth undef (rsT sel ks nt 0 S.tmps) t = (rsT sel ks nt 0 S.tmps)[t] := by rw [nth_eq]; simp [List.getD, ht]
    rw [← hn]
    rcases (rsT_get (sel := sel) (ks := ks) (nt := nt) S.tmps 0 t).2 with h1 | h1 | ⟨j, h1⟩
    · rw [h1]; exact .unk
    · omega
    · exact (hval _ _ _ h1).2

theorem reshape_ok {env0 env : Nat → Loc} {V0 : VW} {w0 w : World} {S : VSt} {a : Act} {sel : List Sel} {ks : List Nat} {nt : List (Nat × Nat)} {nc : List (Nat × Nat × Nat)} {k : VSt → Prop} (hF : Fr env0 V0 w0 env S.V w) (hR : Rep env S a w)
    (h : reshape V0.length sel ks nt nc S k) : ∃ env' S', Fr env0 V0 w0 env' S'.V w ∧ Rep env' S' a w ∧ k S' ∧ S'.V.length = sel.length ∧ (∀ (j p : Nat), sel[j]? = some (.keep p) → env' j = env p) ∧ ∀ (j : Nat) (o' : VObj), S'.V[j]? = some o' → o'.live = true → hasB (env' j) o' → ∃ p o, S.V[p]? = some o ∧ env' j = env p ∧ o.live = true ∧ hasB (env p) o :=
  reshape_ok' hF hR.mem hR.def_ hR.size hR.tm h

/-- what is asked of the end of a round -/
def roundR (id : Nat) (J : Nat → VSt → Prop) (k : Nat) (K : Exit → VSt → Prop) (e : Exit) (S : VSt) : Prop :=
  match e with
  | .normal => k ≠ 0 ∧ J (k - 1) S
  | .exit i => match Nat.beq i id with | true => K .normal S | false => K (.exit i) S
  | e => K e S

/-- A LOOP whose rounds end under other numbers -/
theorem Does.loopR {id : Nat} {body : Code} {K : Exit → VSt → Prop} (ks : Exit → List Nat) (sel : Exit → VSt → List Sel) (nt : List (Nat × Nat)) (nc : List (Nat × Nat × Nat)) (J : Nat → VSt → Prop) (S0 : VSt)
    (entry : reshape S0.V.length (sel .normal S0) (ks .normal) nt nc S0 fun S => ∃ k, J k S)
    (round : ∀ k S, J k S → Does P body S fun e S' => reshape S0.V.length (sel e S') (ks e) nt nc S' (roundR id J k K e)) : Does P (.block id (.loop body)) S0 K := by
  intro env a w hR
  refine wp_block ?_
  intro b k cs
  have key : ∀ (n : Nat) (S1 : VSt) (env1 : Nat → Loc) (a1 : Act) (w1 : World), J n S1 → Fr env S0.V w env1 S1.V w1 → Rep env1 S1 a1 w1 →
      ∃ e a' w', (Exit.inBlock id fun e a' w' => e ≠ .outgrown ∧ ∃ env' S', Fr env S0.V w env' S'.V w' ∧ Rep env' S' a' w' ∧ K e S') e a' w' ∧
        Arrives P (lone (b.at a1 (.code body :: .inLoop body :: k)) cs w1) b k cs e a' w' := by
    intro n
    induction n using Nat.strongRecOn with
    | _ n ih =>
      intro S1 env1 a1 w1 hJ1 hF1 hR1
      obtain ⟨e, a2, w2, hq, harr⟩ := round n S1 hJ1 env1 a1 w1 hR1 b (.inLoop body :: k) cs
      obtain ⟨hne, env2, S2, hF2, hR2, hK⟩ := hq
      obtain ⟨env3, S3, hF3, hR3, hK3, _⟩ := reshape_ok (hF1.trans hF2) hR2 hK
      cases e with
      | normal =>
        obtain ⟨hn0, hJ3⟩ := hK3
        obtain ⟨e₂, a₂, w₂, hq₂, harr₂⟩ := ih (n - 1) (by omega) S3 env3 a2 w2 hJ3 hF3 hR3
        exact ⟨e₂, a₂, w₂, hq₂, .of_steps (Steps.trans harr (.one step_inLoop)) harr₂⟩
      | exit i =>
        refine ⟨.exit i, a2, w2, ?_, .pass (x := .inLoop body) rfl (fun _ _ => .inl (by simp)) harr⟩
        simp only [roundR] at hK3
        simp only [Exit.inBlock]
        by_cases hi : i = id
        · subst hi
          simp only [Nat.beq_refl] at hK3
          simp only [if_true]
          exact ⟨by simp, env3, S3, hF3, hR3, hK3⟩
        · rw [beq_ne hi] at hK3
          simp only [hi, if_false]
          exact ⟨by simp, env3, S3, hF3, hR3, hK3⟩
      | goto l => exact ⟨.goto l, a2, w2, ⟨hne, env3, S3, hF3, hR3, hK3⟩, .pass (x := .inLoop body) rfl (fun _ _ => .inl (by simp)) harr⟩
      | ret => exact ⟨.ret, a2, w2, ⟨hne, env3, S3, hF3, hR3, hK3⟩, .pass (x := .inLoop body) rfl (fun _ _ => .inl (by simp)) harr⟩
      | panic ch => exact ⟨.panic ch, a2, w2, ⟨hne, env3, S3, hF3, hR3, hK3⟩, .pass (x := .inLoop body) rfl (fun _ _ => .inl (by simp)) harr⟩
      | outgrown => exact absurd rfl hne
  obtain ⟨env1, S1, hF1, hR1, ⟨n, hJ1⟩, _⟩ := reshape_ok (Fr.refl _ _ _) hR entry
  obtain ⟨e, a', w', hq, harr⟩ := key n S1 env1 a w hJ1 hF1 hR1
  exact ⟨e, a', w', hq, .of_steps (.one step_loop) harr⟩
end Go.X
