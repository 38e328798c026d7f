/- A contract over a few places serves in any memory that holds them under other numbers. -/
import Derived.Test.YtgnhcoefocbmpaaGreatXSQ
set_option linter.unusedSimpArgs false
set_option linter.unusedSectionVars false
set_option linter.unusedVariables false
namespace Go.X
open Go
variable [WI]
variable {P : Program}

def inL (p : Nat) : List Nat → Bool
  | [] => false
  | q :: r => match Nat.beq q p with | true => true | false => inL p r
def addP (p : Nat) (acc : List Nat) : List Nat := match inL p acc with | true => acc | false => acc ++ [p]
/-- the places of a value -/
def plV : Nat → Value → List Nat → List Nat
  | 0, _, acc => acc
  | d + 1, v, acc =>
    match v with
    | .pointer (some a) => addP a.block acc
    | .slice (some a) _ _ => addP a.block acc
    | .map (some r) => addP r acc
    | .iface _ v => plV d v acc
    | .agg cs => cs.toList.foldl (fun acc v => plV d v acc) acc
    | .tuple cs => cs.toList.foldl (fun acc v => plV d v acc) acc
    | .func _ a b => b.toList.foldl (fun acc v => plV d v acc) (a.toList.foldl (fun acc v => plV d v acc) acc)
    | _ => acc
def plO (V : VW) (p : Nat) (acc : List Nat) : List Nat :=
  match V[p]? with
  | some (.cells _ c) => c.foldl (fun acc v => plV 6 v acc) acc
  | some (.raw _ _ _ _ _ hs) => hs.foldl (fun acc h => h.2.foldl (fun acc v => plV 6 v acc) acc) acc
  | some (.mp es _) => es.foldl (fun acc e => plV 6 e.2.1 (plV 6 e.1 acc)) acc
  | _ => acc
def closeP (V : VW) : Nat → Nat → List Nat → List Nat
  | 0, _, acc => acc
  | k + 1, j, acc => match acc[j]? with | some p => closeP V k (j + 1) (plO V p acc) | none => acc
/-- the places that arguments reach, in the order in which they are met -/
def frameSel (args : List Value) (V : VW) : List Nat := closeP V 400 0 (args.foldl (fun acc v => plV 6 v acc) [])

def ixP (p : Nat) : Nat → List Nat → Option (Nat × Bool)
  | _, [] => none
  | j, q :: r => match Nat.beq q p with | true => some (j, false) | false => ixP p (j + 1) r

theorem ixP_ok {p : Nat} : ∀ (σ : List Nat) (j i : Nat) (x : Bool), ixP p j σ = some (i, x) → x = false ∧ j ≤ i ∧ σ[i - j]? = some p
  | [], j, i, x, h => by simp [ixP] at h
  | q :: r, j, i, x, h => by
    unfold ixP at h
    split at h
    · rename_i hb
      cases h
      have := Nat.eq_of_beq_eq_true hb
      subst this
      exact ⟨rfl, Nat.le_refl _, by simp⟩
    · obtain ⟨h0, h1, h2⟩ := ixP_ok r (j + 1) i x h
      refine ⟨h0, by omega, ?_⟩
      rw [show i - j = (i - (j + 1)) + 1 by omega]
      simpa using h2

def notDead : VObj → Bool
  | .dead => false
  | _ => true
def named : VObj → Bool
  | .dead => false
  | .rows own .. => own
  | .arg .. => false
  | _ => true

/-- the list's places are there, none twice -/
def selFine (V : VW) : List Nat → Bool
  | [] => true
  | p :: r => (match V[p]? with | some o => notDead o | none => false) && !(inL p r) && selFine V r

theorem inL_false {p : Nat} : ∀ {l : List Nat}, inL p l = false → p ∉ l
  | [], _ => by simp
  | q :: r, h => by
    unfold inL at h
    split at h
    · cases h
    · rename_i hb
      have : q ≠ p := fun e => by subst e; rw [Nat.beq_refl] at hb; cases hb
      have := inL_false h
      simp only [List.mem_cons, not_or]
      exact ⟨fun e => by subst e; contradiction, this⟩

theorem selFine_ok {V : VW} : ∀ {σ : List Nat}, selFine V σ = true → σ.Nodup ∧ ∀ p ∈ σ, ∃ o, V[p]? = some o ∧ notDead o = true
  | [], _ => ⟨.nil, by simp⟩
  | p :: r, h => by
    simp only [selFine, Bool.and_eq_true, Bool.not_eq_true'] at h
    obtain ⟨⟨h1, h2⟩, h3⟩ := h
    obtain ⟨h4, h5⟩ := selFine_ok h3
    refine ⟨List.nodup_cons.2 ⟨inL_false h2, h4⟩, fun q hq => ?_⟩
    rcases List.mem_cons.1 hq with rfl | hq
    · split at h1
      · exact ⟨_, ‹_›, h1⟩
      · cases h1
    · exact h5 q hq

/-- a place, its values under other numbers -/
def reO (ρ : Nat → Option (Nat × Bool)) : VObj → Option VObj
  | .cells t c => match rnL (rnV ρ 6) c with | some c' => some (.cells t c') | none => none
  | .raw t m n cap f hs => match rnHs (rnV ρ 6) hs with | some hs' => some (.raw t m n cap f hs') | none => none
  | .mp es c => match rnEs (rnV ρ 6) es with | some es' => some (.mp es' c) | none => none
  | o => some o

def restrV (ρ : Nat → Option (Nat × Bool)) (V : VW) : List Nat → Option VW
  | [] => some []
  | p :: r => match V[p]? with | some o => (match reO ρ o, restrV ρ V r with | some o', some l => some (o' :: l) | _, _ => none) | none => none

/-- the numbers behind the call -/
def backP (N : Nat) (σ : List Nat) (V' : VW) (i : Nat) : Option (Nat × Bool) :=
  match σ[i]? with
  | some p => some (p, false)
  | none => match V'[i]? with | some o => (match named o with | true => some (N + (i - σ.length), false) | false => none) | none => none

def setAll (ρ : Nat → Option (Nat × Bool)) (V' : VW) : Nat → List Nat → VW → Option VW
  | _, [], V => some V
  | i, p :: r, V =>
    match V[p]?, V'[i]? with
    | some o, some o' =>
      match o.owned with
      | true =>
        match named o' with
        | true => (match reO ρ o' with | some o'' => setAll ρ V' (i + 1) r (V.set p o'') | none => none)
        | false => setAll ρ V' (i + 1) r (V.set p .dead)
      | false => setAll ρ V' (i + 1) r V
    | _, _ => none

def tailV (ρ : Nat → Option (Nat × Bool)) : VW → Option VW
  | [] => some []
  | o :: r =>
    match named o with
    | true => (match reO ρ o, tailV ρ r with | some o', some l => some (o' :: l) | _, _ => none)
    | false => (match tailV ρ r with | some l => some (.dead :: l) | none => none)

def rnR (ρ : Nat → Option (Nat × Bool)) (v : Value) : Option Value :=
  match v with
  | .complex .f32 0 0 => some unk
  | v => rnV ρ 6 v

def framePost (V : VW) (σ : List Nat) (V' : VW) (v : Value) (K : Value → VW → Prop) : Prop :=
  match rnR (backP V.length σ V') v, setAll (backP V.length σ V') V' 0 σ V, tailV (backP V.length σ V') (V'.drop σ.length) with
  | some v', some V1, some V2 => K v' (V1 ++ V2)
  | _, _, _ => False

/-- the contract, in a larger memory -/
def frameT (Ts : CallS) : CallS := fun args V K =>
  match selFine V (frameSel args V) with
  | true =>
    match rnL (rnV (fun p => ixP p 0 (frameSel args V)) 6) args, restrV (fun p => ixP p 0 (frameSel args V)) V (frameSel args V) with
    | some args', some Vs => Ts args' Vs fun v V' => framePost V (frameSel args V) V' v K
    | _, _ => False
  | false => False

theorem reO_flags {ρ : Nat → Option (Nat × Bool)} {o o' : VObj} (h : reO ρ o = some o') : o'.owned = o.owned ∧ o'.writes = o.writes ∧ o'.live = o.live ∧ (∀ l, hasB l o' ↔ hasB l o) ∧ notDead o' = notDead o ∧ named o' = named o := by
  cases o with
  | cells t c =>
    simp only [reO] at h
    split at h
    · cases h; exact ⟨rfl, rfl, rfl, fun _ => Iff.rfl, rfl, rfl⟩
    · cases h
  | raw t m n cap f hs =>
    simp only [reO] at h
    split at h
    · cases h; exact ⟨rfl, rfl, rfl, fun _ => Iff.rfl, rfl, rfl⟩
    · cases h
  | mp es c =>
    simp only [reO] at h
    split at h
    · cases h; exact ⟨rfl, rfl, rfl, fun _ => Iff.rfl, rfl, rfl⟩
    · cases h
  | _ => cases h; exact ⟨rfl, rfl, rfl, fun _ => Iff.rfl, rfl, rfl⟩

theorem reO_mat {ρ : Nat → Option (Nat × Bool)} {env env' : Nat → Loc} {w : World} {l : Loc} {o o' : VObj} {n n' : Nat} (hρ : ∀ i j x, ρ i = some (j, x) → x = false ∧ env' j = env i ∧ j < n') (h : reO ρ o = some o')
    (hm : Mat env w l o) (hs : ScO n o) : Mat env' w l o' ∧ ScO n' o' := by
  have h1 : ∀ i j x, ρ i = some (j, x) → env' j = env i := fun i j x hh => (hρ i j x hh).2.1
  have h2 : ∀ i j, ρ i = some (j, true) → (env i).cap ≠ 0 := fun i j hh => by have := (hρ i j true hh).1; cases this
  have h3 : ∀ i j x, ρ i = some (j, x) → j < n' := fun i j x hh => (hρ i j x hh).2.2
  cases o with
  | cells t c =>
    simp only [reO] at h
    split at h
    · rename_i c' hc
      cases h
      have e1 : c'.map (ren env') = c.map (ren env) := two_map (rnL_ok (Q := fun v v' => ren env' v' = ren env v) (rnV_ren h1 h2 6) hc)
      have e2 : ∀ x ∈ c', Sc n' x := two_sc (rnL_ok (Q := fun v v' => Sc n' v') (rnV_sc h3 6) hc)
      obtain ⟨a, b⟩ := hm
      exact ⟨⟨by rw [e1]; exact a, b⟩, e2⟩
    · cases h
  | rows own t m k cap f =>
    cases h
    obtain ⟨a, b, c⟩ := hm
    refine ⟨⟨a, fun r hr => ⟨(b r hr).1, ?_⟩, c⟩, hs⟩
    rw [map_congr_sc (fun v hv => (hs r hr v hv).1) (e := env') (e' := env) (fun i hi => absurd hi (Nat.not_lt_zero i))]
    exact (b r hr).2
  | vec t m k f =>
    cases h
    obtain ⟨a, b, c⟩ := hm
    refine ⟨⟨a, b, fun hc => ?_⟩, hs⟩
    obtain ⟨d, e⟩ := c hc
    refine ⟨fun r hr => ⟨(d r hr).1, ?_⟩, e⟩
    rw [map_congr_sc (fun v hv => (hs r hr v hv).1) (e := env') (e' := env) (fun i hi => absurd hi (Nat.not_lt_zero i))]
    exact (d r hr).2
  | iter s pos => cases h; exact ⟨hm, trivial⟩
  | arg t m k f => cases h; exact ⟨hm, trivial⟩
  | tab t m k f => cases h; exact ⟨hm, trivial⟩
  | mq g => cases h; exact ⟨hm, trivial⟩
  | raw t m k cap f hz =>
    simp only [reO] at h
    split at h
    · rename_i hz' hzz
      cases h
      exact raw_mat (rnV_ren h1 h2 6) (rnV_sc h3 6) hzz hm
    · cases h
  | mp es c =>
    simp only [reO] at h
    split at h
    · rename_i hz' hzz
      cases h
      exact map_mat (rnV_ren h1 h2 6) (rnV_sc h3 6) hzz hm
    · cases h
  | dead => cases h; exact ⟨trivial, trivial⟩

theorem restrV_ok {ρ : Nat → Option (Nat × Bool)} {V : VW} : ∀ {σ : List Nat} {Vs : VW}, restrV ρ V σ = some Vs →
    Vs.length = σ.length ∧ ∀ (i : Nat) (o' : VObj), Vs[i]? = some o' → ∃ p o, σ[i]? = some p ∧ V[p]? = some o ∧ reO ρ o = some o'
  | [], Vs, h => by cases h; exact ⟨rfl, fun i o' hi => by simp at hi⟩
  | p :: r, Vs, h => by
    unfold restrV at h
    split at h
    · rename_i o ho
      split at h
      · rename_i o' l h1 h2
        cases h
        obtain ⟨h3, h4⟩ := restrV_ok h2
        refine ⟨by simp [h3], fun i q hi => ?_⟩
        cases i with
        | zero => simp at hi; subst hi; exact ⟨p, o, rfl, ho, h1⟩
        | succ i =>
          obtain ⟨p', o2, h5, h6, h7⟩ := h4 i q (by simpa using hi)
          exact ⟨p', o2, by simpa using h5, h6, h7⟩
      · cases h
    · cases h

theorem setAll_ok {ρ : Nat → Option (Nat × Bool)} {V' : VW} : ∀ (σ : List Nat) (i : Nat) (V VC : VW), σ.Nodup → setAll ρ V' i σ V = some VC →
    VC.length = V.length ∧ (∀ k, k ∉ σ → VC[k]? = V[k]?) ∧
      ∀ (j k : Nat), σ[j]? = some k → ∃ ok o', V[k]? = some ok ∧ V'[i + j]? = some o' ∧ ((ok.owned = true ∧ named o' = true ∧ ∃ o, reO ρ o' = some o ∧ VC[k]? = some o) ∨ (ok.owned = true ∧ VC[k]? = some .dead) ∨ (ok.owned = false ∧ VC[k]? = some ok))
  | [], i, V, VC, _, h => by cases h; exact ⟨rfl, fun _ _ => rfl, fun j k hj => by simp at hj⟩
  | p :: r, i, V, VC, hn, h => by
    obtain ⟨hp, hr⟩ := List.nodup_cons.1 hn
    unfold setAll at h
    split at h
    · rename_i o o' ho ho'
      have hpl := (List.getElem?_eq_some_iff.1 ho).1
      split at h
      · rename_i hown
        split at h
        · rename_i hnm
          split at h
          · rename_i o'' hre
            obtain ⟨h1, h2, h3⟩ := setAll_ok r (i + 1) (V.set p o'') VC hr h
            refine ⟨by simpa using h1, fun k hk => ?_, fun j k hj => ?_⟩
            · simp only [List.mem_cons, not_or] at hk
              rw [h2 k hk.2, List.getElem?_set, if_neg (Ne.symm hk.1)]
            · cases j with
              | zero =>
                simp at hj; subst hj
                refine ⟨o, o', ho, by simpa using ho', .inl ⟨hown, hnm, o'', hre, ?_⟩⟩
                rw [h2 p hp, List.getElem?_set, if_pos rfl, if_pos hpl]
              | succ j =>
                have hj' : r[j]? = some k := by simpa using hj
                obtain ⟨ok, o2, h4, h5, h6⟩ := h3 j k hj'
                have hne : k ≠ p := fun e => hp (by subst e; exact List.mem_of_getElem? hj')
                rw [List.getElem?_set, if_neg (Ne.symm hne)] at h4
                exact ⟨ok, o2, h4, by rw [← h5]; congr 1; omega, h6⟩
          · cases h
        · obtain ⟨h1, h2, h3⟩ := setAll_ok r (i + 1) (V.set p .dead) VC hr h
          refine ⟨by simpa using h1, fun k hk => ?_, fun j k hj => ?_⟩
          · simp only [List.mem_cons, not_or] at hk
            rw [h2 k hk.2, List.getElem?_set, if_neg (Ne.symm hk.1)]
          · cases j with
            | zero =>
              simp at hj; subst hj
              refine ⟨o, o', ho, by simpa using ho', .inr (.inl ⟨hown, ?_⟩)⟩
              rw [h2 p hp, List.getElem?_set, if_pos rfl, if_pos hpl]
            | succ j =>
              have hj' : r[j]? = some k := by simpa using hj
              obtain ⟨ok, o2, h4, h5, h6⟩ := h3 j k hj'
              have hne : k ≠ p := fun e => hp (by subst e; exact List.mem_of_getElem? hj')
              rw [List.getElem?_set, if_neg (Ne.symm hne)] at h4
              exact ⟨ok, o2, h4, by rw [← h5]; congr 1; omega, h6⟩
      · rename_i hown
        obtain ⟨h1, h2, h3⟩ := setAll_ok r (i + 1) V VC hr h
        refine ⟨h1, fun k hk => ?_, fun j k hj => ?_⟩
        · simp only [List.mem_cons, not_or] at hk
          exact h2 k hk.2
        · cases j with
          | zero =>
            simp at hj; subst hj
            exact ⟨o, o', ho, by simpa using ho', .inr (.inr ⟨hown, by rw [h2 p hp]; exact ho⟩)⟩
          | succ j =>
            obtain ⟨ok, o2, h4, h5, h6⟩ := h3 j k (by simpa using hj)
            exact ⟨ok, o2, h4, by rw [← h5]; congr 1; omega, h6⟩
    · cases h

theorem tailV_ok {ρ : Nat → Option (Nat × Bool)} : ∀ {L VC : VW}, tailV ρ L = some VC →
    VC.length = L.length ∧ ∀ (i : Nat) (o : VObj), VC[i]? = some o → ∃ o', L[i]? = some o' ∧ ((named o' = true ∧ reO ρ o' = some o) ∨ (named o' = false ∧ o = .dead))
  | [], VC, h => by cases h; exact ⟨rfl, fun i o hi => by simp at hi⟩
  | x :: r, VC, h => by
    unfold tailV at h
    split at h
    · rename_i hx
      split at h
      · rename_i o' l h1 h2
        cases h
        obtain ⟨h3, h4⟩ := tailV_ok h2
        refine ⟨by simp [h3], fun i o hi => ?_⟩
        cases i with
        | zero => simp at hi; subst hi; exact ⟨x, rfl, .inl ⟨hx, h1⟩⟩
        | succ i => obtain ⟨q, h5, h6⟩ := h4 i o (by simpa using hi); exact ⟨q, by simpa using h5, h6⟩
      · cases h
    · rename_i hx
      split at h
      · rename_i l h2
        cases h
        obtain ⟨h3, h4⟩ := tailV_ok h2
        refine ⟨by simp [h3], fun i o hi => ?_⟩
        cases i with
        | zero => simp at hi; subst hi; exact ⟨x, rfl, .inr ⟨hx, rfl⟩⟩
        | succ i => obtain ⟨q, h5, h6⟩ := h4 i o (by simpa using hi); exact ⟨q, by simpa using h5, h6⟩
      · cases h

theorem rnR_ren {ρ : Nat → Option (Nat × Bool)} {env env' : Nat → Loc} (hρ : ∀ i j x, ρ i = some (j, x) → env' j = env i) (ht : ∀ i j, ρ i = some (j, true) → (env i).cap ≠ 0) {v v' u : Value} (h : rnR ρ v = some v') (hv : Rv env v u) : Rv env' v' u := by
  unfold rnR at h
  split at h
  · cases h; exact .inl rfl
  · rename_i hne
    rcases hv with rfl | rfl
    · simp [unk, rnV] at h
    · exact .inr (rnV_ren hρ ht 6 v v' h).symm

theorem writes_of {o : VObj} (h : o.owned = true) (hd : notDead o = true) : o.writes = true := by cases o <;> simp_all [VObj.owned, VObj.writes, notDead]
theorem live_of_hasB {l : Loc} {o : VObj} (h : hasB l o) : o.live = true := by cases o <;> simp_all [VObj.live, hasB]
theorem owned_of_writes {o : VObj} (h : o.writes = true) : o.owned = true := by cases o <;> simp_all [VObj.writes, VObj.owned]
theorem live_of_writes {o : VObj} (h : o.writes = true) : o.live = true := by cases o <;> simp_all [VObj.writes, VObj.live]
theorem owned_of_named {o : VObj} (h : named o = true) (hl : o.live = true) : o.owned = true := by cases o <;> simp_all [VObj.owned, VObj.live, named]

/-- A CONTRACT IN A LARGER MEMORY -/
theorem CallOK.framed {f : FuncId} {Ts : CallS} (h : CallOK P f Ts) : CallOK P f (frameT Ts) := by
  refine ⟨h.callable, fun args V K hT => ?_⟩
  unfold frameT at hT
  generalize frameSel args V = σ at hT
  split at hT
  case' h_2 => exact hT.elim
  rename_i hfine
  split at hT
  case' h_2 => exact hT.elim
  rename_i args' Vs hargs hVs
  obtain ⟨hnod, hpl⟩ := selFine_ok hfine
  obtain ⟨hVl, hVg⟩ := restrV_ok hVs
  have hsmallDoes := h.gives _ _ _ hT
  intro env w hW hsc
  let envs : Nat → Loc := fun i => match σ[i]? with | some p => env p | none => env i
  have hes : ∀ {i p : Nat}, σ[i]? = some p → envs i = env p := fun {i p} hi => by simp [envs, hi]
  have hinj : ∀ {i j p : Nat}, σ[i]? = some p → σ[j]? = some p → i = j := by
    intro i j p hi hj
    have h1 := (List.getElem?_eq_some_iff.1 hi)
    have h2 := (List.getElem?_eq_some_iff.1 hj)
    obtain ⟨l1, e1⟩ := h1
    obtain ⟨l2, e2⟩ := h2
    exact (List.getElem_inj hnod).1 (e1.trans e2.symm)
  have hρ : ∀ i j x, ixP i 0 σ = some (j, x) → x = false ∧ envs j = env i ∧ j < Vs.length := fun i j x hh => by
    obtain ⟨h1, _, h2⟩ := ixP_ok σ 0 j x hh
    rw [Nat.sub_zero] at h2
    exact ⟨h1, hes h2, by rw [hVl]; exact (List.getElem?_eq_some_iff.1 h2).1⟩
  have hρ1 : ∀ i j x, ixP i 0 σ = some (j, x) → envs j = env i := fun i j x hh => (hρ i j x hh).2.1
  have hρ2 : ∀ i j, ixP i 0 σ = some (j, true) → (env i).cap ≠ 0 := fun i j hh => by have := (hρ i j true hh).1; cases this
  have hW0 : RepW envs Vs w := by
    refine ⟨fun i o' hi => ?_, fun i o' hi => ?_, fun i o' hi hB => ?_, fun i j oi oj hi hj hij hw hl hBi hBj => ?_, hW.inv, fun i o' hi ho => ?_, hW.room⟩
    · obtain ⟨p, o, h1, h2, h3⟩ := hVg i o' hi
      rw [hes h1]
      exact (reO_mat hρ h3 (hW.mat p o h2) (hW.sc p o h2)).1
    · obtain ⟨p, o, h1, h2, h3⟩ := hVg i o' hi
      exact (reO_mat hρ h3 (hW.mat p o h2) (hW.sc p o h2)).2
    · obtain ⟨p, o, h1, h2, h3⟩ := hVg i o' hi
      rw [hes h1] at hB ⊢
      exact hW.blk p o h2 (((reO_flags h3).2.2.2.1 _).1 hB)
    · obtain ⟨p, o, h1, h2, h3⟩ := hVg i oi hi
      obtain ⟨q, o2, h4, h5, h6⟩ := hVg j oj hj
      rw [hes h1] at hBi ⊢; rw [hes h4] at hBj ⊢
      exact hW.sep p q o o2 h2 h5 (fun e => hij (hinj h1 (e ▸ h4))) (by rw [← (reO_flags h3).2.1]; exact hw) (by rw [← (reO_flags h6).2.2.1]; exact hl) (((reO_flags h3).2.2.2.1 _).1 hBi) (((reO_flags h6).2.2.2.1 _).1 hBj)
    · obtain ⟨p, o, h1, h2, h3⟩ := hVg i o' hi
      rw [hes h1] at ho ⊢
      exact hW.low p o h2 ⟨by rw [← (reO_flags h3).1]; exact ho.1, ((reO_flags h3).2.2.2.1 _).1 ho.2⟩
  have ha : args'.map (ren envs) = args.map (ren env) := two_map (rnL_ok (Q := fun v v' => ren envs v' = ren env v) (rnV_ren hρ1 hρ2 6) hargs)
  have hasc : ∀ x ∈ args', Sc Vs.length x := two_sc (rnL_ok (Q := fun v v' => Sc Vs.length v') (rnV_sc (fun i j x hh => (hρ i j x hh).2.2) 6) hargs)
  have hcall := hsmallDoes envs w hW0 hasc
  rw [ha] at hcall
  refine hcall.mono ?_
  rintro e w' ⟨u, env1, V', v, rfl, hrv, hW1, hF, hK⟩
  unfold framePost at hK
  split at hK
  case' h_2 => exact hK.elim
  rename_i v' V1 V2 hv' hV1 hV2
  obtain ⟨hl1, hout, hin⟩ := setAll_ok σ 0 V V1 hnod hV1
  obtain ⟨hl2, htl⟩ := tailV_ok hV2
  have hnV' : σ.length ≤ V'.length := by have := hF.len; omega
  -- where the places lie behind the call
  let envC : Nat → Loc := fun k => if k < V.length then env k else (match V'[σ.length + (k - V.length)]? with | some o => (match named o with | true => env1 (σ.length + (k - V.length)) | false => ⟨w.heap.size, 0, 0, 0⟩) | none => ⟨w.heap.size, 0, 0, 0⟩)
  have hag : ∀ k, k < V.length → envC k = env k := fun k hk => by simp [envC, hk]
  have hnw : ∀ {j : Nat} {o : VObj}, V'[σ.length + j]? = some o → named o = true → envC (V.length + j) = env1 (σ.length + j) := fun {j o} hj ho => by
    simp [envC, show ¬ V.length + j < V.length by omega, hj, ho]
  have hnd : ∀ {j : Nat} {o : VObj}, V'[σ.length + j]? = some o → named o = false → envC (V.length + j) = ⟨w.heap.size, 0, 0, 0⟩ := fun {j o} hj ho => by
    simp [envC, show ¬ V.length + j < V.length by omega, hj, ho]
  have hplt : ∀ {i p : Nat}, σ[i]? = some p → p < V.length := fun {i p} hi => by
    obtain ⟨o, ho, _⟩ := hpl p (List.mem_of_getElem? hi)
    exact (List.getElem?_eq_some_iff.1 ho).1
  have hVsn : ∀ {i p : Nat}, σ[i]? = some p → i < Vs.length := fun {i p} hi => by rw [hVl]; exact (List.getElem?_eq_some_iff.1 hi).1
  have hb : ∀ i j x, backP V.length σ V' i = some (j, x) → x = false ∧ envC j = env1 i ∧ j < (V1 ++ V2).length := by
    intro i j x hh
    unfold backP at hh
    split at hh
    · rename_i p hp
      cases hh
      refine ⟨rfl, ?_, ?_⟩
      · rw [hag _ (hplt hp), hF.agree i (hVsn hp), hes hp]
      · rw [List.length_append]; have := hplt hp; omega
    · rename_i hno
      have hge : σ.length ≤ i := by
        rcases Nat.lt_or_ge i σ.length with hlt | hge
        · rw [List.getElem?_eq_getElem hlt] at hno; cases hno
        · exact hge
      split at hh
      · rename_i o ho
        split at hh
        · rename_i hnm
          cases hh
          have e : σ.length + (i - σ.length) = i := by omega
          refine ⟨rfl, ?_, ?_⟩
          · have := hnw (j := i - σ.length) (o := o) (by rw [e]; exact ho) hnm
            rw [this, e]
          · rw [List.length_append, hl1, hl2, List.length_drop]
            have := (List.getElem?_eq_some_iff.1 ho).1
            omega
        · cases hh
      · cases hh
  have hb1 : ∀ i j x, backP V.length σ V' i = some (j, x) → envC j = env1 i := fun i j x hh => (hb i j x hh).2.1
  have hb2 : ∀ i j, backP V.length σ V' i = some (j, true) → (env1 i).cap ≠ 0 := fun i j hh => by have := (hb i j true hh).1; cases this
  -- what each place is
  have cls : ∀ (k : Nat) (o : VObj), (V1 ++ V2)[k]? = some o →
      (k < V.length ∧ k ∉ σ ∧ V[k]? = some o) ∨
      (∃ (i : Nat) (ok o' : VObj), σ[i]? = some k ∧ V[k]? = some ok ∧ V'[i]? = some o' ∧ ((ok.owned = true ∧ named o' = true ∧ reO (backP V.length σ V') o' = some o) ∨ (ok.owned = true ∧ o = .dead) ∨ (ok.owned = false ∧ o = ok))) ∨
      (∃ (j : Nat) (o' : VObj), k = V.length + j ∧ V'[σ.length + j]? = some o' ∧ ((named o' = true ∧ reO (backP V.length σ V') o' = some o) ∨ (named o' = false ∧ o = .dead))) := by
    intro k o hk
    rw [List.getElem?_append] at hk
    split at hk
    · rename_i hlt
      rw [hl1] at hlt
      by_cases hm : k ∈ σ
      · obtain ⟨i, hi⟩ := List.mem_iff_getElem?.1 hm
        obtain ⟨ok, o', h1, h2, h3⟩ := hin i k hi
        rw [Nat.zero_add] at h2
        refine .inr (.inl ⟨i, ok, o', hi, h1, h2, ?_⟩)
        rcases h3 with ⟨h4, hnm, q, h5, h6⟩ | ⟨h4, h6⟩ | ⟨h4, h6⟩
        · rw [hk] at h6; cases h6; exact .inl ⟨h4, hnm, h5⟩
        · rw [hk] at h6; cases h6; exact .inr (.inl ⟨h4, rfl⟩)
        · rw [hk] at h6; cases h6; exact .inr (.inr ⟨h4, rfl⟩)
      · rw [hout k hm] at hk
        exact .inl ⟨hlt, hm, hk⟩
    · rename_i hge
      rw [hl1] at hge hk
      obtain ⟨o', h1, h2⟩ := htl _ o hk
      rw [List.getElem?_drop] at h1
      exact .inr (.inr ⟨k - V.length, o', by omega, h1, h2⟩)
  -- a place outside is as it was
  have hkeep : ∀ (k : Nat) (o : VObj), V[k]? = some o → (k ∉ σ ∨ o.owned = false) → hasB (env k) o → w'.heap[(env k).blk]? = w.heap[(env k).blk]? := by
    intro k o hk hor hB
    refine hF.keep _ (hW.blk k o hk hB) fun i o' hi ho' => ?_
    obtain ⟨p, op, h1, h2, h3⟩ := hVg i o' hi
    rw [hes h1]
    have hfl := reO_flags h3
    obtain ⟨q, hq1, hq2⟩ := hpl p (List.mem_of_getElem? h1)
    rw [h2] at hq1; cases hq1
    have howp : op.owned = true := by rw [← hfl.1]; exact ho'.1
    have hwp : op.writes = true := writes_of howp hq2
    have hlk : o.live = true := live_of_hasB hB
    have hne : p ≠ k := by
      rintro rfl
      rcases hor with h | h
      · exact h (List.mem_of_getElem? h1)
      · rw [h2] at hk; cases hk; rw [howp] at h; cases h
    have hBp : hasB (env p) op := by rw [hes h1] at ho'; exact (hfl.2.2.2.1 _).1 ho'.2
    exact hW.sep p k op o h2 hk hne hwp hlk hBp hB
  have hblkU : ∀ (k : Nat) (o : VObj), V[k]? = some o → hasB (env k) o → (env k).blk < w.heap.size := fun k o hk hB => hW.blk k o hk hB
  -- what is owned behind the call lies where it was owned, or is new
  have hown1 : ∀ (i : Nat) (o' : VObj), V'[i]? = some o' → ownB (env1 i) o' → (∃ (p : Nat) (op : VObj), V[p]? = some op ∧ p ∈ σ ∧ ownB (env p) op ∧ (env p).blk = (env1 i).blk) ∨ w.heap.size ≤ (env1 i).blk := by
    intro i o' hi ho
    rcases hF.own i o' hi ho with ⟨j, oj, hj, hoj, he⟩ | h
    · obtain ⟨p, op, h1, h2, h3⟩ := hVg j oj hj
      have hfl := reO_flags h3
      rw [hes h1] at hoj he
      exact .inl ⟨p, op, h2, List.mem_of_getElem? h1, ⟨by rw [← hfl.1]; exact hoj.1, (hfl.2.2.2.1 _).1 hoj.2⟩, he⟩
    · exact .inr h
  have hwrt : ∀ (p : Nat) (op : VObj), V[p]? = some op → op.owned = true → p ∈ σ → op.writes = true := fun p op hp ho hm => by
    obtain ⟨q, hq1, hq2⟩ := hpl p hm
    rw [hp] at hq1; cases hq1
    exact writes_of ho hq2
  have hFr : Fr env V w envC (V1 ++ V2) w' := by
    refine ⟨hag, by rw [List.length_append, hl1]; omega, hF.os, hF.tape, hF.output, hF.size, fun b hb0 hno => ?_, fun k o hk ho => ?_⟩
    · refine hF.keep b hb0 fun i o' hi ho' => ?_
      obtain ⟨p, op, h1, h2, h3⟩ := hVg i o' hi
      have hfl := reO_flags h3
      rw [hes h1] at ho' ⊢
      exact hno p op h2 ⟨by rw [← hfl.1]; exact ho'.1, (hfl.2.2.2.1 _).1 ho'.2⟩
    · rcases cls k o hk with ⟨h1, h2, h3⟩ | ⟨i, ok, o', h1, h2, h3, h4⟩ | ⟨j, o', rfl, h2, h3⟩
      · rw [hag k h1] at ho ⊢; exact .inl ⟨k, o, h3, ho, rfl⟩
      · rw [hag k (hplt h1)] at ho ⊢
        rcases h4 with ⟨h4, hnm, h5⟩ | ⟨h4, rfl⟩ | ⟨h4, rfl⟩
        · have hfl := reO_flags h5
          have e1 : env1 i = env k := by rw [hF.agree i (hVsn h1), hes h1]
          rcases hown1 i o' h3 (by rw [e1]; exact ⟨by rw [← hfl.1]; exact ho.1, (hfl.2.2.2.1 _).1 ho.2⟩) with ⟨p, op, g1, _, g2, g3⟩ | g
          · rw [e1] at g3; exact .inl ⟨p, op, g1, g2, g3⟩
          · rw [e1] at g; exact .inr g
        · exact ho.2.elim
        · have := ho.1; rw [h4] at this; cases this
      · rcases h3 with ⟨h3, h4⟩ | ⟨h3, rfl⟩
        · have hfl := reO_flags h4
          rw [hnw h2 h3] at ho ⊢
          rcases hown1 _ o' h2 ⟨by rw [← hfl.1]; exact ho.1, (hfl.2.2.2.1 _).1 ho.2⟩ with ⟨p, op, g1, _, g2, g3⟩ | g
          · exact .inl ⟨p, op, g1, g2, g3⟩
          · exact .inr g
        · exact ho.2.elim
  refine ⟨u, envC, V1 ++ V2, v', rfl, rnR_ren hb1 hb2 hv' hrv, hW.mk' hFr (fun k o hk => ?_) (fun k o hk => ?_) (fun k o hk hB => ?_) (fun k m ok om hk hm hkm hw hl hBk hBm => ?_), hFr, hK⟩
  · rcases cls k o hk with ⟨h1, h2, h3⟩ | ⟨i, ok, o', h1, h2, h3, h4⟩ | ⟨j, o', rfl, h2, h3⟩
    · rw [hag k h1]
      exact (hW.mat k o h3).keep (fun hB => hkeep k o h3 (.inl h2) hB) (hW.sc k o h3) hag
    · rw [hag k (hplt h1)]
      rcases h4 with ⟨h4, hnm, h5⟩ | ⟨h4, rfl⟩ | ⟨h4, rfl⟩
      · have e1 : env1 i = env k := by rw [hF.agree i (hVsn h1), hes h1]
        have := (reO_mat hb h5 (hW1.mat i o' h3) (hW1.sc i o' h3)).1
        rwa [e1] at this
      · trivial
      · exact (hW.mat k _ h2).keep (fun hB => hkeep k _ h2 (.inr h4) hB) (hW.sc k _ h2) hag
    · rcases h3 with ⟨h3, h4⟩ | ⟨h3, rfl⟩
      · rw [hnw h2 h3]
        exact (reO_mat hb h4 (hW1.mat _ o' h2) (hW1.sc _ o' h2)).1
      · trivial
  · rcases cls k o hk with ⟨h1, h2, h3⟩ | ⟨i, ok, o', h1, h2, h3, h4⟩ | ⟨j, o', rfl, h2, h3⟩
    · exact (hW.sc k o h3).mono (by rw [List.length_append, hl1]; omega)
    · rcases h4 with ⟨h4, hnm, h5⟩ | ⟨h4, rfl⟩ | ⟨h4, rfl⟩
      · exact (reO_mat hb h5 (hW1.mat i o' h3) (hW1.sc i o' h3)).2
      · trivial
      · exact (hW.sc k _ h2).mono (by rw [List.length_append, hl1]; omega)
    · rcases h3 with ⟨h3, h4⟩ | ⟨h3, rfl⟩
      · exact (reO_mat hb h4 (hW1.mat _ o' h2) (hW1.sc _ o' h2)).2
      · trivial
  · rcases cls k o hk with ⟨h1, h2, h3⟩ | ⟨i, ok, o', h1, h2, h3, h4⟩ | ⟨j, o', rfl, h2, h3⟩
    · rw [hag k h1] at hB ⊢; exact Nat.lt_of_lt_of_le (hW.blk k o h3 hB) hF.size
    · rw [hag k (hplt h1)] at hB ⊢
      rcases h4 with ⟨h4, hnm, h5⟩ | ⟨h4, rfl⟩ | ⟨h4, rfl⟩
      · have e1 : env1 i = env k := by rw [hF.agree i (hVsn h1), hes h1]
        rw [← e1] at hB ⊢
        exact hW1.blk i o' h3 (((reO_flags h5).2.2.2.1 _).1 hB)
      · exact hB.elim
      · exact Nat.lt_of_lt_of_le (hW.blk k _ h2 hB) hF.size
    · rcases h3 with ⟨h3, h4⟩ | ⟨h3, rfl⟩
      · rw [hnw h2 h3] at hB ⊢
        exact hW1.blk _ o' h2 (((reO_flags h4).2.2.2.1 _).1 hB)
      · exact hB.elim
  · -- two places: each is one of the callee's, or one that stands outside or is not ours
    have side : ∀ (k : Nat) (o : VObj), (V1 ++ V2)[k]? = some o → hasB (envC k) o →
        (∃ (i : Nat) (o' : VObj), V'[i]? = some o' ∧ named o' = true ∧ reO (backP V.length σ V') o' = some o ∧ envC k = env1 i ∧ (∀ q, σ[i]? = some q → k = q) ∧ (σ[i]? = none → k = V.length + (i - σ.length) ∧ σ.length ≤ i)) ∨
        (V[k]? = some o ∧ envC k = env k ∧ (k ∉ σ ∨ o.owned = false)) := by
      intro k o hk hB
      rcases cls k o hk with ⟨h1, h2, h3⟩ | ⟨i, ok, o', h1, h2, h3, h4⟩ | ⟨j, o', rfl, h2, h3⟩
      · exact .inr ⟨h3, hag k h1, .inl h2⟩
      · rcases h4 with ⟨h4, hnm, h5⟩ | ⟨h4, rfl⟩ | ⟨h4, rfl⟩
        · exact .inl ⟨i, o', h3, hnm, h5, by rw [hag k (hplt h1), hF.agree i (hVsn h1), hes h1], fun q hq => by rw [h1] at hq; cases hq; rfl, fun hn => by rw [h1] at hn; cases hn⟩
        · exact hB.elim
        · exact .inr ⟨h2, hag k (hplt h1), .inr h4⟩
      · rcases h3 with ⟨h3, h4⟩ | ⟨h3, rfl⟩
        · exact .inl ⟨_, o', h2, h3, h4, hnw h2 h3, fun q hq => by
            have := (List.getElem?_eq_some_iff.1 hq).1
            omega, fun _ => ⟨by omega, by omega⟩⟩
        · exact hB.elim
    have apart : ∀ (i : Nat) (o' : VObj) (q : Nat) (oq : VObj), V'[i]? = some o' → V[q]? = some oq → ownB (env1 i) o' → (q ∉ σ ∨ oq.owned = false) → oq.live = true → hasB (env q) oq → (env1 i).blk ≠ (env q).blk := by
      intro i o' q oq hi hq ho hor hlq hBq he
      rcases hown1 i o' hi ho with ⟨p, op, g1, g0, g2, g3⟩ | g
      · have hne : p ≠ q := by
          rintro rfl
          rcases hor with h | h
          · exact h g0
          · rw [g1] at hq; cases hq; rw [g2.1] at h; cases h
        exact hW.sep p q op oq g1 hq hne (hwrt p op g1 g2.1 g0) hlq g2.2 hBq (g3.trans he)
      · have := hW.blk q oq hq hBq
        omega
    rcases side k ok hk hBk with ⟨i, o1, g1, gn, g2, g3, g4, g5⟩ | ⟨g1, g2, g3⟩
    · have f1 := reO_flags g2
      rw [g3] at hBk ⊢
      have hB1 := (f1.2.2.2.1 _).1 hBk
      rcases side m om hm hBm with ⟨j, o2, e1, en, e2, e3, e4, e5⟩ | ⟨e1, e2, e3⟩
      · have f2 := reO_flags e2
        rw [e3] at hBm ⊢
        refine hW1.sep i j o1 o2 g1 e1 (fun hij => ?_) (by rw [← f1.2.1]; exact hw) (by rw [← f2.2.2.1]; exact hl) hB1 ((f2.2.2.2.1 _).1 hBm)
        subst hij
        apply hkm
        cases hs : σ[i]? with
        | some q => rw [g4 q hs, e4 q hs]
        | none => rw [(g5 hs).1, (e5 hs).1]
      · rw [e2] at hBm ⊢
        exact apart i o1 m om g1 e1 ⟨by rw [← f1.1]; exact owned_of_writes hw, hB1⟩ e3 hl hBm
    · rw [g2] at hBk ⊢
      have hkn : k ∉ σ := g3.elim id fun h => by rw [owned_of_writes hw] at h; cases h
      rcases side m om hm hBm with ⟨j, o2, e1, en, e2, e3, e4, e5⟩ | ⟨e1, e2, e3⟩
      · have f2 := reO_flags e2
        rw [e3] at hBm ⊢
        have hB2 := (f2.2.2.2.1 _).1 hBm
        have ho2 : o2.owned = true := owned_of_named en (by rw [← f2.2.2.1]; exact hl)
        exact Ne.symm (apart j o2 k ok e1 g1 ⟨ho2, hB2⟩ (.inl hkn) (live_of_writes hw) hBk)
      · rw [e2] at hBm ⊢
        exact hW.sep k m ok om g1 e1 hkm hw hl hBk hBm
end Go.X
