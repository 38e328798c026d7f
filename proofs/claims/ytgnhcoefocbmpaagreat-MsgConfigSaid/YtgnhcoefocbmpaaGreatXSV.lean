/- A contract of a function that only reads slices serves for slices of any place. -/
import Derived.Test.YtgnhcoefocbmpaaGreatXSF
set_option linter.unusedSimpArgs false
set_option linter.unusedSectionVars false
set_option linter.unusedVariables false
namespace Go.X
open Go
variable [WI]
variable {P : Program}

/-- the rows that a slice shows: plain ones, in its place -/
structure seenRows (r l n : Nat) (f : Nat → List Value) : Prop where
  le : r + l ≤ n
  plain : ∀ j, j < l → (f (r + j)).all plainC = true

def shiftF (r : Nat) (f : Nat → List Value) : Nat → List Value := fun j => f (r + j)

mutual
/-- a value, its slices taken as views -/
def vwV (V : VW) : Nat → Value → VW → (Value → VW → Prop) → Prop
  | 0, _, _, _ => False
  | d + 1, v, acc, k =>
    match v with
    | .slice (some a) l c =>
      match a.spot, V[a.block]? with
      | some r, some (.rows own t m n _ f) =>
        match a.off, own with
        | 0, _ => l ≤ c ∧ seenRows r l n f ∧ appK acc (.arg t m l (shiftF r f)) fun acc' => k (.slice (some ⟨acc.length, 3, some 0⟩) l 0) acc'
        | 1, true => seenRows r l n f ∧ appK acc (.arg t m l (shiftF r f)) fun acc' => k (.slice (some ⟨acc.length, 3, some 0⟩) l 0) acc'
        | _, _ => False
      | some r, some (.vec t m n f) => match Nat.beq a.off 2 with | true => seenRows r l n f ∧ appK acc (.arg t m l (shiftF r f)) fun acc' => k (.slice (some ⟨acc.length, 3, some 0⟩) l 0) acc' | false => False
      | some r, some (.arg t m n f) => match Nat.beq a.off 3 with | true => r + l ≤ n ∧ appK acc (.arg t m l (shiftF r f)) fun acc' => k (.slice (some ⟨acc.length, 3, some 0⟩) l 0) acc' | false => False
      | _, _ => False
    | .agg cs => vwL V d cs.toList acc fun l acc' => k (.agg ⟨l⟩) acc'
    | v => match plainC v with | true => k v acc | false => False
def vwL (V : VW) : Nat → List Value → VW → (List Value → VW → Prop) → Prop
  | 0, _, _, _ => False
  | d + 1, l, acc, k =>
    match l with
    | [] => k [] acc
    | v :: vs => vwV V d v acc fun v' acc' => vwL V d vs acc' fun vs' acc'' => k (v' :: vs') acc''
end

def viewP (N n : Nat) (V' : VW) (i : Nat) : Option (Nat × Bool) :=
  match Nat.blt i n with
  | true => none
  | false => match V'[i]? with | some o => (match named o with | true => some (N + (i - n), false) | false => none) | none => none

def viewPost (V : VW) (n : Nat) (V' : VW) (v : Value) (K : Value → VW → Prop) : Prop :=
  match rnR (viewP V.length n V') v, tailV (viewP V.length n V') (V'.drop n) with
  | some v', some V2 => K v' (V ++ V2)
  | _, _ => False

/-- the contract, for slices of any places -/
def viewT (Ts : CallS) : CallS := fun args V K => vwL V 200 args [] fun args' Vs => Ts args' Vs fun v V' => viewPost V Vs.length V' v K

/-- views of the memory -/
def RepA (envA : Nat → Loc) (acc : VW) (w : World) : Prop :=
  ∀ (i : Nat) (o : VObj), acc[i]? = some o → ∃ t m n f, o = .arg t m n f ∧ (∀ env, Mat env w (envA i) o) ∧ (2 ≤ (envA i).cap → (envA i).blk < w.heap.size)

theorem RepA.push {envA : Nat → Loc} {acc : VW} {w : World} (h : RepA envA acc w) (l : Loc) {t : TypeId} {m n : Nat} {f : Nat → List Value} (hm : ∀ env, Mat env w l (.arg t m n f)) (hb : 2 ≤ l.cap → l.blk < w.heap.size) :
    RepA (fun i => if i = acc.length then l else envA i) (acc ++ [.arg t m n f]) w := fun i o hi => by
  rcases get_app hi with ⟨hlt, hi⟩ | ⟨rfl, rfl⟩
  · have hne : ¬ i = acc.length := by omega
    dsimp only
    rw [if_neg hne]
    exact h i o hi
  · dsimp only
    rw [if_pos rfl]
    exact ⟨t, m, n, f, rfl, hm, hb⟩

/-- where a slice's rows begin, and its room -/
def locAt (blk base m r c : Nat) : Loc := match c with | 0 => ⟨blk, base + r * m, 0, 1⟩ | k + 1 => ⟨blk, base + r * m, m, k + 2⟩

theorem locAt_ren (blk base m r l c : Nat) : ren (fun _ => locAt blk base m r c) (.slice (some ⟨0, 3, some 0⟩) l 0) = .slice (some ⟨blk, base + r * m, none⟩) l c := by
  rw [ren_slice3 _ (a := ⟨0, 3, some 0⟩) _ _ rfl]
  cases c <;> simp [locAt, spotOf, renA]
theorem locAt_cap {blk base m r c : Nat} (h : 2 ≤ (locAt blk base m r c).cap) : 0 < c ∧ (locAt blk base m r c).m = m ∧ (locAt blk base m r c).cap = c + 1 := by
  cases c with
  | zero => simp [locAt] at h
  | succ k => exact ⟨Nat.succ_pos _, rfl, rfl⟩
theorem locAt_lt {blk base m r c : Nat} (h : (locAt blk base m r c).cap < 2) : c = 0 := by
  cases c with
  | zero => rfl
  | succ k => simp [locAt] at h; omega
theorem locAt_blk (blk base m r c : Nat) : (locAt blk base m r c).blk = blk ∧ (locAt blk base m r c).base = base + r * m := by cases c <;> exact ⟨rfl, rfl⟩

/-- a view of some rows -/
theorem view_mat {w : World} {blk base m r l c : Nat} {t : TypeId} {f : Nat → List Value} (hlc : l ≤ c) (hp : ∀ j, j < l → (f (r + j)).all plainC = true)
    (hrows : ∀ j, j < l → (f (r + j)).length = m ∧ w.rangeAt blk (base + (r + j) * m) (f (r + j))) (env : Nat → Loc) : Mat env w (locAt blk base m r c) (.arg t m l (shiftF r f)) := by
  refine ⟨fun h => ?_, fun h => ?_, fun q hq => ?_⟩
  · have := locAt_lt h; omega
  · obtain ⟨h1, h2, h3⟩ := locAt_cap h
    exact ⟨h2, by omega⟩
  · obtain ⟨h1, h2⟩ := hrows q hq
    obtain ⟨h3, h4⟩ := locAt_blk blk base m r c
    refine ⟨h1, hp q hq, ?_⟩
    rw [h3, h4]
    have e : base + r * m + q * m = base + (r + q) * m := by rw [Nat.add_mul]; omega
    rw [e]
    exact h2
theorem nil_mat {w : World} {m : Nat} {t : TypeId} {f : Nat → List Value} (env : Nat → Loc) : Mat env w ⟨0, 0, 0, 0⟩ (.arg t m 0 f) :=
  ⟨fun _ => rfl, fun h => by simp at h, fun q hq => absurd hq (Nat.not_lt_zero q)⟩

structure VwOK (env envA envB : Nat → Loc) (acc acc' : VW) (w : World) : Prop where
  rep : RepA envB acc' w
  len : acc.length ≤ acc'.length
  agree : ∀ i, i < acc.length → envB i = envA i

theorem VwOK.one {env envA : Nat → Loc} {acc : VW} {w : World} (hA : RepA envA acc w) {a : Addr} {l c : Nat} (loc : Loc) {t : TypeId} {m n : Nat} {f : Nat → List Value} (hm : ∀ env, Mat env w loc (.arg t m n f)) (hb : 2 ≤ loc.cap → loc.blk < w.heap.size)
    (hr : ren (fun _ => loc) (.slice (some ⟨0, 3, some 0⟩) l 0) = ren env (.slice (some a) l c)) {k : Value → VW → Prop} (hk : k (.slice (some ⟨acc.length, 3, some 0⟩) l 0) (acc ++ [.arg t m n f])) :
    ∃ v' acc' envB, k v' acc' ∧ VwOK env envA envB acc acc' w ∧ ren envB v' = ren env (.slice (some a) l c) ∧ Sc acc'.length v' := by
  refine ⟨_, _, _, hk, ⟨hA.push loc hm hb, by simp, fun i hi => by show (if i = acc.length then loc else envA i) = envA i; rw [if_neg (by omega)]⟩, ?_, .slice (by simp)⟩
  rw [← hr, ren_slice3 _ (a := ⟨0, 3, some 0⟩) _ _ rfl, ren_slice3 _ (a := ⟨acc.length, 3, some 0⟩) _ _ rfl]
  simp [renA]

theorem vw_ok {env : Nat → Loc} {V : VW} {w : World} (hW : RepW env V w) : ∀ (d : Nat),
    (∀ (v : Value) (acc : VW) (k : Value → VW → Prop) (envA : Nat → Loc), RepA envA acc w → vwV V d v acc k → ∃ v' acc' envB, k v' acc' ∧ VwOK env envA envB acc acc' w ∧ ren envB v' = ren env v ∧ Sc acc'.length v') ∧
    (∀ (l : List Value) (acc : VW) (k : List Value → VW → Prop) (envA : Nat → Loc), RepA envA acc w → vwL V d l acc k → ∃ l' acc' envB, k l' acc' ∧ VwOK env envA envB acc acc' w ∧ l'.map (ren envB) = l.map (ren env) ∧ ∀ x ∈ l', Sc acc'.length x)
  | 0 => ⟨fun v acc k envA hA h => by unfold vwV at h; exact h.elim, fun l acc k envA hA h => by unfold vwL at h; exact h.elim⟩
  | d + 1 => by
    obtain ⟨ihV, ihL⟩ := vw_ok hW d
    constructor
    · intro v acc k envA hA h
      unfold vwV at h
      split at h
      · rename_i a l c
        split at h
        · rename_i r own t m n cap f hs hv
          obtain ⟨hm, hrows, hown⟩ := hW.mat _ _ hv
          have rows : ∀ j, r + j < n → (f (r + j)).all plainC = true → (f (r + j)).length = m ∧ w.rangeAt (env a.block).blk ((env a.block).base + (r + j) * m) (f (r + j)) := fun j hj hp => by
            obtain ⟨h1, h2⟩ := hrows (r + j) hj
            rw [map_ren_plain env hp] at h2
            exact ⟨h1, h2⟩
          split at h
          · rename_i hoff
            obtain ⟨hlc, ⟨hle, hpl⟩, h⟩ := h
            rw [appK_eq] at h
            refine VwOK.one hA (locAt (env a.block).blk (env a.block).base m r c) (fun env' => view_mat hlc hpl (fun j hj => rows j (by omega) (hpl j hj)) env') (fun _ => by rw [(locAt_blk _ _ _ _ _).1]; exact hW.blk _ _ hv trivial) ?_ h
            rw [locAt_ren]
            obtain ⟨ab, ao, as⟩ := a
            dsimp only at hs hoff
            subst hs; subst hoff
            rw [ren_slice0]
            simp [renA, hm]
          · rename_i hoff
            obtain ⟨⟨hle, hpl⟩, h⟩ := h
            rw [appK_eq] at h
            obtain ⟨_, cs, _, _, hnc, _⟩ := hown rfl
            refine VwOK.one hA (locAt (env a.block).blk (env a.block).base m r ((env a.block).cap - r)) (fun env' => view_mat (by omega) hpl (fun j hj => rows j (by omega) (hpl j hj)) env') (fun _ => by rw [(locAt_blk _ _ _ _ _).1]; exact hW.blk _ _ hv trivial) ?_ h
            rw [locAt_ren]
            obtain ⟨ab, ao, as⟩ := a
            dsimp only at hs hoff
            subst hs; subst hoff
            rw [ren_slice1]
            simp [renA, hm]
          · exact h.elim
        · rename_i r t m n f hs hv
          split at h
          case' h_2 => exact h.elim
          rename_i hoff
          have hoff : a.off = 2 := Nat.eq_of_beq_eq_true hoff
          obtain ⟨⟨hle, hpl⟩, h⟩ := h
          rw [appK_eq] at h
          obtain ⟨hm, h0, h1⟩ := hW.mat _ _ hv
          by_cases hcap : (env a.block).cap = 0
          · have hn := h0 hcap
            have hl0 : l = 0 := by omega
            subst hl0
            refine VwOK.one hA ⟨0, 0, 0, 0⟩ nil_mat (fun h => by simp at h) ?_ h
            rw [ren_slice3 _ (a := ⟨0, 3, some 0⟩) _ _ rfl, ren_slice2 env _ _ hoff, hcap]
          · obtain ⟨hrows, hb, cs, hh, hcs, hnc⟩ := h1 hcap
            refine VwOK.one hA (locAt (env a.block).blk (env a.block).base m r ((env a.block).cap - r)) (fun env' => view_mat (by omega) hpl (fun j hj => by
              obtain ⟨h1, h2⟩ := hrows (r + j) (by omega)
              rw [map_ren_plain env (hpl j hj)] at h2
              exact ⟨h1, h2⟩) env') (fun _ => by rw [(locAt_blk _ _ _ _ _).1]; exact hW.blk _ _ hv hcap) ?_ h
            rw [locAt_ren, ren_slice2 env _ _ hoff]
            cases hcc : (env a.block).cap with
            | zero => exact absurd hcc hcap
            | succ q => simp [renA, hs, hm, hcc]
        · rename_i r t m n f hs hv
          split at h
          case' h_2 => exact h.elim
          rename_i hoff
          have hoff : a.off = 3 := Nat.eq_of_beq_eq_true hoff
          obtain ⟨hle, h⟩ := h
          rw [appK_eq] at h
          obtain ⟨h0, h1, h2⟩ := hW.mat _ _ hv
          rcases cap3 (env a.block).cap with hcap | hcap | hcap
          · have hn := h0 (by omega)
            have hl0 : l = 0 := by omega
            subst hl0
            refine VwOK.one hA ⟨0, 0, 0, 0⟩ nil_mat (fun h => by simp at h) ?_ h
            rw [ren_slice3 _ (a := ⟨0, 3, some 0⟩) _ _ rfl, slice30 env _ _ hoff hcap]
          · have hn := h0 (by omega)
            have hl0 : l = 0 := by omega
            subst hl0
            refine VwOK.one hA (env a.block) (fun env' => ⟨fun _ => rfl, fun h => by omega, fun q hq => absurd hq (Nat.not_lt_zero q)⟩) (fun h => by omega) ?_ h
            rw [slice31 env _ _ hoff hcap, ren_slice3 _ (a := ⟨0, 3, some 0⟩) _ _ rfl, hcap]
          · obtain ⟨hm, hnc⟩ := h1 hcap
            refine VwOK.one hA (locAt (env a.block).blk (env a.block).base m r ((env a.block).cap - 1 - r)) (fun env' => view_mat (by omega) (fun j hj => (h2 (r + j) (by omega)).2.1) (fun j hj => ⟨(h2 (r + j) (by omega)).1, (h2 (r + j) (by omega)).2.2⟩) env')
              (fun _ => by rw [(locAt_blk _ _ _ _ _).1]; exact hW.blk _ _ hv hcap) ?_ h
            rw [locAt_ren, slice3 env _ _ hoff hcap]
            simp [renA, hs, hm]
        · exact h.elim
      · rename_i cs
        obtain ⟨l', acc', envB, h1, h2, h3, h4⟩ := ihL _ _ _ _ hA h
        refine ⟨_, _, _, h1, h2, ?_, .agg h4⟩
        rw [ren_agg, ren_agg]
        congr 1
        apply Array.ext'
        simpa using h3
      · split at h
        · rename_i hp
          exact ⟨_, _, _, h, ⟨hA, Nat.le_refl _, fun _ _ => rfl⟩, by rw [ren_plain _ hp, ren_plain _ hp], .plain hp⟩
        · exact h.elim
    · intro l acc k envA hA h
      unfold vwL at h
      split at h
      · exact ⟨_, _, _, h, ⟨hA, Nat.le_refl _, fun _ _ => rfl⟩, rfl, by simp⟩
      · rename_i v vs
        obtain ⟨v', acc', envB, h1, h2, h3, h4⟩ := ihV _ _ _ _ hA h
        obtain ⟨vs', acc'', envC, g1, g2, g3, g4⟩ := ihL _ _ _ _ h2.rep h1
        refine ⟨_, _, _, g1, ⟨g2.rep, Nat.le_trans h2.len g2.len, fun i hi => by rw [g2.agree i (Nat.lt_of_lt_of_le hi h2.len), h2.agree i hi]⟩, ?_, ?_⟩
        · simp only [List.map_cons, g3, ← h3]
          congr 1
          exact h4 _ _ (fun i hi => g2.agree i hi)
        · intro x hx
          rcases List.mem_cons.1 hx with rfl | hx
          · exact h4.mono g2.len
          · exact g4 x hx
/-- A CONTRACT OF ONE THAT ONLY READS, FOR SLICES OF ANY PLACES -/
theorem CallOK.viewed {f : FuncId} {Ts : CallS} (h : CallOK P f Ts) : CallOK P f (viewT Ts) := by
  refine ⟨h.callable, fun args V K hT => ?_⟩
  intro env w hW hsc
  unfold viewT at hT
  obtain ⟨args', Vs, envs, hk, hok, hargs, hasc⟩ := (vw_ok hW 200).2 _ _ _ (fun _ => ⟨0, 0, 0, 0⟩) (fun i o hi => by simp at hi) hT
  have hrep := hok.rep
  have hW0 : RepW envs Vs w := by
    refine ⟨fun i o hi => ?_, fun i o hi => ?_, fun i o hi hB => ?_, fun i j oi oj hi hj hij hw hl hBi hBj => ?_, hW.inv, fun i o hi ho => ?_, hW.room⟩
    · obtain ⟨t, m, n, f, rfl, hm, _⟩ := hrep i o hi; exact hm _
    · obtain ⟨t, m, n, f, rfl, _, _⟩ := hrep i o hi; trivial
    · obtain ⟨t, m, n, f, rfl, _, hb⟩ := hrep i o hi; exact hb hB
    · obtain ⟨t, m, n, f, rfl, _, hb⟩ := hrep i oi hi; cases hw
    · obtain ⟨t, m, n, f, rfl, _, hb⟩ := hrep i o hi; exact absurd ho.1 Bool.noConfusion
  have hcall := h.gives _ _ _ hk envs w hW0 hasc
  rw [hargs] at hcall
  refine hcall.mono ?_
  rintro e w' ⟨u, env1, V', v, rfl, hrv, hW1, hF, hK⟩
  unfold viewPost at hK
  split at hK
  case' h_2 => exact hK.elim
  rename_i v' V2 hv' hV2
  obtain ⟨hl2, htl⟩ := tailV_ok hV2
  have hkeep : ∀ b, b < w.heap.size → w'.heap[b]? = w.heap[b]? := fun b hb => hF.keep b hb fun i o hi ho => by
    obtain ⟨t, m, n, f, rfl, _, _⟩ := hrep i o hi
    exact absurd ho.1 Bool.noConfusion
  let envC : Nat → Loc := fun k => if k < V.length then env k else env1 (Vs.length + (k - V.length))
  have hag : ∀ k, k < V.length → envC k = env k := fun k hk => by simp [envC, hk]
  have hnw : ∀ j, envC (V.length + j) = env1 (Vs.length + j) := fun j => by simp [envC, show ¬ V.length + j < V.length by omega]
  have hb : ∀ i j x, viewP V.length Vs.length V' i = some (j, x) → x = false ∧ envC j = env1 i ∧ j < (V ++ V2).length := by
    intro i j x hh
    unfold viewP at hh
    split at hh
    · cases hh
    · rename_i hge
      have hge : Vs.length ≤ i := Nat.le_of_not_lt fun hlt => by rw [Nat.blt_eq.mpr hlt] at hge; exact Bool.noConfusion hge
      split at hh
      · rename_i o ho
        split at hh
        · cases hh
          refine ⟨rfl, by rw [hnw]; congr 1; omega, ?_⟩
          rw [List.length_append, hl2, List.length_drop]
          have := (List.getElem?_eq_some_iff.1 ho).1
          omega
        · cases hh
      · cases hh
  have hb1 : ∀ i j x, viewP V.length Vs.length V' i = some (j, x) → envC j = env1 i := fun i j x hh => (hb i j x hh).2.1
  have hb2 : ∀ i j, viewP V.length Vs.length V' i = some (j, true) → (env1 i).cap ≠ 0 := fun i j hh => by have := (hb i j true hh).1; cases this
  have cls : ∀ (k : Nat) (o : VObj), (V ++ V2)[k]? = some o → (k < V.length ∧ V[k]? = some o) ∨
      (∃ (j : Nat) (o' : VObj), k = V.length + j ∧ V'[Vs.length + j]? = some o' ∧ ((named o' = true ∧ reO (viewP V.length Vs.length V') o' = some o) ∨ (named o' = false ∧ o = .dead))) := by
    intro k o hk
    rw [List.getElem?_append] at hk
    split at hk
    · exact .inl ⟨‹_›, hk⟩
    · rename_i hge
      obtain ⟨o', h1, h2⟩ := htl _ o hk
      rw [List.getElem?_drop] at h1
      exact .inr ⟨k - V.length, o', by omega, h1, h2⟩
  have hnew : ∀ (i : Nat) (o' : VObj), V'[i]? = some o' → ownB (env1 i) o' → w.heap.size ≤ (env1 i).blk := by
    intro i o' hi ho
    rcases hF.own i o' hi ho with ⟨j, oj, hj, hoj, _⟩ | h
    · obtain ⟨t, m, n, f, rfl, _, _⟩ := hrep j oj hj
      exact absurd hoj.1 Bool.noConfusion
    · exact h
  have fresh : ∀ (j : Nat) (o o' : VObj), V'[Vs.length + j]? = some o' → named o' = true → reO (viewP V.length Vs.length V') o' = some o → hasB (envC (V.length + j)) o → o.live = true → w.heap.size ≤ (env1 (Vs.length + j)).blk := by
    intro j o o' h1 hn h2 hB hl
    have hfl := reO_flags h2
    rw [hnw] at hB
    exact hnew _ o' h1 ⟨owned_of_named hn (by rw [← hfl.2.2.1]; exact hl), (hfl.2.2.2.1 _).1 hB⟩
  have hFr : Fr env V w envC (V ++ V2) w' := by
    refine ⟨hag, by simp, hF.os, hF.tape, hF.output, hF.size, fun b hb0 _ => hkeep b hb0, fun k o hk ho => ?_⟩
    rcases cls k o hk with ⟨h1, h2⟩ | ⟨j, o', rfl, h1, h2⟩
    · rw [hag k h1] at ho ⊢; exact .inl ⟨k, o, h2, ho, rfl⟩
    · rcases h2 with ⟨hn, h2⟩ | ⟨_, rfl⟩
      · right
        rw [hnw]
        exact fresh j o o' h1 hn h2 ho.2 (live_of_hasB ho.2)
      · exact ho.2.elim
  refine ⟨u, envC, V ++ V2, v', rfl, rnR_ren hb1 hb2 hv' hrv, hW.mk' hFr (fun k o hk => ?_) (fun k o hk => ?_) (fun k o hk hB => ?_) (fun k m ok om hk hm hkm hw hl hBk hBm => ?_), hFr, hK⟩
  · rcases cls k o hk with ⟨h1, h2⟩ | ⟨j, o', rfl, h1, h2⟩
    · rw [hag k h1]; exact (hW.mat k o h2).keep (fun hB => hkeep _ (hW.blk k o h2 hB)) (hW.sc k o h2) hag
    · rcases h2 with ⟨hn, h2⟩ | ⟨_, rfl⟩
      · rw [hnw]; exact (reO_mat hb h2 (hW1.mat _ o' h1) (hW1.sc _ o' h1)).1
      · trivial
  · rcases cls k o hk with ⟨h1, h2⟩ | ⟨j, o', rfl, h1, h2⟩
    · exact (hW.sc k o h2).mono (by simp)
    · rcases h2 with ⟨hn, h2⟩ | ⟨_, rfl⟩
      · exact (reO_mat hb h2 (hW1.mat _ o' h1) (hW1.sc _ o' h1)).2
      · trivial
  · rcases cls k o hk with ⟨h1, h2⟩ | ⟨j, o', rfl, h1, h2⟩
    · rw [hag k h1] at hB ⊢; exact Nat.lt_of_lt_of_le (hW.blk k o h2 hB) hF.size
    · rcases h2 with ⟨hn, h2⟩ | ⟨_, rfl⟩
      · rw [hnw] at hB ⊢; exact hW1.blk _ o' h1 (((reO_flags h2).2.2.2.1 _).1 hB)
      · exact hB.elim
  · rcases cls k ok hk with ⟨h1, h2⟩ | ⟨j, o', rfl, h1, h2⟩
    · rcases cls m om hm with ⟨g1, g2⟩ | ⟨q, p', rfl, g1, g2⟩
      · rw [hag k h1] at hBk ⊢; rw [hag m g1] at hBm ⊢; exact hW.sep k m ok om h2 g2 hkm hw hl hBk hBm
      · rcases g2 with ⟨hn, g2⟩ | ⟨_, rfl⟩
        · have := fresh q om p' g1 hn g2 hBm hl
          rw [hag k h1] at hBk ⊢
          rw [hnw]
          have := hW.blk k ok h2 hBk
          omega
        · exact hBm.elim
    · rcases h2 with ⟨hn, h2⟩ | ⟨_, rfl⟩
      · rcases cls m om hm with ⟨g1, g2⟩ | ⟨q, p', rfl, g1, g2⟩
        · have := fresh j ok o' h1 hn h2 hBk (live_of_writes hw)
          rw [hag m g1] at hBm ⊢
          rw [hnw]
          have := hW.blk m om g2 hBm
          omega
        · rcases g2 with ⟨hn2, g2⟩ | ⟨_, rfl⟩
          · have f1 := reO_flags h2
            have f2 := reO_flags g2
            rw [hnw] at hBk hBm ⊢
            rw [hnw]
            exact hW1.sep _ _ o' p' h1 g1 (fun e => hkm (by omega)) (by rw [← f1.2.1]; exact hw) (by rw [← f2.2.2.1]; exact hl) ((f1.2.2.2.1 _).1 hBk) ((f2.2.2.2.1 _).1 hBm)
          · exact hBm.elim
      · cases hw
end Go.X
