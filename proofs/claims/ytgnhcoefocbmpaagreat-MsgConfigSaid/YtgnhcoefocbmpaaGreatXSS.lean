/- Pieces over a known memory beside a family of slices: the state is told up to what is alike. -/
import Derived.Test.YtgnhcoefocbmpaaGreatXSP
import Derived.RowKit
set_option linter.unusedSimpArgs false
set_option linter.unusedSectionVars false
set_option linter.unusedVariables false
namespace Go.X
open Go
variable [WI]
variable {P : Program}

theorem Fr.belowN {env env' : Nat → Loc} {V V' : VW} {w w' : World} (hF : Fr env V w env' V' w') (hW : RepW env V w) : RowKit.Below WI.n w w' :=
  ⟨hF.os, hF.tape, hF.output, hF.size, fun k hk => hF.keep k (Nat.lt_of_lt_of_le hk hW.room) fun i o hi ho => by have := hW.low i o hi ho; omega⟩

/-- a state that is told in another way -/
structure Alike (S S' : VSt) : Prop where
  rep : ∀ env a w, Rep env S a w → Rep env S' a w
  pl : ∀ (env : Nat → Loc) (j : Nat) (o' : VObj), S'.V[j]? = some o' → o'.live = true → hasB (env j) o' → ∃ o, S.V[j]? = some o ∧ o.live = true ∧ hasB (env j) o

theorem Alike.refl (S : VSt) : Alike S S := ⟨fun _ _ _ h => h, fun _ _ o h h1 h2 => ⟨o, h, h1, h2⟩⟩
theorem Alike.trans {S S' S'' : VSt} (h : Alike S S') (h' : Alike S' S'') : Alike S S'' :=
  ⟨fun env a w hR => h'.rep env a w (h.rep env a w hR), fun env j o h1 h2 h3 => by
    obtain ⟨o', h4, h5, h6⟩ := h'.pl env j o h1 h2 h3
    exact h.pl env j o' h4 h5 h6⟩

/-- a value under another name -/
theorem Alike.rename {T : List Value} {V : VW} (t : Nat) {v v' : Value} (ht : T[t]? = some v) (hu : v ≠ unk) (he : ∀ env, ren env v = ren env v') (hs : Sc V.length v') : Alike ⟨T, V⟩ ⟨T.set t v', V⟩ :=
  ⟨fun env a w hR => hR.rename ht hu (he env) hs, fun _ _ o h h1 h2 => ⟨o, h, h1, h2⟩⟩

theorem slice_tag {env : Nat → Loc} {p o o' l c c' : Nat} {s : Option Nat} (h : o ≠ 0) (h2 : o ≠ 2) (h3 : o ≠ 3) (h' : o' ≠ 0) (h2' : o' ≠ 2) (h3' : o' ≠ 3) (h6 : o ≠ 6 := by decide) (h6' : o' ≠ 6 := by decide) : ren env (.slice (some ⟨p, o, s⟩) l c) = ren env (.slice (some ⟨p, o', s⟩) l c') := by
  rw [ren_sliceK env _ _ h2 h3 h6, ren_sliceK env _ _ h2' h3' h6']
  cases o with
  | zero => exact absurd rfl h
  | succ o => cases o' with
    | zero => exact absurd rfl h'
    | succ o' => rfl

/-- a row told by another function that agrees on it -/
theorem Alike.row {T : List Value} {V : VW} (i : Nat) {own : Bool} {t : TypeId} {m n cap : Nat} {f : Nat → List Value} (g : Nat → List Value) (hi : V[i]? = some (.rows own t m n cap f)) (hg : ∀ r, r < n → f r = g r) : Alike ⟨T, V⟩ ⟨T, V.set i (.rows own t m n cap g)⟩ := by
  have get : ∀ {j : Nat} {o : VObj}, (V.set i (.rows own t m n cap g))[j]? = some o → (j = i ∧ o = .rows own t m n cap g) ∨ (j ≠ i ∧ V[j]? = some o) := by
    intro j o h
    rcases setV_get h with ⟨h1, h2, _⟩ | h
    · exact .inl ⟨h1, h2⟩
    · exact .inr h
  refine ⟨fun env a w hR => ⟨⟨fun j o hj => ?_, fun j o hj => ?_, fun j o hj hB => ?_, fun j k oj ok hj hk hjk hw hl hBj hBk => ?_, hR.mem.inv, fun j o hj ho => ?_, hR.mem.room⟩, hR.def_, hR.size, hR.tm, fun v hv => by rw [List.length_set]; exact hR.sc v hv⟩, fun env j o hj h1 h2 => ?_⟩
  · rcases get hj with ⟨rfl, rfl⟩ | ⟨_, hj'⟩
    · obtain ⟨h1, h2, h3⟩ := hR.mem.mat _ _ hi
      exact ⟨h1, fun r hr => by rw [← hg r hr]; exact h2 r hr, h3⟩
    · exact hR.mem.mat j o hj'
  · rw [List.length_set]
    rcases get hj with ⟨rfl, rfl⟩ | ⟨_, hj'⟩
    · intro r hr; rw [← hg r hr]; exact hR.mem.sc _ _ hi r hr
    · exact hR.mem.sc j o hj'
  · rcases get hj with ⟨rfl, rfl⟩ | ⟨_, hj'⟩
    · exact hR.mem.blk _ _ hi trivial
    · exact hR.mem.blk j o hj' hB
  · rcases get hj with ⟨rfl, rfl⟩ | ⟨_, hj'⟩
    · rcases get hk with ⟨rfl, rfl⟩ | ⟨_, hk'⟩
      · exact absurd rfl hjk
      · exact hR.mem.sep _ _ _ _ hi hk' hjk hw hl trivial hBk
    · rcases get hk with ⟨rfl, rfl⟩ | ⟨_, hk'⟩
      · exact hR.mem.sep _ _ _ _ hj' hi hjk hw rfl hBj trivial
      · exact hR.mem.sep _ _ _ _ hj' hk' hjk hw hl hBj hBk
  · rcases get hj with ⟨rfl, rfl⟩ | ⟨_, hj'⟩
    · exact hR.mem.low _ _ hi ⟨ho.1, trivial⟩
    · exact hR.mem.low j o hj' ho
  · rcases get hj with ⟨rfl, rfl⟩ | ⟨_, hj'⟩
    · exact ⟨_, hi, rfl, trivial⟩
    · exact ⟨o, hj', h1, h2⟩

/-- a state beside a family -/
structure St (W : World) (G : Nat → Nat) (t : TypeId) (m n : Nat) (L : Nat → Loc) (N : Nat → Nat) (F : Nat → Nat → List Value) (J : VSt → Prop) (a : Act) (w : World) : Prop where
  ex : ∃ env S, Rep env S a w ∧ J S ∧ Fam G env S.V w t m n L N F ∧ RowKit.Below WI.n W w

theorem St.mono {W : World} {G : Nat → Nat} {t : TypeId} {m n : Nat} {L : Nat → Loc} {N : Nat → Nat} {F : Nat → Nat → List Value} {J J' : VSt → Prop} {a : Act} {w : World} (h : St W G t m n L N F J a w) (hJ : ∀ S, J S → ∃ S', Alike S S' ∧ J' S') : St W G t m n L N F J' a w := by
  obtain ⟨env, S, hR, hj, hf, hb⟩ := h
  obtain ⟨S', hA, hj'⟩ := hJ S hj
  refine ⟨env, S', hA.rep env a w hR, hj', hf.less fun j o hj hl hB => ?_, hb⟩
  obtain ⟨o', h1, h2, h3⟩ := hA.pl env j o hj hl hB
  exact ⟨j, o', h1, h2, h3, rfl⟩

/-- a piece that the runner runs, beside a family -/
theorem St.run {c : Code} {W : World} {G : Nat → Nat} {t : TypeId} {m n : Nat} {L : Nat → Loc} {N : Nat → Nat} {F : Nat → Nat → List Value} {J : VSt → Prop} {B : Exit → VSt → Prop}
    (h : ∀ S, J S → ∃ (S1 : VSt) (sel : Exit → VSt → List Sel) (ks : Exit → List Nat) (K : Exit → VSt → Prop), Alike S S1 ∧ (Does P c S1 fun e S' => tame S1.V S'.V (reshape 0 (sel e S') (ks e) [] [] S' (K e))) ∧ ∀ e S', K e S' → ∃ S'', Alike S' S'' ∧ B e S'') :
    Do P c (St W G t m n L N F J) (fun e => St W G t m n L N F (B e)) := by
  refine Do.of fun a w hst => ?_
  obtain ⟨env, S, hR, hj, hf, hb⟩ := hst
  obtain ⟨S1, sel, ks, K, hA, hD, hK⟩ := h S hj
  have hR1 := hA.rep env a w hR
  have hf1 : Fam G env S1.V w t m n L N F := hf.less fun j o hj hl hB => by
    obtain ⟨o', h1, h2, h3⟩ := hA.pl env j o hj hl hB
    exact ⟨j, o', h1, h2, h3, rfl⟩
  refine ⟨env, S1, _, hR1, hD, fun e env' S' a' w' hF hR' hk => ?_⟩
  obtain ⟨hk, hnew⟩ := tame_ok hk
  have hf' := hf1.later hF hnew
  have hb' := hb.trans (hF.belowN hR1.mem)
  obtain ⟨env2, S2, hR2, hleaf, hlen, hag, hpl⟩ := hR'.shape hk
  have hf2 : Fam G env2 S2.V w' t m n L N F := hf'.less fun j o hj hl hB => by
    obtain ⟨p, o', h1, h2, h3, h4⟩ := hpl j o hj hl hB
    exact ⟨p, o', h1, h3, h4, by rw [h2]⟩
  exact St.mono ⟨env2, S2, hR2, hleaf, hf2, hb'⟩ (hK e)

/-- what a round of a loop ends in -/
def sround (id : Nat) (J : Nat → VSt → Prop) (k : Nat) (B : Exit → VSt → Prop) (e : Exit) (S : VSt) : Prop :=
  match e with
  | .normal => ∃ k', k' < k ∧ J k' S
  | .exit i => if i = id then B .normal S else B (.exit i) S
  | e => B e S

theorem St.loop {id : Nat} {body : Code} {W : World} {G : Nat → Nat} {t : TypeId} {m n : Nat} {L : Nat → Loc} {N : Nat → Nat} {F : Nat → Nat → List Value} (J : Nat → VSt → Prop) {B : Exit → VSt → Prop} (k0 : Nat)
    (h : ∀ k, Do P body (St W G t m n L N F (J k)) (fun e => St W G t m n L N F (sround id J k B e))) :
    Do P (.block id (.loop body)) (St W G t m n L N F (J k0)) (fun e => St W G t m n L N F (B e)) := by
  refine Do.loop (fun k => St W G t m n L N F (J k)) (fun k => (h k).mono (fun _ _ h => h) fun e a w hst => ?_) k0
  cases e with
  | normal =>
    obtain ⟨env, S, h1, ⟨k', h2, h3⟩, h4⟩ := hst
    exact ⟨k', h2, env, S, h1, h3, h4⟩
  | exit i =>
    simp only [roundB]
    obtain ⟨env, S, h1, h2, h4⟩ := hst
    simp only [sround] at h2
    split
    · rename_i hi; rw [if_pos hi] at h2; exact ⟨env, S, h1, h2, h4⟩
    · rename_i hi; rw [if_neg hi] at h2; exact ⟨env, S, h1, h2, h4⟩
  | goto l => exact hst
  | ret => exact hst
  | panic c => exact hst
  | outgrown => exact hst

/-- the state at the start of a function -/
theorem Rep.start {env : Nat → Loc} {args : List Value} {V : VW} {w : World} (hW : RepW env V w) (hsc : ∀ v ∈ args, Sc V.length v) (n : Nat) :
    Rep env ⟨args ++ List.replicate (n - args.length) undef, V⟩ { tmps := (args.map (ren env)).toArray ++ Array.replicate (n - (args.map (ren env)).toArray.size) undef, defers := [] } w := by
  refine ⟨hW, rfl, by simp, fun t ht => .inr ?_, fun v hv => ?_⟩
  · simp only [List.length_append, List.length_replicate] at ht
    rw [nth_eq, Array.getD_eq_getD_getElem?, List.getD_eq_getElem?_getD]
    simp only [Array.getElem?_append, List.getElem?_append, List.getElem?_toArray, List.size_toArray, List.length_map, List.getElem?_map, Array.getElem?_replicate, List.getElem?_replicate]
    by_cases h1 : t < args.length
    · simp [h1]
    · simp only [h1, if_false]
      split <;> simp
  · simp only [List.mem_append, List.mem_replicate] at hv
    rcases hv with hv | ⟨_, rfl⟩
    · exact hsc v hv
    · exact .undef
end Go.X
