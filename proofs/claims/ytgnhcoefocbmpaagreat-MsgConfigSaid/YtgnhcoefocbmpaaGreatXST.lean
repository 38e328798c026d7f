/- What the symbolic run says of the real one: loads of what was there at the start. -/
import Derived.Test.YtgnhcoefocbmpaaGreatXSA
set_option linter.unusedSimpArgs false
set_option linter.unusedSectionVars false
set_option linter.unusedVariables false
namespace Go.X
open Go
variable [WI] [WD]
variable {P : Program} {env : Nat → Loc} {V : VW} {S : VSt} {a : Act} {w : World}

inductive AReads : List ACell → List Value → Prop
  | nil : AReads [] []
  | cons {c u cs us} : ARead c u → AReads cs us → AReads (c :: cs) (u :: us)

theorem AReads.len : ∀ {cs us}, AReads cs us → us.length = cs.length
  | _, _, .nil => rfl
  | _, _, .cons _ h => by simp [h.len]
theorem AReads.drop : ∀ {cs us} (n : Nat), AReads cs us → AReads (cs.drop n) (us.drop n)
  | _, _, 0, h => h
  | _, _, n + 1, .nil => .nil
  | _, _, n + 1, .cons _ h => h.drop n
theorem AReads.take : ∀ {cs us} (n : Nat), AReads cs us → AReads (cs.take n) (us.take n)
  | _, _, 0, h => .nil
  | _, _, n + 1, .nil => .nil
  | _, _, n + 1, .cons h1 h => .cons h1 (h.take n)

theorem AReads.of {b : Nat} : ∀ (cs : List ACell) (o : Nat), (∀ (j : Nat) (c : ACell), cs[j]? = some c → ∃ u, w.cell? ⟨b, o + j, none⟩ = some u ∧ ARead c u) → ∃ us, AReads cs us ∧ w.rangeAt b o us
  | [], o, _ => ⟨[], .nil, fun j v h => by simp at h⟩
  | c :: cs, o, h => by
    obtain ⟨u, h1, h2⟩ := h 0 c rfl
    obtain ⟨us, h3, h4⟩ := AReads.of cs (o + 1) fun j c' hj => by
      obtain ⟨u', h5, h6⟩ := h (j + 1) c' (by simpa using hj)
      exact ⟨u', by rw [show o + 1 + j = o + (j + 1) by omega]; exact h5, h6⟩
    refine ⟨u :: us, .cons h2 h3, fun j v hj => ?_⟩
    cases j with
    | zero => simp at hj; subst hj; exact h1
    | succ j =>
      have := h4 j v (by simpa using hj)
      rwa [show o + 1 + j = o + (j + 1) by omega] at this

/-- a place that says nothing of the memory as it is now -/
theorem RepW.addStill (hR : RepW env V w) (l : Loc) (o : VObj) (hl : o.live = false) (ho : o.owned = false) (hm : ∀ env' w', Mat env' w' l o) :
    RepW (fun i => if i = V.length then l else env i) (V ++ [o]) w ∧ Fr env V w (fun i => if i = V.length then l else env i) (V ++ [o]) w := by
  have hag : ∀ i, i < V.length → (if i = V.length then l else env i) = env i := fun i hi => if_neg (by omega)
  have hwr : o.writes = false := by cases o <;> simp_all [VObj.live, VObj.writes]
  have hnb : ¬ hasB l o := by cases o <;> simp_all [VObj.live, hasB]
  refine pairRF hR (fun i oi hi => ?_) (fun i oi hi => ?_) (fun i oi hi hB => ?_) (fun i j oi oj hi hj hij hw hlv hBi hBj => ?_) ⟨hag, by simp, rfl, rfl, rfl, Nat.le_refl _, fun _ _ _ => rfl, fun i oi hi hoi => ?_⟩
  · rcases get_app hi with ⟨hlt, hi⟩ | ⟨rfl, rfl⟩
    · rw [hag i hlt]; exact (hR.mat i oi hi).keep (fun _ => rfl) (hR.sc i oi hi) hag
    · rw [if_pos rfl]; exact hm _ _
  · rw [List.length_append, List.length_singleton]
    rcases get_app hi with ⟨hlt, hi⟩ | ⟨rfl, rfl⟩
    · exact (hR.sc i oi hi).mono (by omega)
    · cases oi <;> simp_all [VObj.live] <;> trivial
  · rcases get_app hi with ⟨hlt, hi⟩ | ⟨rfl, rfl⟩
    · rw [hag i hlt] at hB ⊢; exact hR.blk i oi hi hB
    · rw [if_pos rfl] at hB; exact absurd hB hnb
  · rcases get_app hi with ⟨hlt, hi⟩ | ⟨rfl, rfl⟩
    · rcases get_app hj with ⟨hlt2, hj⟩ | ⟨rfl, rfl⟩
      · rw [hag i hlt] at hBi ⊢; rw [hag j hlt2] at hBj ⊢; exact hR.sep i j oi oj hi hj hij hw hlv hBi hBj
      · rw [hl] at hlv; cases hlv
    · rw [hwr] at hw; cases hw
  · rcases get_app hi with ⟨hlt, hi⟩ | ⟨rfl, rfl⟩
    · rw [hag i hlt] at hoi ⊢; exact .inl ⟨i, oi, hi, hoi, rfl⟩
    · have := hoi.1; rw [ho] at this; cases this

/-- a place that is only read, of a block that is there -/
theorem RepW.addView (hR : RepW env V w) (l : Loc) {t : TypeId} {m n : Nat} {f : Nat → List Value} (hm : ∀ env' : Nat → Loc, Mat env' w l (.arg t m n f)) (hb : 2 ≤ l.cap → l.blk < w.heap.size)
    (hs : 2 ≤ l.cap → ∀ (i : Nat) (o : VObj), V[i]? = some o → o.writes = true → hasB (env i) o → (env i).blk ≠ l.blk) :
    RepW (fun i => if i = V.length then l else env i) (V ++ [.arg t m n f]) w ∧ Fr env V w (fun i => if i = V.length then l else env i) (V ++ [.arg t m n f]) w := by
  have hag : ∀ i, i < V.length → (if i = V.length then l else env i) = env i := fun i hi => if_neg (by omega)
  refine pairRF hR (fun i oi hi => ?_) (fun i oi hi => ?_) (fun i oi hi hB => ?_) (fun i j oi oj hi hj hij hw hlv hBi hBj => ?_) ⟨hag, by simp, rfl, rfl, rfl, Nat.le_refl _, fun _ _ _ => rfl, fun i oi hi hoi => ?_⟩
  · rcases get_app hi with ⟨hlt, hi⟩ | ⟨rfl, rfl⟩
    · rw [hag i hlt]; exact (hR.mat i oi hi).keep (fun _ => rfl) (hR.sc i oi hi) hag
    · rw [if_pos rfl]; exact hm _
  · rw [List.length_append, List.length_singleton]
    rcases get_app hi with ⟨hlt, hi⟩ | ⟨rfl, rfl⟩
    · exact (hR.sc i oi hi).mono (by omega)
    · trivial
  · rcases get_app hi with ⟨hlt, hi⟩ | ⟨rfl, rfl⟩
    · rw [hag i hlt] at hB ⊢; exact hR.blk i oi hi hB
    · rw [if_pos rfl] at hB ⊢; exact hb hB
  · rcases get_app hi with ⟨hlt, hi⟩ | ⟨rfl, rfl⟩
    · rcases get_app hj with ⟨hlt2, hj⟩ | ⟨rfl, rfl⟩
      · rw [hag i hlt] at hBi ⊢; rw [hag j hlt2] at hBj ⊢; exact hR.sep i j oi oj hi hj hij hw hlv hBi hBj
      · rw [hag i hlt] at hBi ⊢
        rw [if_pos rfl] at hBj ⊢
        exact hs hBj i oi hi hw hBi
    · cases hw
  · rcases get_app hi with ⟨hlt, hi⟩ | ⟨rfl, rfl⟩
    · rw [hag i hlt] at hoi ⊢; exact .inl ⟨i, oi, hi, hoi, rfl⟩
    · exact absurd hoi.1 Bool.noConfusion

theorem open_ok : ∀ {cs : List ACell} {us : List Value} {env : Nat → Loc} {V : VW}, RepW env V w → AReads cs us →
    ∃ env', RepW env' (V ++ openA V.length cs) w ∧ Fr env V w env' (V ++ openA V.length cs) w ∧ us = (openV V.length cs).map (ren env')
  | [], _, env, V, hR, .nil => ⟨env, by simpa [openA] using hR, by simpa [openA] using Fr.refl env V w, rfl⟩
  | .val v :: cs, _, env, V, hR, .cons h hs => by
    obtain ⟨env', h1, h2, h3⟩ := open_ok hR hs
    obtain ⟨rfl, hp⟩ := h
    refine ⟨env', h1, h2, ?_⟩
    rw [openV, List.map_cons, ren_plain env' hp, h3]
  | .sl t m n f :: cs, _, env, V, hR, .cons h hs => by
    obtain ⟨l, h0, h1, hu, hc⟩ := h
    obtain ⟨hR1, hF1⟩ := hR.addView l (t := t) (m := m) (n := n) (f := f) (fun _ => ⟨h0, fun hc => ⟨(h1 hc).1, (h1 hc).2.1⟩, hc w hR.inv⟩) (fun hc => Nat.lt_of_lt_of_le (h1 hc).2.2 hR.room)
      (fun hc i o hi hw hB he => by
        have ho : o.owned = true := by cases o <;> simp_all [VObj.writes, VObj.owned]
        have := hR.low i o hi ⟨ho, hB⟩
        have := (h1 hc).2.2
        omega)
    obtain ⟨env', h2, h3, h4⟩ := open_ok hR1 hs
    have e : V ++ [VObj.arg t m n f] ++ openA (V ++ [VObj.arg t m n f]).length cs = V ++ openA V.length (.sl t m n f :: cs) := by
      rw [openA, List.append_assoc, List.length_append, List.length_singleton]; rfl
    rw [e] at h2 h3
    refine ⟨env', h2, hF1.trans h3, ?_⟩
    have hl : env' V.length = l := by
      rw [h3.agree V.length (by simp)]; exact if_pos rfl
    rw [openV, List.map_cons, h4, List.length_append, List.length_singleton, ← hu]
    congr 1
    rw [ren_slice3 _ (a := ⟨0, 3, some 0⟩) _ _ rfl, ren_slice3 env' (a := ⟨V.length, 3, some 0⟩) _ _ rfl]
    simp only [hl, renA]

theorem takeA_eq {n : Nat} {cs l : List ACell} (h : takeA? n cs = some l) : l = cs.take n ∧ (cs.take n).length = n := by
  unfold takeA? at h
  split at h
  · cases h; exact ⟨rfl, ‹_›⟩
  · cases h

/-- A LOAD OF WHAT WAS THERE AT THE START -/
theorem xtab_run (hR : RepW env V w) {t t' : TypeId} {p : Addr} {r m n : Nat} {f : Nat → List ACell} (hv : V[p.block]? = some (.tab t' m n f)) (hs : p.spot = some r) {q : Prop} {os : List VObj} {v : Value}
    (h : xtab P V.length t n r (f r) p.off = .new q os v) (hq : q) :
    ∃ u env', (loadVar t (renA env p)).run P w = .ok u w ∧ Rv env' v u ∧ RepW env' (V ++ os) w ∧ Fr env V w env' (V ++ os) w := by
  have main : r < n → ∃ us, AReads ((f r).drop p.off) us ∧ w.rangeAt (env p.block).blk ((env p.block).base + r * (env p.block).m + p.off) us := by
    intro hr
    obtain ⟨_, hmm, hlen, hc⟩ := tabAt hR hv hr
    obtain ⟨us, h1, h2⟩ := AReads.of (f r) _ hc
    refine ⟨us.drop p.off, h1.drop _, fun j y hj => ?_⟩
    rw [List.getElem?_drop] at hj
    have := h2 _ _ hj
    rwa [show (env p.block).base + r * (env p.block).m + (p.off + j) = (env p.block).base + r * (env p.block).m + p.off + j by omega] at this
  have hra : renA env p = ⟨(env p.block).blk, (env p.block).base + r * (env p.block).m + p.off, none⟩ := by unfold renA; rw [hs]
  have agg : ∀ {d : TypeDesc} {i : TypeInfo} {l : List ACell}, P.underlying t = some d → d.isRow = true → P.info? t = some i → takeA? i.size ((f r).drop p.off) = some l → r < n →
      ∃ u env', (loadVar t (renA env p)).run P w = .ok u w ∧ Rv env' (.agg ⟨openV V.length l⟩) u ∧ RepW env' (V ++ openA V.length l) w ∧ Fr env V w env' (V ++ openA V.length l) w := by
    intro d i l hu hd hi hl hr
    obtain ⟨rfl, hlen⟩ := takeA_eq hl
    obtain ⟨us, h1, h2⟩ := main hr
    have h1' := h1.take i.size
    obtain ⟨env', hR', hF', hus⟩ := open_ok hR h1'
    have hul : (us.take i.size).length = i.size := by rw [h1'.len, hlen]
    refine ⟨.agg ⟨us.take i.size⟩, env', ?_, ?_, hR', hF'⟩
    · rw [hra]
      exact run_loadVar_mid (P := P) w _ _ t (us.take i.size) d (fun j y hj => h2 j y (by rw [List.getElem?_take] at hj; split at hj; exact hj; cases hj)) hu hd (by simp only [hi, Option.map_some]; rw [hul])
    · right
      rw [hus, ren_agg]
      congr 1
      apply Array.ext'
      simp
  unfold xtab at h
  split at h
  · rename_i fs i hu hi
    split at h
    · rename_i l hl
      cases h
      exact agg hu rfl hi hl hq
    · cases h
  · rename_i k e i hu hi
    split at h
    · rename_i l hl
      cases h
      exact agg hu rfl hi hl hq
    · cases h
  · rename_i d i hns hna hu hi
    have hagg := isAgg_of hu (fun fs e => hns fs e) (fun n' e' e => hna n' e' e) w
    split at h
    · rename_i y r' hd
      cases h
      obtain ⟨us, h1, h2⟩ := main hq
      rw [hd] at h1
      cases h1 with
      | cons hc hcs =>
        rename_i u us
        obtain ⟨rfl, hp⟩ := hc
        have hcell := h2 0 _ rfl
        rw [Nat.add_zero] at hcell
        refine ⟨_, env, by rw [hra]; simp [loadVar, hagg, hcell], .inr (ren_plain env hp).symm, by simpa using hR, by simpa using Fr.refl env V w⟩
    · rename_i t2 m2 k f2 r' hd
      cases h
      obtain ⟨us, h1, h2⟩ := main hq
      rw [hd] at h1
      cases h1 with
      | cons hc hcs =>
        rename_i u us
        have hcell := h2 0 _ rfl
        rw [Nat.add_zero] at hcell
        obtain ⟨env', hR', hF', hus⟩ := open_ok hR (AReads.cons hc .nil)
        simp only [openV, List.map_cons, List.map_nil, List.cons.injEq, and_true] at hus
        exact ⟨_, env', by rw [hra]; simp [loadVar, hagg, hcell], .inr hus, hR', hF'⟩
    · cases h
  · cases h
end Go.X
