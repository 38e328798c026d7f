/- AcceptorOne: a round of the law's loop. -/
import Derived.Test.YtkjncodnmceilaaAoW7
set_option linter.unusedSimpArgs false
set_option linter.unusedVariables false
set_option linter.unusedSectionVars false
set_option maxRecDepth 100000
namespace Go.Acc
open Go Go.X Go.Proofs
variable [WI]

/-- a play as it should be -/
structure Good (F : Nat) (st : PS) : Prop where
  n : st.n ≤ 64
  inv : ∃ h, Inv F st h
/-- in the midst of a round -/
structure MS (W : World) (N : Nat) (A : Nat → GAct) (F nI i : Nat) (a : Act) (w : World) : Prop where
  ex : ∃ (st : PS) (k s : Nat), Good F st ∧ k < st.n ∧ s < nI ∧ HF W N A F nI st (mTm N i k s) [oAct (A i)] a w
/-- at the head of a round -/
structure HS (W : World) (N : Nat) (A : Nat → GAct) (F nI : Nat) (i : Nat) (a : Act) (w : World) : Prop where
  ex : ∃ st : PS, Good F st ∧ ((0 < st.n ∧ HF W N A F nI st (lTm N i) [] a w) ∨ (st.n = 0 ∧ HT W N A F nI st (lTm N i) a w))

theorem prep_eq (F : Nat) (st : PS) (k s : Nat) (lost : Bool) : prepareS F st k s lost =
    if pc1 st.I st.P st.D k s then ({ st with I := pI st.I st.P k s }, false) else if pc2 st.I st.P k s lost then ({ st with I := pI st.I st.P k s }, true) else
    ({ st with I := pI st.I st.P k s, P := upd st.P k (prepX F (st.P k) s (pm st.I st.P k s)) }, true) := rfl
theorem acc_eq (F : Nat) (st : PS) (k s : Nat) : acceptS F st k s =
    if !(st.P k).ch then (st, true) else if ac1 st.I st.P st.D k s then ({ st with I := aI st.I st.P k s }, false) else if ac2 st.I st.P k s then ({ st with I := aI st.I st.P k s }, true) else
    if acS F st.P k s then (⟨st.n, upd st.P k (accP (st.P k) s), aI st.I st.P k s, st.D⟩, true) else
    (⟨st.n, upd st.P k (accP (st.P k) s), aI st.I st.P k s, if st.D.Kind == 0 then (st.P k).C else st.D⟩, cmdEq (if st.D.Kind == 0 then (st.P k).C else st.D) (st.P k).C) := by
  unfold acceptS acS
  simp only [decide_eq_true_eq]
  rfl

theorem mTm_sc (N i k s : Nat) : (mTm N i k s).all (scB 5 6) = true := by kernel_rfl

theorem c6_do (W : World) (N : Nat) (A : Nat → GAct) (F nI i : Nat) (hnI : nI = 2 * F + 1) (hF : F ≤ 3) :
    Do Try.prog (pc oB 5) (MS W N A F nI i) (fun e a w => e = .normal ∧ MS W N A F nI i a w) := by
  refine Do.of fun a w ⟨st, k, s, hG, hk, hs, hst⟩ => ?_
  obtain ⟨hn, h, hI⟩ := hG
  obtain ⟨env, L, hR, hf, hb⟩ := open_ hst hk
  have hpr : (st.P k).pr.length ≤ 1000 := by
    have := len_le (2 * F + 1) _ (hI.prN k hk).1 (fun s hs => by have := (hI.prN k hk).2 s hs; omega)
    omega
  have hac : (st.P k).ac.length ≤ 1000 := by
    have := len_le (2 * F + 1) _ (hI.acN k hk).1 (fun s hs => by have := (hI.acN k hk).2 s hs; omega)
    omega
  refine ⟨env, _, _, hR, p6_ok N A F nI st.n st.P (U1 st.P L) (U2 st.P L) st.I st.D (A i) i k s hk hs (by omega) hpr hac, fun e env' S' a' w' hF' hR' hk' => ?_⟩
  obtain ⟨hk', hnew⟩ := tame_ok hk'
  have hf' := hf.later hF' hnew
  have hb' := hb.trans (hF'.belowN hR.mem)
  obtain ⟨env2, S2, hR2, hleaf, hlen, hag, hpl⟩ := hR'.shape hk'
  have hf2 : Fam id env2 S2.V w' 3 1 (2 * st.n) (X.updN (X.updN L (2 * k) (nilL 1)) (2 * k + 1) (nilL 1)) (X.updN (X.updN (lenF st.P) (2 * k) 0) (2 * k + 1) 0) (X.updN (X.updN (rowF st.P) (2 * k) fun _ => []) (2 * k + 1) fun _ => []) := hf'.less fun j o hj hl hB => by
    obtain ⟨p, o', h1, h2, h3, h4⟩ := hpl j o hj hl hB
    exact ⟨p, o', h1, h3, h4, by rw [h2]⟩
  have hsF : s < 2 * F + 1 := by omega
  cases e with
  | normal =>
    refine ⟨rfl, ?_⟩
    obtain ⟨hout⟩ := hleaf
    rcases hout with ⟨_, _, rfl⟩ | ⟨_, h1, h2, rfl⟩ | ⟨_, h1, h2, rfl⟩ | ⟨_, _, rfl⟩ | ⟨_, h0, h1, h2, rfl⟩ | ⟨_, h0, h1, h2, rfl⟩
    · have := close_ hk hR2 hf2 hb' (vish_vl _) (vish_vl _) (memV_of _ _ _ _) (memV_of _ _ _ _) (mTm_sc N i k s)
      rw [upd_self] at this
      exact ⟨st, k, s, ⟨hn, h, hI⟩, hk, hs, this⟩
    · have := close_ hk hR2 hf2 hb' (vish_vl _) (vish_vl _) (memV_of _ _ _ _) (memV_of _ _ _ _) (mTm_sc N i k s)
      rw [upd_self] at this
      have hp := (inv_prepare hI (A i).Lost hk hsF).2
      rw [prep_eq, if_neg (ne_true_of_eq_false h1), if_pos h2] at hp
      exact ⟨⟨st.n, st.P, pI st.I st.P k s, st.D⟩, k, s, ⟨hn, h, hp⟩, hk, hs, this⟩
    · have c7 : (env2 5).cap ≠ 0 := more_cap (hR2.mem.mat 5 _ rfl)
      have hl : (prepX F (st.P k) s (pm st.I st.P k s)).pr = (st.P k).pr ++ [(s : Int)] := rfl
      have hp := (inv_prepare hI (A i).Lost hk hsF).2
      rw [prep_eq, if_neg (ne_true_of_eq_false h1), if_neg (ne_true_of_eq_false h2)] at hp
      refine ⟨⟨st.n, upd st.P k (prepX F (st.P k) s (pm st.I st.P k s)), pI st.I st.P k s, st.D⟩, k, s, ⟨hn, h, hp⟩, hk, hs, close_ hk hR2 hf2 hb' (vish_more _ _) (vish_vl _) ?_ (memV_of _ _ _ _) (mTm_sc N i k s)⟩
      rw [hl, List.length_append, List.length_singleton]
      exact memV_of1 env2 c7 (by decide) (by decide) (by decide)
    · have := close_ hk hR2 hf2 hb' (vish_vl _) (vish_vl _) (memV_of _ _ _ _) (memV_of _ _ _ _) (mTm_sc N i k s)
      rw [upd_self] at this
      exact ⟨st, k, s, ⟨hn, h, hI⟩, hk, hs, this⟩
    · have := close_ hk hR2 hf2 hb' (vish_vl _) (vish_vl _) (memV_of _ _ _ _) (memV_of _ _ _ _) (mTm_sc N i k s)
      rw [upd_self] at this
      obtain ⟨h', hp⟩ := (inv_accept hI hk hsF).2
      rw [acc_eq, if_neg (by rw [h0]; decide), if_neg (ne_true_of_eq_false h1), if_pos h2] at hp
      exact ⟨⟨st.n, st.P, aI st.I st.P k s, st.D⟩, k, s, ⟨hn, h', hp⟩, hk, hs, this⟩
    · have c7 : (env2 6).cap ≠ 0 := more_cap (hR2.mem.mat 6 _ rfl)
      obtain ⟨h', hp⟩ := (inv_accept hI hk hsF).2
      rw [acc_eq, if_neg (by rw [h0]; decide), if_neg (ne_true_of_eq_false h1), if_neg (ne_true_of_eq_false h2)] at hp
      have hp' : Inv F ⟨st.n, upd st.P k (accP (st.P k) s), aI st.I st.P k s, acD F st.P st.D k s⟩ h' := by
        unfold acD
        by_cases hc : acS F st.P k s = true
        · rw [if_pos hc] at hp ⊢; exact hp
        · rw [if_neg hc] at hp ⊢; exact hp
      refine ⟨⟨st.n, upd st.P k (accP (st.P k) s), aI st.I st.P k s, acD F st.P st.D k s⟩, k, s, ⟨hn, h', hp'⟩, hk, hs, close_ hk hR2 hf2 hb' (vish_vl _) (vish_more _ _) (memV_of _ _ _ _) ?_ (mTm_sc N i k s)⟩
      have hl : (accP (st.P k) s).ac = (st.P k).ac ++ [(s : Int)] := rfl
      rw [hl, List.length_append, List.length_singleton]
      exact memV_of1 env2 c7 (by decide) (by decide) (by decide)
  | ret =>
    exfalso
    obtain ⟨hout⟩ := hleaf
    rcases hout with ⟨_, h1⟩ | ⟨_, h0, h1⟩ | ⟨_, h0, h1, h2, h3⟩
    · have hp := (inv_prepare hI (A i).Lost hk hsF).1
      rw [prep_eq, if_pos h1] at hp
      cases hp
    · have hp := (inv_accept hI hk hsF).1
      rw [acc_eq, if_neg (by rw [h0]; decide), if_pos h1] at hp
      cases hp
    · have hp := (inv_accept hI hk hsF).1
      rw [acc_eq, if_neg (by rw [h0]; decide), if_neg (ne_true_of_eq_false h1), if_neg (ne_true_of_eq_false h2)] at hp
      unfold acR at h3
      by_cases hc : acS F st.P k s = true
      · rw [if_pos hc] at h3; cases h3
      · rw [if_neg hc] at hp h3
        unfold acD at h3
        rw [if_neg hc] at h3
        rw [h3] at hp
        cases hp
  | exit j => exact hleaf.elim
  | goto l => exact hleaf.elim
  | panic c => exact hleaf.elim
  | outgrown => exact hleaf.elim

theorem c7_do (W : World) (N : Nat) (A : Nat → GAct) (F nI i : Nat) : Do Try.prog (at_ oB 6) (MS W N A F nI i) (fun e a w => e = .normal ∧ HS W N A F nI i a w) := by
  refine Do.of fun a w ⟨st, k, s, hG, hk, hs, env, L, hR, hf, hb⟩ => ?_
  obtain ⟨hn, h, hI⟩ := hG
  refine ⟨env, _, _, hR, p7_ok N A F nI st.n st.P (U1 st.P L) (U2 st.P L) st.I st.D (A i) i k s hs, fun e env' S' a' w' hF' hR' hk' => ?_⟩
  obtain ⟨hk', hnew⟩ := tame_ok hk'
  have hf' := hf.later hF' hnew
  have hb' := hb.trans (hF'.belowN hR.mem)
  obtain ⟨env2, S2, hR2, hleaf, hlen, hag, hpl⟩ := hR'.shape hk'
  have hf2 : Fam id env2 S2.V w' 3 1 (2 * st.n) L (lenF st.P) (rowF st.P) := hf'.less fun j o hj hl hB => by
    obtain ⟨p, o', h1, h2, h3, h4⟩ := hpl j o hj hl hB
    exact ⟨p, o', h1, h3, h4, by rw [h2]⟩
  cases e with
  | normal =>
    refine ⟨rfl, ?_⟩
    obtain ⟨hout⟩ := hleaf
    rcases hout with ⟨h1, rfl⟩ | ⟨h1, rfl⟩
    · exact ⟨st, ⟨hn, h, hI⟩, .inl ⟨by omega, env2, L, hR2, hf2, hb'⟩⟩
    · have hD : st.D.Kind ≠ 0 := by unfold learns at h1; simp at h1; exact h1.2
      exact ⟨⟨st.n, st.P, lI st.I st.D s, st.D⟩, ⟨hn, h, (inv_learn hI s hD).2⟩, .inl ⟨by show 0 < st.n; omega, env2, L, hR2, hf2, hb'⟩⟩
  | ret =>
    obtain ⟨h1, h2⟩ := hleaf
    exfalso
    have hD : st.D.Kind ≠ 0 := by unfold learns at h1; simp at h1; exact h1.2
    have hp := (inv_learn hI s hD).1
    have h3 : lOk st.I st.D s = true := hp
    rw [h2] at h3
    cases h3
  | exit j => exact hleaf.elim
  | goto l => exact hleaf.elim
  | panic c => exact hleaf.elim
  | outgrown => exact hleaf.elim
end Go.Acc
