/- AcceptorOne: the law's loop. -/
import Derived.Test.YtkjncodnmceilaaAoW8
set_option linter.unusedSimpArgs false
set_option linter.unusedVariables false
set_option linter.unusedSectionVars false
set_option maxRecDepth 100000
namespace Go.Acc
open Go Go.X Go.Proofs
variable [WI]

/-- a proposal more -/
theorem grow_ {W : World} {N : Nat} {A : Nat → GAct} {F nI : Nat} {n : Nat} {P : Nat → GP} {I : Nat → GInst} {D : GCommand} {T : List Value} {x : GAct} {b : GStamp} {f : Nat → List Value} {L : Nat → X.Loc}
    {env : Nat → X.Loc} {a : Act} {w : World} (hr : ∀ r, r < n → f r = gpc (P r) (U1 P L r) (U2 P L r))
    (hR : Rep env ⟨T, [oA N A, oP F nI (hv (n + 1)) D, oI nI I, .raw 91 16 (n + 1) 0 f [(n, gpc (newP b n) nilS nilS)], oAct x]⟩ a w)
    (hf : Fam id env [oA N A, oP F nI (hv (n + 1)) D, oI nI I, .raw 91 16 (n + 1) 0 f [(n, gpc (newP b n) nilS nilS)], oAct x] w 3 1 (2 * n) L (lenF P) (rowF P)) (hb : RowKit.Below WI.n W w) :
    HF W N A F nI ⟨n + 1, upd P n (newP b n), I, D⟩ T [oAct x] a w := by
  let L' : Nat → X.Loc := X.updN (X.updN L (2 * n) (nilL 1)) (2 * n + 1) (nilL 1)
  have l0 : L' (2 * n) = nilL 1 := by show X.updN (X.updN L _ _) _ _ _ = _; rw [X.updN_ne _ _ (by omega), X.updN_at]
  have l1 : L' (2 * n + 1) = nilL 1 := X.updN_at _ _ _
  have ln : ∀ i, i ≠ 2 * n → i ≠ 2 * n + 1 → L' i = L i := fun i h h' => by show X.updN (X.updN L _ _) _ _ _ = _; rw [X.updN_ne _ _ h', X.updN_ne _ _ h]
  have hW := retell hR.mem (q := 3) (t := 91) (m := 16) (n := n + 1) (cap := 0) (f := f) (hs := [(n, gpc (newP b n) nilS nilS)]) rfl (fun r => gpc (upd P n (newP b n) r) (U1 (upd P n (newP b n)) L' r) (U2 (upd P n (newP b n)) L' r)) [] (fun _ h => absurd h List.not_mem_nil) (fun _ h => absurd h List.not_mem_nil)
    (fun r hrn => by
      by_cases hrk : r = n
      · subst hrk
        rw [rawRow_one_at, gpc_ren]
        show gpc (upd P r (newP b r) r) (memV (L' (2 * r)) (upd P r (newP b r) r).pr.length) (memV (L' (2 * r + 1)) (upd P r (newP b r) r).ac.length) = _
        rw [upd_at, l0, l1, memV_nil rfl, memV_nil rfl, ren_plain env (v := nilS) rfl]
        rfl
      · rw [rawRow_one_ne _ _ hrk, hr r (by omega)]
        show gpc (upd P n (newP b n) r) (memV (L' (2 * r)) (upd P n (newP b n) r).pr.length) (memV (L' (2 * r + 1)) (upd P n (newP b n) r).ac.length) = _
        rw [upd_ne _ _ hrk, ln _ (by omega) (by omega), ln _ (by omega) (by omega)]
        rfl)
  have hR1 := hR.swap (V' := cV N A F nI (n + 1) (upd P n (newP b n)) (U1 (upd P n (newP b n)) L') (U2 (upd P n (newP b n)) L') I D x) hW (by show 5 ≤ 5; omega) (fun _ _ => rfl)
  have f0 : Fam id env (cV N A F nI (n + 1) (upd P n (newP b n)) (U1 (upd P n (newP b n)) L') (U2 (upd P n (newP b n)) L') I D x) w 3 1 (2 * n) L (lenF P) (rowF P) := hf.less fun j o hj hl hB => by
    match j, hj with
    | 0, hj => cases hj; exact ⟨0, _, rfl, rfl, hB, rfl⟩
    | 1, hj => cases hj; exact ⟨1, _, rfl, rfl, hB, rfl⟩
    | 2, hj => cases hj; exact ⟨2, _, rfl, rfl, hB, rfl⟩
    | 3, hj => cases hj; exact ⟨3, _, rfl, rfl, trivial, rfl⟩
    | 4, hj => cases hj; exact ⟨4, _, rfl, rfl, hB, rfl⟩
  have f2 := (f0.pushNil (rowF (upd P n (newP b n)) (2 * n))).pushNil (rowF (upd P n (newP b n)) (2 * n + 1))
  refine ⟨env, L', hR1, fam_congr f2 fun i hi => ?_, hb⟩
  by_cases h0 : i = 2 * n
  · subst h0
    refine ⟨?_, ?_, ?_⟩
    · rw [l0, X.updN_ne _ _ (by omega), X.updN_at]
    · rw [X.updN_ne _ _ (by omega), X.updN_at]; unfold lenF; rw [memb_upd0]; rfl
    · rw [X.updN_ne _ _ (by omega), X.updN_at]
  · by_cases h1 : i = 2 * n + 1
    · subst h1
      refine ⟨?_, ?_, ?_⟩
      · rw [l1, X.updN_at]
      · rw [X.updN_at]; unfold lenF; rw [memb_upd1]; rfl
      · rw [X.updN_at]
    · refine ⟨?_, ?_, ?_⟩
      · rw [ln i h0 h1, X.updN_ne _ _ h1, X.updN_ne _ _ h0]
      · rw [X.updN_ne _ _ h1, X.updN_ne _ _ h0]; unfold lenF; rw [memb_upd P n _ h0 h1]
      · rw [X.updN_ne _ _ h1, X.updN_ne _ _ h0]; unfold rowF; rw [memb_upd P n _ h0 h1]

theorem natMod (x : Int) {m : Nat} (h : 0 < m) : ∃ k : Nat, x % (m : Int) = k ∧ k < m := by
  have h1 := Int.emod_nonneg x (b := (m : Int)) (by omega)
  have h2 := Int.emod_lt_of_pos x (b := (m : Int)) (by omega)
  exact ⟨(x % (m : Int)).toNat, by omega, by omega⟩

theorem begun_good {F : Nat} {st : PS} {x : GAct} (hG : Good F st) (hb : begunA st.P st.n x = true) : Good F ⟨st.n + 1, upd st.P st.n (newP x.Ballot st.n), st.I, st.D⟩ := by
  obtain ⟨hn, h, hI⟩ := hG
  unfold begunA wants at hb
  simp only [Bool.and_eq_true, decide_eq_true_eq] at hb
  obtain ⟨⟨_, hlt⟩, hb⟩ := hb
  have := inv_begin hI x.Ballot
  unfold beginS at this
  have hb' : (one_ x.Ballot && !usedIn st.P x.Ballot st.n) = true := hb
  rw [if_pos hb'] at this
  exact ⟨by show st.n + 1 ≤ 64; omega, h, this⟩

theorem b_do (W : World) (N : Nat) (A : Nat → GAct) (F nI i : Nat) (hnI : nI = 2 * F + 1) (hF : F ≤ 3) (hi : i < N) :
    Do Try.prog oB (HS W N A F nI i) (fun e a w => (e = .normal ∨ e = .exit 1) ∧ HS W N A F nI i a w) := by
  have h2 : Do Try.prog (.seq (pc oB 5) (at_ oB 6)) (MS W N A F nI i) (fun e a w => (e = .normal ∨ e = .exit 1) ∧ HS W N A F nI i a w) :=
    Do.seq (M := MS W N A F nI i) ((c6_do W N A F nI i hnI hF).mono (fun _ _ h => h) (fun e a w ⟨he, h⟩ => by subst he; exact h)) ((c7_do W N A F nI i).mono (fun _ _ h => h) (fun e a w ⟨he, h⟩ => ⟨.inl he, h⟩))
  rw [oB_eq]
  intro a w ⟨st, hG, hst⟩
  rcases hst with ⟨hn0, env, L, hR, hf, hb⟩ | ⟨hn0, env, hR, hb⟩
  · refine Do.pieces (A := fun a w => ∃ env, Rep env ⟨lTm N i, hV N A F nI st.n st.P (U1 st.P L) (U2 st.P L) st.I st.D⟩ a w ∧ Fam id env (hV N A F nI st.n st.P (U1 st.P L) (U2 st.P L) st.I st.D) w 3 1 (2 * st.n) L (lenF st.P) (rowF st.P) ∧ RowKit.Below WI.n W w)
      (ctxG_ok (l := [(26, inG)]) (cs := [(27, begCF N A F nI st.n st.P (U1 st.P L) (U2 st.P L) st.I st.D (A i) (A i).Ballot)]) (bs := []) (.cons in_ok .nil) (.cons (begCF_ok N A F nI st.n st.P (U1 st.P L) (U2 st.P L) st.I st.D (A i) (A i).Ballot (by have := hG.n; omega)) .nil)) 200 _ (fun c hc => .g) h2 ?_ a w ⟨env, hR, hf, hb⟩
    rintro a w ⟨env, hR, hf, hb⟩
    refine ⟨env, _, _, hR, p1F N A F nI st.n st.P (U1 st.P L) (U2 st.P L) st.I st.D i hi (by have := hG.n; omega) hn0 (by omega) (by omega), fun e env' S' a' w' hF' hR' hk' => ?_⟩
    obtain ⟨hk', hnew⟩ := tame_ok hk'
    have hf' := hf.later hF' hnew
    have hb' := hb.trans (hF'.belowN hR.mem)
    obtain ⟨env2, S2, hR2, hleaf, hlen, hag, hpl⟩ := hR'.shape hk'
    have hf2 : Fam id env2 S2.V w' 3 1 (2 * st.n) L (lenF st.P) (rowF st.P) := hf'.less fun j o hj hl hB => by
      obtain ⟨p, o', h1, h2, h3, h4⟩ := hpl j o hj hl hB
      exact ⟨p, o', h1, h3, h4, by rw [h2]⟩
    obtain ⟨s, hs, hsn⟩ := natMod (A i).S (m := nI) (by omega)
    cases e with
    | normal =>
      obtain ⟨hy, hno⟩ := hleaf
      cases hbg : begunA st.P st.n (A i) with
      | true =>
        obtain ⟨k, hk, hkn⟩ := natMod (A i).P (m := st.n + 1) (by omega)
        obtain rfl := hy hbg
        rw [hk, hs] at hR2
        exact (show MS W N A F nI i a' w' from ⟨_, k, s, begun_good hG hbg, hkn, hsn, grow_ (fun r hr => by unfold joinF; rw [if_pos hr]) hR2 hf2 hb'⟩)
      | false =>
        obtain ⟨k, hk, hkn⟩ := natMod (A i).P (m := st.n) hn0
        obtain rfl := hno hbg
        rw [hk, hs] at hR2
        exact (show MS W N A F nI i a' w' from ⟨st, k, s, hG, hkn, hsn, env2, L, hR2, hf2, hb'⟩)
    | exit j => exact hleaf.elim
    | goto l => exact hleaf.elim
    | ret => exact hleaf.elim
    | panic c => exact hleaf.elim
    | outgrown => exact hleaf.elim
  · obtain ⟨n, P, I, D⟩ := st
    obtain rfl : n = 0 := hn0
    refine Do.pieces (A := fun a w => ∃ env, Rep env ⟨lTm N i, eV N A F nI I D⟩ a w ∧ RowKit.Below WI.n W w)
      (ctxG_ok (l := [(26, inG)]) (cs := [(27, begCT N A F nI P I D (A i) (A i).Ballot)]) (bs := []) (.cons in_ok .nil) (.cons (begCT_ok N A F nI P I D (A i) (A i).Ballot) .nil)) 200 _ (fun c hc => .g) h2 ?_ a w ⟨env, hR, hb⟩
    rintro a w ⟨env, hR, hb⟩
    refine ⟨env, _, _, hR, p1T N A F nI P I D i hi (by omega) (by omega), fun e env' S' a' w' hF' hR' hk' => ?_⟩
    obtain ⟨hk', hnew⟩ := tame_ok hk'
    have hb' := hb.trans (hF'.belowN hR.mem)
    obtain ⟨env2, S2, hR2, hleaf, hlen, hag, hpl⟩ := hR'.shape hk'
    obtain ⟨s, hs, hsn⟩ := natMod (A i).S (m := nI) (by omega)
    cases e with
    | normal =>
      obtain ⟨⟨hbg⟩, ⟨rfl⟩⟩ := hleaf
      obtain ⟨k, hk, hkn⟩ := natMod (A i).P (m := 1) (by omega)
      have hk : (A i).P % (1 : Int) = k := hk
      rw [hk, hs] at hR2
      exact (show MS W N A F nI i a' w' from ⟨_, k, s, begun_good hG hbg, hkn, hsn, grow_ (L := fun _ => nilL 1) (fun r hr => absurd hr (Nat.not_lt_zero r)) hR2 (fam_none _ _ _) hb'⟩)
    | exit j =>
      match j, hleaf with
      | 0, hl => exact hl.elim
      | 1, hl =>
        obtain ⟨⟨hbg⟩, ⟨he⟩⟩ := hl
        subst he
        exact ⟨.inr rfl, ⟨0, P, I, D⟩, hG, .inr ⟨rfl, env2, hR2, hb'⟩⟩
      | j + 2, hl => exact hl.elim
    | goto l => exact hleaf.elim
    | ret => exact hleaf.elim
    | panic c => exact hleaf.elim
    | outgrown => exact hleaf.elim
end Go.Acc
