/- AcceptorOne: an opened proposal is closed; a proposal more. -/
import Derived.Test.YtkjncodnmceilaaAoW6
set_option linter.unusedSimpArgs false
set_option linter.unusedVariables false
set_option linter.unusedSectionVars false
set_option maxRecDepth 100000
namespace Go.Acc
open Go Go.X Go.Proofs
variable [WI]

/-- an object that is the slice l -/
structure Vish (o : VObj) (l : List Int) : Prop where
  mat : ∀ (env : Nat → X.Loc) (w : World) (L : X.Loc), Mat env w L o → Mat env w L (vl l)
  b : ∀ L : X.Loc, L.cap ≠ 0 → X.hasB L o
  own : o.owned = true
  live : o.live = true
theorem vish_vl (l : List Int) : Vish (vl l) l := ⟨fun _ _ _ h => h, fun _ h => h, rfl, rfl⟩
theorem more_at (l : List Int) (s : Nat) {j : Nat} (hj : j < l.length + 1) : joinF l.length (fun j => [.int .i64 (l.getD j 0)]) (fun j => nth [] [[.int .i64 (s : Int)]] (0 + j)) j = [Value.int .i64 ((l ++ [(s : Int)]).getD j 0)] := by
  unfold joinF
  by_cases h : j < l.length
  · rw [if_pos h]
    show [Value.int .i64 (l.getD j 0)] = _
    rw [List.getD_eq_getElem?_getD, List.getD_eq_getElem?_getD, List.getElem?_append_left h]
  · obtain rfl : j = l.length := by omega
    rw [if_neg h, Nat.sub_self, List.getD_eq_getElem?_getD, List.getElem?_append_right (Nat.le_refl _), Nat.sub_self]
    rfl
theorem vish_more (l : List Int) (s : Nat) : Vish (moreL l s) (l ++ [(s : Int)]) := by
  refine ⟨fun env w L h => ?_, fun _ _ => trivial, rfl, rfl⟩
  have hlen : (l ++ [(s : Int)]).length = l.length + 1 := by rw [List.length_append, List.length_singleton]
  obtain ⟨h1, h2, h3⟩ := vec_of_rows (Nat.le_refl _) (show Mat env w L (.rows true 3 1 (l.length + 1) 0 (joinF l.length (fun j => [.int .i64 (l.getD j 0)]) fun j => nth [] [[.int .i64 (s : Int)]] (0 + j))) from h)
  unfold vl
  rw [hlen]
  refine ⟨h1, h2, fun hc => ?_⟩
  obtain ⟨h4, h5⟩ := h3 hc
  exact ⟨fun r hr => by have := h4 r hr; rw [more_at l s hr] at this; exact this, h5⟩
theorem more_cap {env : Nat → X.Loc} {w : World} {L : X.Loc} {l : List Int} {s : Nat} (h : Mat env w L (moreL l s)) : L.cap ≠ 0 := by
  obtain ⟨_, _, h3⟩ := h
  obtain ⟨_, cs, _, _, h6, _⟩ := h3 rfl
  omega

/-- a proposal is closed -/
theorem close_ {W : World} {N : Nat} {A : Nat → GAct} {F nI : Nat} {n : Nat} {P : Nat → GP} {I : Nat → GInst} {D : GCommand} {T : List Value} {x : GAct} {k : Nat} {y : GP} {v1 v2 : Value} {o5 o6 : VObj} {L : Nat → X.Loc}
    {env : Nat → X.Loc} {a : Act} {w : World} (hk : k < n)
    (hR : Rep env ⟨T, [oA N A, oP F nI (hv n) D, oI nI I, oLh n P (U1 P L) (U2 P L) k (gpc y v1 v2), oAct x, o5, o6]⟩ a w)
    (hf : Fam id env [oA N A, oP F nI (hv n) D, oI nI I, oLh n P (U1 P L) (U2 P L) k (gpc y v1 v2), oAct x, o5, o6] w 3 1 (2 * n) (X.updN (X.updN L (2 * k) (nilL 1)) (2 * k + 1) (nilL 1)) (X.updN (X.updN (lenF P) (2 * k) 0) (2 * k + 1) 0) (X.updN (X.updN (rowF P) (2 * k) fun _ => []) (2 * k + 1) fun _ => []))
    (hb : RowKit.Below WI.n W w) (h5 : Vish o5 y.pr) (h6 : Vish o6 y.ac) (hv1 : ren env v1 = memV (env 5) y.pr.length) (hv2 : ren env v2 = memV (env 6) y.ac.length) (hT : T.all (scB 5 6) = true) :
    HF W N A F nI ⟨n, upd P k y, I, D⟩ T [oAct x] a w := by
  let L' : Nat → X.Loc := X.updN (X.updN L (2 * k) (env 5)) (2 * k + 1) (env 6)
  have l0 : L' (2 * k) = env 5 := by show X.updN (X.updN L _ _) _ _ _ = _; rw [X.updN_ne _ _ (by omega), X.updN_at]
  have l1 : L' (2 * k + 1) = env 6 := X.updN_at _ _ _
  have ln : ∀ i, i ≠ 2 * k → i ≠ 2 * k + 1 → L' i = L i := fun i h h' => by show X.updN (X.updN L _ _) _ _ _ = _; rw [X.updN_ne _ _ h', X.updN_ne _ _ h]
  have m5 : Mat env w (env 5) (vl y.pr) := h5.mat _ _ _ (hR.mem.mat 5 _ rfl)
  have m6 : Mat env w (env 6) (vl y.ac) := h6.mat _ _ _ (hR.mem.mat 6 _ rfl)
  have hW := retell hR.mem (q := 3) (t := 91) (m := 16) (n := n) (cap := 0) (f := fun r => gpc (P r) (U1 P L r) (U2 P L r)) (hs := [(k, gpc y v1 v2)]) rfl (fun r => gpc (upd P k y r) (U1 (upd P k y) L' r) (U2 (upd P k y) L' r)) [] (fun _ h => absurd h List.not_mem_nil) (fun _ h => absurd h List.not_mem_nil)
    (fun r hr => by
      by_cases hrk : r = k
      · subst hrk
        rw [rawRow_one_at, gpc_ren, hv1, hv2]
        show gpc (upd P r y r) (memV (L' (2 * r)) (upd P r y r).pr.length) (memV (L' (2 * r + 1)) (upd P r y r).ac.length) = _
        rw [upd_at, l0, l1]
      · rw [rawRow_one_ne _ _ hrk]
        show gpc (upd P k y r) (memV (L' (2 * r)) (upd P k y r).pr.length) (memV (L' (2 * r + 1)) (upd P k y r).ac.length) = _
        rw [upd_ne _ _ hrk, ln _ (by omega) (by omega), ln _ (by omega) (by omega)]
        rfl)
  have hR1 := hR.swap (V' := cV N A F nI n (upd P k y) (U1 (upd P k y) L') (U2 (upd P k y) L') I D x ++ [o5, o6]) hW (by show 7 ≤ 7; omega) (fun _ _ => rfl)
  have hR2 := hR1.drop (cV_sc _ _ _ _ _ _ _ _ _ _ _) hT
  have f0 : Fam id env (cV N A F nI n (upd P k y) (U1 (upd P k y) L') (U2 (upd P k y) L') I D x) w 3 1 (2 * n) (X.updN (X.updN L (2 * k) (nilL 1)) (2 * k + 1) (nilL 1)) (X.updN (X.updN (lenF P) (2 * k) 0) (2 * k + 1) 0) (X.updN (X.updN (rowF P) (2 * k) fun _ => []) (2 * k + 1) fun _ => []) := hf.less fun j o hj hl hB => by
    match j, hj with
    | 0, hj => cases hj; exact ⟨0, _, rfl, rfl, hB, rfl⟩
    | 1, hj => cases hj; exact ⟨1, _, rfl, rfl, hB, rfl⟩
    | 2, hj => cases hj; exact ⟨2, _, rfl, rfl, hB, rfl⟩
    | 3, hj => cases hj; exact ⟨3, _, rfl, rfl, trivial, rfl⟩
    | 4, hj => cases hj; exact ⟨4, _, rfl, rfl, hB, rfl⟩
  have sepV : ∀ (p : Nat) (op : VObj), ([oA N A, oP F nI (hv n) D, oI nI I, oLh n P (U1 P L) (U2 P L) k (gpc y v1 v2), oAct x, o5, o6] : VW)[p]? = some op → 5 ≤ p → op.owned = true → op.live = true → X.hasB (env p) op →
      ∀ (j : Nat) (o : VObj), (cV N A F nI n (upd P k y) (U1 (upd P k y) L') (U2 (upd P k y) L') I D x)[j]? = some o → o.live = true → X.hasB (env j) o → (env p).blk ≠ (env j).blk := fun p op hp hp5 how hol hoB j o hj hl hB => by
    have hw : op.writes = true := by cases op <;> simp_all [VObj.owned, VObj.live, VObj.writes]
    match j, hj with
    | 0, hj => cases hj; exact hR.mem.sep p 0 op _ hp rfl (by omega) hw rfl hoB hB
    | 1, hj => cases hj; exact hR.mem.sep p 1 op _ hp rfl (by omega) hw rfl hoB hB
    | 2, hj => cases hj; exact hR.mem.sep p 2 op _ hp rfl (by omega) hw rfl hoB hB
    | 3, hj => cases hj; exact hR.mem.sep p 3 op _ hp rfl (by omega) hw rfl hoB trivial
    | 4, hj => cases hj; exact hR.mem.sep p 4 op _ hp rfl (by omega) hw rfl hoB hB
  have sep56 : (env 5).cap ≠ 0 → (env 6).cap ≠ 0 → (env 5).blk ≠ (env 6).blk := fun c5 c6 => by
    have h := h5.own
    have h' := h5.live
    exact hR.mem.sep 5 6 o5 o6 rfl rfl (by omega) (by cases o5 <;> simp_all [VObj.owned, VObj.live, VObj.writes]) h6.live (h5.b _ c5) (h6.b _ c6)
  have f1 := f0.set (2 * n) (2 * k) (fun j hj _ => hj) (l := env 5) (k := y.pr.length) (f := fun j => [.int .i64 (y.pr.getD j 0)]) m5 (fun r _ => rfl)
    (fun c5 => ⟨hR.mem.blk 5 _ rfl (h5.b _ c5), hR.mem.low 5 _ rfl ⟨h5.own, h5.b _ c5⟩⟩) (fun c5 j o hj hl hB => sepV 5 o5 rfl (by omega) h5.own h5.live (h5.b _ c5) j o hj hl hB) (fun c5 j hj hjk _ hcj => by
      by_cases hj1 : j = 2 * k + 1
      · subst hj1; rw [X.updN_at] at hcj; exact absurd rfl hcj
      · rw [X.updN_ne _ _ hj1, X.updN_ne _ _ hjk] at hcj ⊢
        have hc2 : ((X.updN (X.updN L (2 * k) (nilL 1)) (2 * k + 1) (nilL 1)) j).cap ≠ 0 := by rw [X.updN_ne _ _ hj1, X.updN_ne _ _ hjk]; exact hcj
        have := hf.apart j hj hc2 5 o5 rfl h5.live (h5.b _ c5)
        rw [X.updN_ne _ _ hj1, X.updN_ne _ _ hjk] at this
        exact this)
  have f2 := f1.set (2 * n) (2 * k + 1) (fun j hj _ => hj) (l := env 6) (k := y.ac.length) (f := fun j => [.int .i64 (y.ac.getD j 0)]) m6 (fun r _ => rfl)
    (fun c6 => ⟨hR.mem.blk 6 _ rfl (h6.b _ c6), hR.mem.low 6 _ rfl ⟨h6.own, h6.b _ c6⟩⟩) (fun c6 j o hj hl hB => sepV 6 o6 rfl (by omega) h6.own h6.live (h6.b _ c6) j o hj hl hB) (fun c6 j hj hjk _ hcj => by
      by_cases hj1 : j = 2 * k
      · subst hj1; rw [X.updN_at] at hcj ⊢; exact sep56 hcj c6
      · rw [X.updN_ne _ _ hj1, X.updN_ne _ _ hjk, X.updN_ne _ _ hj1] at hcj ⊢
        have hc2 : ((X.updN (X.updN L (2 * k) (nilL 1)) (2 * k + 1) (nilL 1)) j).cap ≠ 0 := by rw [X.updN_ne _ _ hjk, X.updN_ne _ _ hj1]; exact hcj
        have := hf.apart j hj hc2 6 o6 rfl h6.live (h6.b _ c6)
        rw [X.updN_ne _ _ hjk, X.updN_ne _ _ hj1] at this
        exact this)
  refine ⟨env, L', hR2, fam_congr f2 fun i hi => ?_, hb⟩
  by_cases h0 : i = 2 * k
  · subst h0
    refine ⟨?_, ?_, ?_⟩
    · rw [l0, X.updN_ne _ _ (by omega), X.updN_at]
    · rw [X.updN_ne _ _ (by omega), X.updN_at]; unfold lenF; rw [memb_upd0]
    · rw [X.updN_ne _ _ (by omega), X.updN_at]; unfold rowF; rw [memb_upd0]
  · by_cases h1 : i = 2 * k + 1
    · subst h1
      refine ⟨?_, ?_, ?_⟩
      · rw [l1, X.updN_at]
      · rw [X.updN_at]; unfold lenF; rw [memb_upd1]
      · rw [X.updN_at]; unfold rowF; rw [memb_upd1]
    · refine ⟨?_, ?_, ?_⟩
      · rw [ln i h0 h1, X.updN_ne _ _ h1, X.updN_ne _ _ h0, X.updN_ne _ _ h1, X.updN_ne _ _ h0]
      · rw [X.updN_ne _ _ h1, X.updN_ne _ _ h0, X.updN_ne _ _ h1, X.updN_ne _ _ h0]; unfold lenF; rw [memb_upd P k y h0 h1]
      · rw [X.updN_ne _ _ h1, X.updN_ne _ _ h0, X.updN_ne _ _ h1, X.updN_ne _ _ h0]; unfold rowF; rw [memb_upd P k y h0 h1]
end Go.Acc
