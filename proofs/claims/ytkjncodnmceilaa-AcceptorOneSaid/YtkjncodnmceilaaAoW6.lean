/- AcceptorOne: a round's memory: the play beside the family of its proposals' lists; a proposal is opened and closed. -/
import Derived.Test.YtkjncodnmceilaaAoW5
set_option linter.unusedSimpArgs false
set_option linter.unusedVariables false
set_option linter.unusedSectionVars false
set_option maxRecDepth 100000
namespace Go.Acc
open Go Go.X Go.Proofs
variable [WI]

/-- rows with holes, told in another way -/
theorem retell {env : Nat → X.Loc} {V : VW} {w : World} (hW : RepW env V w) {q : Nat} {t : TypeId} {m n cap : Nat} {f : Nat → List Value} {hs : List (Nat × List Value)} (hq : V[q]? = some (.raw t m n cap f hs))
    (g : Nat → List Value) (hs' : List (Nat × List Value)) (hh : ∀ x ∈ hs', x.1 < n) (hsc : ∀ x ∈ hs', ∀ v ∈ x.2, Sc V.length v ∧ cellC v = true) (hrow : ∀ r, r < n → rawRow env g hs' r = rawRow env f hs r) :
    RepW env (V.set q (.raw t m n cap g hs')) w := by
  have get : ∀ {j : Nat} {o : VObj}, (V.set q (.raw t m n cap g hs'))[j]? = some o → (j = q ∧ o = .raw t m n cap g hs') ∨ (j ≠ q ∧ V[j]? = some o) := by
    intro j o h
    rcases setV_get h with ⟨h1, h2, _⟩ | h
    · exact .inl ⟨h1, h2⟩
    · exact .inr h
  refine ⟨fun j o hj => ?_, fun j o hj => ?_, fun j o hj hB => ?_, fun j k oj ok hj hk hjk hw hl hBj hBk => ?_, hW.inv, fun j o hj ho => ?_, hW.room⟩
  · rcases get hj with ⟨rfl, rfl⟩ | ⟨_, hj'⟩
    · obtain ⟨h0, h1, h2, h3⟩ := hW.mat _ _ hq
      exact ⟨hh, h1, fun r hr => by rw [hrow r hr]; exact h2 r hr, h3⟩
    · exact hW.mat j o hj'
  · rw [List.length_set]
    rcases get hj with ⟨rfl, rfl⟩ | ⟨_, hj'⟩
    · exact hsc
    · exact hW.sc j o hj'
  · rcases get hj with ⟨rfl, rfl⟩ | ⟨_, hj'⟩
    · exact hW.blk _ _ hq trivial
    · exact hW.blk j o hj' hB
  · rcases get hj with ⟨rfl, rfl⟩ | ⟨_, hj'⟩
    · rcases get hk with ⟨rfl, rfl⟩ | ⟨_, hk'⟩
      · exact absurd rfl hjk
      · exact hW.sep _ _ _ _ hq hk' hjk rfl hl trivial hBk
    · rcases get hk with ⟨rfl, rfl⟩ | ⟨_, hk'⟩
      · exact hW.sep _ _ _ _ hj' hq hjk hw rfl hBj trivial
      · exact hW.sep _ _ _ _ hj' hk' hjk hw hl hBj hBk
  · rcases get hj with ⟨rfl, rfl⟩ | ⟨_, hj'⟩
    · exact hW.low _ _ hq ⟨rfl, trivial⟩
    · exact hW.low j o hj' ho

theorem fam_congr {G : Nat → Nat} {env : Nat → X.Loc} {V : VW} {w : World} {t : TypeId} {m n : Nat} {L L' : Nat → X.Loc} {M M' : Nat → Nat} {F F' : Nat → Nat → List Value} (h : Fam G env V w t m n L M F)
    (hc : ∀ i, i < n → L' i = L i ∧ M' i = M i ∧ F' i = F i) : Fam G env V w t m n L' M' F' :=
  ⟨fun i hi => by obtain ⟨h1, h2, h3⟩ := hc i hi; rw [h1, h2, h3]; exact h.mat i hi, fun i hi r hr => by obtain ⟨h1, h2, h3⟩ := hc i hi; rw [h2] at hr; rw [h3]; exact h.plain i hi r hr,
   fun i hi hcc => by obtain ⟨h1, h2, h3⟩ := hc i hi; rw [h1] at hcc ⊢; exact h.blk i hi hcc, fun i hi hcc => by obtain ⟨h1, h2, h3⟩ := hc i hi; rw [h1] at hcc ⊢; exact h.apart i hi hcc,
   fun i j hi hj hij hci hcj => by obtain ⟨h1, _, _⟩ := hc i hi; obtain ⟨g1, _, _⟩ := hc j hj; rw [h1] at hci ⊢; rw [g1] at hcj ⊢; exact h.sep i j hi hj hij hci hcj⟩

theorem fam_none {G : Nat → Nat} {env : Nat → X.Loc} {V : VW} {w : World} {t : TypeId} {m : Nat} (L : Nat → X.Loc) (M : Nat → Nat) (F : Nat → Nat → List Value) : Fam G env V w t m 0 L M F :=
  ⟨fun i hi => absurd hi (Nat.not_lt_zero i), fun i hi => absurd hi (Nat.not_lt_zero i), fun i hi => absurd hi (Nat.not_lt_zero i), fun i hi => absurd hi (Nat.not_lt_zero i), fun i j hi => absurd hi (Nat.not_lt_zero i)⟩

/-- a member is taken out, as a slice of its own -/
theorem takeV {env : Nat → X.Loc} {V : VW} {w : World} {t : TypeId} {m n : Nat} {L : Nat → X.Loc} {M : Nat → Nat} {F : Nat → Nat → List Value} (h : Fam id env V w t m n L M F) (hW : RepW env V w) {i : Nat} (hi : i < n)
    {env' : Nat → X.Loc} (hag : ∀ j, j < V.length → env' j = env j) (hnew : env' V.length = L i) :
    RepW env' (V ++ [.vec t m (M i) (F i)]) w ∧ Fam id env' (V ++ [.vec t m (M i) (F i)]) w t m n (X.updN L i (nilL m)) (X.updN M i 0) (X.updN F i fun _ => []) := by
  have hpl := h.plain i hi
  have hm : Mat env' w (L i) (.vec t m (M i) (F i)) := vec_mat hpl (h.mat i hi)
  have hW' : RepW env' (V ++ [.vec t m (M i) (F i)]) w :=
    hW.addP hag hnew hm (flatO.sc (o := .vec t m (M i) (F i)) hpl) (fun hB => (h.blk i hi hB).1) (fun hB => (h.blk i hi hB.2).2)
      (fun j oj hj hl hB hBv _ => h.apart i hi hBv j oj hj hl hB)
  refine ⟨hW', ?_⟩
  have h0 : Fam id env V w t m n (X.updN L i (nilL m)) (X.updN M i 0) (X.updN F i fun _ => []) := by
    refine h.set n i (fun j hj _ => hj) ⟨rfl, fun _ => rfl, fun h => absurd rfl h⟩ (fun r hr => absurd hr (Nat.not_lt_zero r)) (fun h => absurd rfl h) (fun h => absurd rfl h) (fun h => absurd rfl h)
  refine ⟨fun j hj => vec_mat (h0.plain j hj) (h0.mat j hj), h0.plain, h0.blk, fun j hj hcj p o hp hl hB => ?_, h0.sep⟩
  rcases get_app hp with ⟨hlt, hp'⟩ | ⟨rfl, rfl⟩
  · rw [hag p hlt] at hB ⊢; exact h0.apart j hj hcj p o hp' hl hB
  · rw [hnew] at hB ⊢
    have hji : j ≠ i := fun e => hcj (by rw [e, X.updN_at])
    rw [X.updN_ne _ _ hji] at hcj ⊢
    exact h.sep j i hj hi hji hcj hB

/-! ### The lists of the proposals -/
def memb (P : Nat → GP) (i : Nat) : List Int := if i % 2 = 0 then (P (i / 2)).pr else (P (i / 2)).ac
def lenF (P : Nat → GP) (i : Nat) : Nat := (memb P i).length
def rowF (P : Nat → GP) (i r : Nat) : List Value := [.int .i64 ((memb P i).getD r 0)]
def U1 (P : Nat → GP) (L : Nat → X.Loc) (r : Nat) : Value := memV (L (2 * r)) (P r).pr.length
def U2 (P : Nat → GP) (L : Nat → X.Loc) (r : Nat) : Value := memV (L (2 * r + 1)) (P r).ac.length
theorem memb0 (P : Nat → GP) (k : Nat) : memb P (2 * k) = (P k).pr := by
  unfold memb
  rw [if_pos (by omega), show 2 * k / 2 = k by omega]
theorem memb1 (P : Nat → GP) (k : Nat) : memb P (2 * k + 1) = (P k).ac := by
  unfold memb
  rw [if_neg (by omega), show (2 * k + 1) / 2 = k by omega]
theorem memb_upd (P : Nat → GP) (k : Nat) (x : GP) {i : Nat} (h1 : i ≠ 2 * k) (h2 : i ≠ 2 * k + 1) : memb (upd P k x) i = memb P i := by
  unfold memb
  rw [upd_ne _ _ (by omega)]
theorem memb_upd0 (P : Nat → GP) (k : Nat) (x : GP) : memb (upd P k x) (2 * k) = x.pr := by rw [memb0, upd_at]
theorem memb_upd1 (P : Nat → GP) (k : Nat) (x : GP) : memb (upd P k x) (2 * k + 1) = x.ac := by rw [memb1, upd_at]

theorem gpc_ren (env : Nat → X.Loc) (x : GP) (u1 u2 : Value) : (gpc x u1 u2).map (ren env) = gpc x (ren env u1) (ren env u2) := by
  simp only [gpc, List.map, ren_int, ren_string, ren_bool]

theorem cV_sc (N : Nat) (A : Nat → GAct) (F nI n : Nat) (P : Nat → GP) (u1 u2 : Nat → Value) (I : Nat → GInst) (D : GCommand) (a : GAct) (i : Nat) (o : VObj) (hi : (cV N A F nI n P u1 u2 I D a)[i]? = some o) : ScO (cV N A F nI n P u1 u2 I D a).length o := by
  match i, hi with
  | 0, hi => cases hi; trivial
  | 1, hi => cases hi; exact plain_sc (by kernel_rfl)
  | 2, hi =>
    cases hi
    intro r hr v hv
    have h1 : (I r).c.all (scB 0 6) = true := by kernel_rfl
    have h2 : (I r).c.all cellC = true := by kernel_rfl
    exact ⟨scB_ok 6 v (List.all_eq_true.1 h1 v hv), List.all_eq_true.1 h2 v hv⟩
  | 3, hi => cases hi; exact fun h hh => absurd hh List.not_mem_nil
  | 4, hi => cases hi; exact plain_sc (by kernel_rfl)

/-- the play's memory, with a proposal at least -/
structure HF (W : World) (N : Nat) (A : Nat → GAct) (F nI : Nat) (st : PS) (T : List Value) (X : VW) (a : Act) (w : World) : Prop where
  ex : ∃ env L, Rep env ⟨T, hV N A F nI st.n st.P (U1 st.P L) (U2 st.P L) st.I st.D ++ X⟩ a w ∧ Fam id env (hV N A F nI st.n st.P (U1 st.P L) (U2 st.P L) st.I st.D ++ X) w 3 1 (2 * st.n) L (lenF st.P) (rowF st.P) ∧ RowKit.Below WI.n W w
/-- with none -/
structure HT (W : World) (N : Nat) (A : Nat → GAct) (F nI : Nat) (st : PS) (T : List Value) (a : Act) (w : World) : Prop where
  ex : ∃ env, Rep env ⟨T, eV N A F nI st.I st.D⟩ a w ∧ RowKit.Below WI.n W w

/-- a proposal is opened -/
theorem open_ {W : World} {N : Nat} {A : Nat → GAct} {F nI : Nat} {st : PS} {T : List Value} {x : GAct} {k : Nat} {a : Act} {w : World} (h : HF W N A F nI st T [oAct x] a w) (hk : k < st.n) :
    ∃ env L, Rep env ⟨T, openV N A F nI st.n st.P (U1 st.P L) (U2 st.P L) st.I st.D x k⟩ a w ∧
      Fam id env (openV N A F nI st.n st.P (U1 st.P L) (U2 st.P L) st.I st.D x k) w 3 1 (2 * st.n) (X.updN (X.updN L (2 * k) (nilL 1)) (2 * k + 1) (nilL 1)) (X.updN (X.updN (lenF st.P) (2 * k) 0) (2 * k + 1) 0) (X.updN (X.updN (rowF st.P) (2 * k) fun _ => []) (2 * k + 1) fun _ => []) ∧ RowKit.Below WI.n W w := by
  obtain ⟨env, L, hR, hf, hb⟩ := h
  obtain ⟨h1, f1⟩ := takeV (i := 2 * k) (env' := fun j => if j = 5 then L (2 * k) else env j) hf hR.mem (by omega) (fun j hj => if_neg (by have : j < 5 := hj; omega)) (if_pos rfl)
  obtain ⟨h2, f2⟩ := takeV (i := 2 * k + 1) (env' := fun j => if j = 6 then L (2 * k + 1) else if j = 5 then L (2 * k) else env j) f1 h1 (by omega) (fun j hj => if_neg (by have : j < 6 := hj; omega)) (by
    rw [X.updN_ne _ _ (by omega)]; exact if_pos rfl)
  rw [X.updN_ne (lenF st.P) _ (by omega), X.updN_ne (rowF st.P) _ (by omega)] at h2 f2
  have e1 : VObj.vec 3 1 (lenF st.P (2 * k)) (rowF st.P (2 * k)) = vl (st.P k).pr := by unfold lenF rowF; rw [memb0]; rfl
  have e2 : VObj.vec 3 1 (lenF st.P (2 * k + 1)) (rowF st.P (2 * k + 1)) = vl (st.P k).ac := by unfold lenF rowF; rw [memb1]; rfl
  rw [e1, e2] at h2 f2
  have h3 := retell h2 (q := 3) (t := 91) (m := 16) (n := st.n) (cap := 0) (f := fun r => gpc (st.P r) (U1 st.P L r) (U2 st.P L r)) (hs := []) rfl (fun r => gpc (st.P r) (U1 st.P L r) (U2 st.P L r)) [(k, openRow (st.P k))]
    (fun y hy => by rw [List.mem_singleton] at hy; subst hy; exact hk)
    (fun y hy v hv => by
      rw [List.mem_singleton] at hy; subst hy
      have g1 : (openRow (st.P k)).all (scB 7 6) = true := by kernel_rfl
      have g2 : (openRow (st.P k)).all cellC = true := by kernel_rfl
      exact ⟨scB_ok 6 v (List.all_eq_true.1 g1 v hv), List.all_eq_true.1 g2 v hv⟩)
    (fun r hr => by
      by_cases hrk : r = k
      · subst hrk
        rw [rawRow_one_at]
        unfold openRow sv
        rw [gpc_ren, memV_of, memV_of]
        rfl
      · rw [rawRow_one_ne _ _ hrk]; rfl)
  refine ⟨_, L, hR.swap (V' := openV N A F nI st.n st.P (U1 st.P L) (U2 st.P L) st.I st.D x k) h3 (by show 5 ≤ 7; omega) (fun i hi => ?_), f2.less fun j o hj hl hB => ?_, hb⟩
  · have : i < 5 := hi
    show (if i = 6 then _ else if i = 5 then _ else env i) = env i
    rw [if_neg (by omega), if_neg (by omega)]
  · match j, hj with
    | 0, hj => cases hj; exact ⟨0, _, rfl, rfl, hB, rfl⟩
    | 1, hj => cases hj; exact ⟨1, _, rfl, rfl, hB, rfl⟩
    | 2, hj => cases hj; exact ⟨2, _, rfl, rfl, hB, rfl⟩
    | 3, hj => cases hj; exact ⟨3, _, rfl, rfl, trivial, rfl⟩
    | 4, hj => cases hj; exact ⟨4, _, rfl, rfl, hB, rfl⟩
    | 5, hj => cases hj; exact ⟨5, _, rfl, rfl, hB, rfl⟩
    | 6, hj => cases hj; exact ⟨6, _, rfl, rfl, hB, rfl⟩
end Go.Acc
