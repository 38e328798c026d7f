/- ShellOwn: the second loop, over the real state. -/
import Derived.Test.YtlnmampbiapglaaDoorShO4
set_option linter.unusedSimpArgs false
set_option linter.unusedSectionVars false
set_option linter.unusedVariables false
set_option maxRecDepth 100000
namespace Go.Sh
open Go Go.X Go.Proofs
variable [WI]

/-- the first i lists are written over -/
structure MarkedTo (i : Nat) (M : Nat → Nat) (F : Nat → Nat → List Value) : Prop where
  at_ : ∀ r, r < i → ∀ k, k < M r → F r k = [.string (keptS r)]

structure O2 (W : World) (N n i : Nat) (ls : Nat → ByteArray) (a : Act) (w : World) : Prop where
  ex : ∃ env f L M F, Rep env ⟨o2Tm n i, oV1 N n ls f⟩ a w ∧ Fam id env (oV1 N n ls f) w 9 1 n L M F ∧ Lists n L M F f ∧ MarkedTo i M F ∧ RowKit.Below WI.n W w

def o2Post (W : World) (N n i : Nat) (ls : Nat → ByteArray) (e : Exit) (a : Act) (w : World) : Prop :=
  match e with
  | .normal => i < n ∧ O2 W N n (i + 1) ls a w
  | .exit 2 => O2 W N n n ls a w
  | _ => False

theorem oV1_sc (N n : Nat) (ls : Nat → ByteArray) (f : Nat → List Value) (i : Nat) (o : VObj) (hi : (oV1 N n ls f)[i]? = some o) : ScO (oV1 N n ls f).length o := by
  match i, hi with
  | 0, hi => cases hi; trivial
  | 1, hi => cases hi; exact fun h hh => absurd hh List.not_mem_nil

theorem o2_do_end (W : World) (N n : Nat) (ls : Nat → ByteArray) : Do Tryd.prog (roundOf Tryd.f4 2) (O2 W N n n ls) (o2Post W N n n ls) := by
  refine Do.of fun a w ⟨env, f, L, M, F, hR, hfam, hlst, hmk, hbel⟩ => ⟨env, _, _, hR, o2_end N n ls f, fun e env' S' a' w' hF hR' hK => ?_⟩
  obtain ⟨hK, hnew⟩ := tame_ok hK
  have hfam' := hfam.later hF hnew
  have hbel' := hbel.trans (belowN hF hR.mem)
  obtain ⟨env2, S2, hR2, hleaf, hlen, hag, hpl⟩ := hR'.shape hK
  have hfam2 : Fam id env2 S2.V w' 9 1 n L M F := hfam'.less fun j o hj hl hB => by
    obtain ⟨p, o', h1, h2, h3, h4⟩ := hpl j o hj hl hB
    exact ⟨p, o', h1, h3, h4, by rw [h2]⟩
  unfold o2LeafE at hleaf
  split at hleaf
  · obtain ⟨rfl⟩ := hleaf
    exact ⟨env2, _, _, _, _, hR2, hfam2, hlst, hmk, hbel'⟩
  · exact hleaf.elim

theorem rawOne_ne {env : Nat → X.Loc} (f : Nat → List Value) {k r : Nat} (c : List Value) (h : k ≠ r) : rawRow env f [(r, c)] k = f k := rawRow_one_ne f c h

theorem o2_do_nil (W : World) (N n i : Nat) (ls : Nat → ByteArray) (hi : i < n) (hn : n ≤ 10000) : Do Tryd.prog (roundOf Tryd.f4 2)
    (fun a w => ∃ env f L M F, Rep env ⟨o2Tm n i, oV1 N n ls f⟩ a w ∧ Fam id env (oV1 N n ls f) w 9 1 n L M F ∧ Lists n L M F f ∧ MarkedTo i M F ∧ RowKit.Below WI.n W w ∧ (L i).cap = 0) (o2Post W N n i ls) := by
  refine Do.of fun a w ⟨env, f, L, M, F, hR, hfam, hlst, hmk, hbel, hc⟩ => ?_
  have hW1 := hR.mem.holeR (q := 1) (i := i) rfl hi [.slice none 0 0] (by
    rw [hlst.row i hi, (hfam.mat i hi).2.1 hc, memV_nil hc]; simp) (fun v hv => by rw [List.mem_singleton] at hv; subst hv; exact ⟨.plain rfl, rfl⟩)
  have hR1 : Rep env ⟨o2Tm n i, o2Nil N n ls f i⟩ a w := hR.swap (V' := o2Nil N n ls f i) hW1 (Nat.le_refl 2) (fun _ _ => rfl)
  have hfam1 : Fam id env (o2Nil N n ls f i) w 9 1 n L M F := hfam.less fun j o hj hl hB => by
    match j, hj with
    | 0, hj => cases hj; exact ⟨0, _, rfl, rfl, hB, rfl⟩
    | 1, hj => cases hj; exact ⟨1, _, rfl, rfl, trivial, rfl⟩
  refine ⟨env, _, _, hR1, o2_nil N n ls f i hi hn, fun e env' S' a' w' hF hR' hK => ?_⟩
  obtain ⟨hK, hnew⟩ := tame_ok hK
  have hfam' := hfam1.later hF hnew
  have hbel' := hbel.trans (belowN hF hR1.mem)
  obtain ⟨env2, S2, hR2, hleaf, hlen, hag, hpl⟩ := hR'.shape hK
  have hfam2 : Fam id env2 S2.V w' 9 1 n L M F := hfam'.less fun j o hj hl hB => by
    obtain ⟨p, o', h1, h2, h3, h4⟩ := hpl j o hj hl hB
    exact ⟨p, o', h1, h3, h4, by rw [h2]⟩
  unfold o2LeafN at hleaf
  split at hleaf
  · obtain ⟨rfl⟩ := hleaf
    have hW3 := hR2.mem.closeR (q := 1) (hs := [(i, [.slice none 0 0])]) rfl
    refine ⟨hi, env2, rawRow env2 f [(i, [.slice none 0 0])], L, M, F, hR2.swap (V' := oV1 N n ls _) hW3 (Nat.le_refl 2) (fun _ _ => rfl), hfam2.less fun k o hk hl hB => ?_, ⟨hlst.str, fun r hr => ?_⟩, ⟨fun r hr k hk => ?_⟩, hbel'⟩
    · match k, hk with
      | 0, hk => cases hk; exact ⟨0, _, rfl, rfl, hB, rfl⟩
      | 1, hk => cases hk; exact ⟨1, _, rfl, rfl, trivial, rfl⟩
    · by_cases hri : r = i
      · subst hri
        rw [rawRow_one_at, (hfam.mat r hi).2.1 hc, memV_nil hc]; simp
      · rw [rawRow_one_ne _ _ hri]; exact hlst.row r hr
    · by_cases hri : r = i
      · subst hri
        rw [(hfam.mat r hi).2.1 hc] at hk; omega
      · exact hmk.at_ r (by omega) k hk
  · exact hleaf.elim

theorem o2_do_vec (W : World) (N n i : Nat) (ls : Nat → ByteArray) (hi : i < n) (hn : n ≤ 10000) : Do Tryd.prog (roundOf Tryd.f4 2)
    (fun a w => ∃ env f L M F, Rep env ⟨o2Tm n i, oV1 N n ls f⟩ a w ∧ Fam id env (oV1 N n ls f) w 9 1 n L M F ∧ Lists n L M F f ∧ MarkedTo i M F ∧ RowKit.Below WI.n W w ∧ (L i).cap ≠ 0) (o2Post W N n i ls) := by
  refine Do.of fun a w ⟨env, f, L, M, F, hR, hfam, hlst, hmk, hbel, hc⟩ => ?_
  obtain ⟨h, hFi⟩ := (hlst.str i hi).at_
  have hm := (hlst.str i hi).len
  obtain ⟨hW0, hf0⟩ := hfam.take hR.mem hi hc (fun j _ hne e => absurd e hne) (env' := updN env 2 (L i)) (fun j hj => updN_ne _ _ (by have : j < 2 := hj; omega)) (updN_at _ _ _)
  have hcap : (updN env 2 (L i) 2).cap ≠ 0 := by rw [updN_at]; exact hc
  have hW1 := hW0.holeR (q := 1) (t := 22) (m := 1) (n := n) (cap := 0) (f := f) rfl hi [.slice (some ⟨2, 1, some 0⟩) (M i) 0] (by
    rw [hlst.row i hi, List.map_cons, memV_of1 _ hcap (by decide) (by decide) (by decide), updN_at]; rfl) (fun v hv => by rw [List.mem_singleton] at hv; subst hv; exact ⟨.slice (by show 2 < 3; omega), rfl⟩)
  rw [hFi] at hW1 hf0
  have hR1 : Rep (updN env 2 (L i)) ⟨o2Tm n i, o2Vec N n ls f i (M i) (L i).cap h⟩ a w := hR.swap (V' := o2Vec N n ls f i (M i) (L i).cap h) hW1 (by show 2 ≤ 3; omega) (fun j hj => updN_ne _ _ (by have : j < 2 := hj; omega))
  have hfam1 : Fam id (updN env 2 (L i)) (o2Vec N n ls f i (M i) (L i).cap h) w 9 1 n (updN L i (nilL 1)) (updN M i 0) (updN F i fun _ => []) := hf0.less fun j o hj hl hB => by
    match j, hj with
    | 0, hj => cases hj; exact ⟨0, _, rfl, rfl, hB, rfl⟩
    | 1, hj => cases hj; exact ⟨1, _, rfl, rfl, trivial, rfl⟩
    | 2, hj => cases hj; exact ⟨2, _, rfl, rfl, trivial, rfl⟩
  refine ⟨_, _, _, hR1, o2_vec N n ls f i (M i) (L i).cap h hi hn hm, fun e env' S' a' w' hF hR' hK => ?_⟩
  obtain ⟨hK, hnew⟩ := tame_ok hK
  have hfam' := hfam1.later hF hnew
  have hbel' := hbel.trans (belowN hF hR1.mem)
  obtain ⟨env2, S2, hR2, hleaf, hlen, hag, hpl⟩ := hR'.shape hK
  have hfam2 : Fam id env2 S2.V w' 9 1 n (updN L i (nilL 1)) (updN M i 0) (updN F i fun _ => []) := hfam'.less fun j o hj hl hB => by
    obtain ⟨p, o', h1, h2, h3, h4⟩ := hpl j o hj hl hB
    exact ⟨p, o', h1, h3, h4, by rw [h2]⟩
  unfold o2Leaf at hleaf
  split at hleaf
  · obtain ⟨⟨hq⟩, h', hV, hend⟩ := hleaf
    obtain ⟨T2, V2⟩ := S2
    have hT : T2 = o2Tm n ((i + 1 : Nat) : Int) := (VSt.mk.inj hq).1
    have hV : V2 = o2Vec N n ls f i (M i) (L i).cap h' := hV
    subst hT; subst hV
    have hc2 : (env2 2).cap = (L i).cap := by
      obtain ⟨_, _, h3⟩ := hR2.mem.mat 2 _ rfl
      obtain ⟨_, cs, _, _, _, h5⟩ := h3 rfl
      exact h5 hc
    have hcap2 : (env2 2).cap ≠ 0 := by rw [hc2]; exact hc
    have f3 := hfam2.put hR2.mem n i (fun j hj _ => hj) (p := 2) rfl (Nat.le_refl _) (fun r hr => rfl)
    have hW3 := hR2.mem.closeR (q := 1) (hs := [(i, [.slice (some ⟨2, 1, some 0⟩) (M i) 0])]) rfl
    have hR3 := hR2.swap (V' := oV1 N n ls (rawRow env2 f [(i, [.slice (some ⟨2, 1, some 0⟩) (M i) 0])]) ++ [.rows true 9 1 (M i) (L i).cap fun r => [.string (h' r)]]) hW3 (by show 3 ≤ 3; omega) (fun _ _ => rfl)
    have hR4 := hR3.drop (V := oV1 N n ls _) (oV1_sc _ _ _ _) (by kernel_rfl)
    have eL : ∀ r, r ≠ i → updN (updN L i (nilL 1)) i (env2 2) r = L r := fun r hr => by rw [updN_ne _ _ hr, updN_ne _ _ hr]
    have eM : ∀ r, updN (updN M i 0) i (M i) r = M r := fun r => by
      by_cases hr : r = i
      · rw [hr, updN_at]
      · rw [updN_ne _ _ hr, updN_ne _ _ hr]
    refine ⟨hi, env2, _, _, _, _, hR4, f3.less fun k o hk hl hB => ?_, ⟨fun r hr => ?_, fun r hr => ?_⟩, ⟨fun r hr k hk => ?_⟩, hbel'⟩
    · match k, hk with
      | 0, hk => cases hk; exact ⟨0, _, rfl, rfl, hB, rfl⟩
      | 1, hk => cases hk; exact ⟨1, _, rfl, rfl, trivial, rfl⟩
    · rw [eM]
      by_cases hri : r = i
      · subst hri; rw [updN_at]; exact ⟨⟨_, rfl⟩, hm⟩
      · rw [updN_ne _ _ hri, updN_ne _ _ hri]; exact hlst.str r hr
    · rw [eM]
      by_cases hri : r = i
      · subst hri
        rw [rawRow_one_at, List.map_cons, memV_of1 _ hcap2 (by decide) (by decide) (by decide), updN_at]; rfl
      · rw [rawRow_one_ne _ _ hri, eL r hri]; exact hlst.row r hr
    · rw [eM] at hk
      by_cases hri : r = i
      · subst hri; rw [updN_at, hend.at_ k hk]
      · rw [updN_ne _ _ hri, updN_ne _ _ hri]; exact hmk.at_ r (by omega) k hk
  · exact hleaf.elim

theorem o2_do (W : World) (N n i : Nat) (ls : Nat → ByteArray) (hi : i ≤ n) (hn : n ≤ 10000) : Do Tryd.prog (roundOf Tryd.f4 2) (O2 W N n i ls) (o2Post W N n i ls) := by
  intro a w hA
  by_cases hin : i = n
  · subst hin; exact o2_do_end W N i ls a w hA
  · obtain ⟨env, f, L, M, F, h1, h2, h3, h4, h5⟩ := hA
    by_cases hc : (L i).cap = 0
    · exact o2_do_nil W N n i ls (by omega) hn a w ⟨env, f, L, M, F, h1, h2, h3, h4, h5, hc⟩
    · exact o2_do_vec W N n i ls (by omega) hn a w ⟨env, f, L, M, F, h1, h2, h3, h4, h5, hc⟩

/-- the second loop -/
theorem o2_loop (W : World) (N n : Nat) (ls : Nat → ByteArray) (hn : n ≤ 10000) (B : Exit → Act → World → Prop) (hB : ∀ a w, O2 W N n n ls a w → B .normal a w) :
    Do Tryd.prog (.block 2 (.loop (roundOf Tryd.f4 2))) (O2 W N n 0 ls) B := by
  refine (Do.loop (fun k a w => k ≤ n ∧ O2 W N n (n - k) ls a w) (fun k => ?_) n).mono (fun a w h => ⟨Nat.le_refl _, by rw [Nat.sub_self]; exact h⟩) fun e a w h => h
  intro a w ⟨hk, hA⟩
  refine wp_mono (o2_do W N n (n - k) ls (by omega) hn a w hA) fun e a' w' ⟨hne, h⟩ => ⟨hne, ?_⟩
  unfold o2Post at h
  split at h
  · obtain ⟨hlt, h⟩ := h
    exact ⟨k - 1, by omega, by omega, by have : n - (k - 1) = n - k + 1 := by omega
                                         rw [this]; exact h⟩
  · exact hB _ _ h
  · exact h.elim
end Go.Sh
