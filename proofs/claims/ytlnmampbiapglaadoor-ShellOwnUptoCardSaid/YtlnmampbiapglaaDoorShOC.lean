/- ShellOwn: the last loop, over the real state. -/
import Derived.Test.YtlnmampbiapglaaDoorShOB
set_option linter.unusedSimpArgs false
set_option linter.unusedSectionVars false
set_option linter.unusedVariables false
set_option maxRecDepth 100000
namespace Go.Sh
open Go Go.X Go.Proofs
variable [WI]

/-- slices that are only read from here on -/
structure Seen (env : Nat → X.Loc) (V : VW) (w : World) (t : TypeId) (m n : Nat) (L : Nat → X.Loc) (N : Nat → Nat) (F : Nat → Nat → List Value) : Prop where
  mat : ∀ i, i < n → Mat env w (L i) (.vec t m (N i) (F i))
  plain : ∀ i, i < n → ∀ r, r < N i → (F i r).all plainC = true
  blk : ∀ i, i < n → (L i).cap ≠ 0 → (L i).blk < w.heap.size
  apart : ∀ i, i < n → (L i).cap ≠ 0 → ∀ (j : Nat) (o : VObj), V[j]? = some o → ownB (env j) o → (L i).blk ≠ (env j).blk

theorem Seen.of {G : Nat → Nat} {env : Nat → X.Loc} {V : VW} {w : World} {t : TypeId} {m n : Nat} {L : Nat → X.Loc} {N : Nat → Nat} {F : Nat → Nat → List Value} (h : Fam G env V w t m n L N F) : Seen env V w t m n L N F :=
  ⟨h.mat, h.plain, fun i hi hc => (h.blk i hi hc).1, fun i hi hc j o hj ho => h.apart i hi hc j o hj (live_of_hasB ho.2) ho.2⟩

theorem Seen.later {env env' : Nat → X.Loc} {V V' : VW} {w w' : World} {t : TypeId} {m n : Nat} {L : Nat → X.Loc} {N : Nat → Nat} {F : Nat → Nat → List Value} (h : Seen env V w t m n L N F) (hF : Fr env V w env' V' w') : Seen env' V' w' t m n L N F := by
  refine ⟨fun i hi => vec_mat (h.plain i hi) (vec_keep (fun hc => hF.keep _ (h.blk i hi hc) fun j o hj ho => (h.apart i hi hc j o hj ho).symm) (h.plain i hi) (h.mat i hi)), h.plain, fun i hi hc => Nat.lt_of_lt_of_le (h.blk i hi hc) hF.size, fun i hi hc j o hj ho => ?_⟩
  rcases hF.own j o hj ho with ⟨k, ok, hk, hok, he⟩ | hge
  · rw [← he]; exact h.apart i hi hc k ok hk hok
  · have := h.blk i hi hc; omega

theorem Seen.other {env env' : Nat → X.Loc} {V V' : VW} {w : World} {t : TypeId} {m n : Nat} {L : Nat → X.Loc} {N : Nat → Nat} {F : Nat → Nat → List Value} (h : Seen env V w t m n L N F)
    (hv : ∀ (j : Nat) (o : VObj), V'[j]? = some o → ownB (env' j) o → ∃ k ok, V[k]? = some ok ∧ ownB (env k) ok ∧ (env k).blk = (env' j).blk) : Seen env' V' w t m n L N F :=
  ⟨fun i hi => vec_mat (h.plain i hi) (h.mat i hi), h.plain, h.blk, fun i hi hc j o hj ho => by
    obtain ⟨k, ok, h1, h2, h3⟩ := hv j o hj ho
    rw [← h3]; exact h.apart i hi hc k ok h1 h2⟩

/-- a member as a place that is read -/
theorem Seen.view {env : Nat → X.Loc} {V : VW} {w : World} {t : TypeId} {m n : Nat} {L : Nat → X.Loc} {N : Nat → Nat} {F : Nat → Nat → List Value} (h : Seen env V w t m n L N F) (hW : RepW env V w) {i : Nat} (hi : i < n)
    {env' : Nat → X.Loc} (hag : ∀ j, j < V.length → env' j = env j) (hnew : env' V.length = seenL (L i)) (hw : ∀ (j : Nat) (o : VObj), V[j]? = some o → o.writes = true → o.owned = true) : RepW env' (V ++ [.arg t m (N i) (F i)]) w := by
  have hb : hasB (seenL (L i)) (.arg t m (N i) (F i)) → (L i).cap ≠ 0 ∧ (seenL (L i)).blk = (L i).blk := by
    intro hh
    have hh : 2 ≤ (seenL (L i)).cap := hh
    unfold seenL at hh ⊢
    cases hc : (L i).cap with
    | zero => simp [hc] at hh
    | succ k => exact ⟨by omega, rfl⟩
  refine hW.addP hag hnew (arg_of_vec (h.plain i hi) (vec_mat (h.plain i hi) (h.mat i hi))) trivial (fun hh => ?_) (fun ho => ?_) (fun j oj hj hl hB hh hwr => ?_)
  · rw [(hb hh).2]; exact h.blk i hi (hb hh).1
  · cases ho.1
  · rw [(hb hh).2]
    rcases hwr with hwr | hwr
    · cases hwr
    · exact h.apart i hi (hb hh).1 j oj hj ⟨hw j oj hj hwr, hB⟩

structure OL (W : World) (N n i : Nat) (ls : Nat → ByteArray) (a : Act) (w : World) : Prop where
  ex : ∃ env f g L M F, Rep env ⟨laTm n i, vH false N n ls f g n⟩ a w ∧ Seen env (vH false N n ls f g n) w 9 1 (n + n) L M F ∧ Keeps n n f g L M F ∧ RowKit.Below WI.n W w

def olPost (W : World) (N n i : Nat) (ls : Nat → ByteArray) (e : Exit) (a : Act) (w : World) : Prop :=
  match e with
  | .normal => i < n ∧ OL W N n (i + 1) ls a w
  | .exit 10 => OL W N n n ls a w
  | _ => False

theorem ol_end (W : World) (N n : Nat) (ls : Nat → ByteArray) : Do Tryd.prog (roundOf Tryd.f4 10) (OL W N n n ls) (olPost W N n n ls) := by
  refine Do.of fun a w ⟨env, f, g, L, M, F, hR, hfam, hk, hbel⟩ => ⟨env, _, _, hR, la_end N n ls f g, fun e env' S' a' w' hF hR' hK => ?_⟩
  obtain ⟨env2, S2, hF2, hR2, hleaf, _⟩ := reshape_ok hF hR' hK
  cases e with
  | exit j =>
    simp only [laLeafE] at hleaf
    split at hleaf
    · rename_i hb
      obtain rfl := Nat.eq_of_beq_eq_true hb
      obtain ⟨rfl⟩ := hleaf
      exact ⟨env2, f, g, L, M, F, hR2, hfam.later hF2, hk, hbel.trans (hF2.belowN hR.mem)⟩
    · exact hleaf.elim
  | _ => exact hleaf.elim

theorem ol_open (W : World) (N n i : Nat) (ls : Nat → ByteArray) (hi : i < n) (hn : n ≤ 10000) : Do Tryd.prog (roundOf Tryd.f4 10) (OL W N n i ls) (olPost W N n i ls) := by
  refine Do.of fun a w ⟨env, f, g, L, M, F, hR, hfam, hk, hbel⟩ => ?_
  obtain ⟨h1, hF1, hk1⟩ := hk.kept i hi
  obtain ⟨hM2, h2, hF2, hk2⟩ := hk.long i hi
  have hm := hk.len i hi
  have hwr : ∀ (j : Nat) (o : VObj), (vH false N n ls f g n)[j]? = some o → o.writes = true → o.owned = true := fun j o hj h => by
    match j, hj with
    | 0, hj => cases hj; cases h
    | 1, hj => cases hj; rfl
    | 2, hj => cases hj; rfl
  let env1 := updN (updN env 3 (seenL (L i))) 4 (seenL (L (n + i)))
  have hW1 := hfam.view hR.mem (i := i) (by omega) (env' := updN env 3 (seenL (L i))) (fun j hj => updN_ne _ _ (by have : j < 3 := hj; omega)) (updN_at _ _ _) hwr
  have hS1 : Seen (updN env 3 (seenL (L i))) (vH false N n ls f g n ++ [.arg 9 1 (M i) (F i)]) w 9 1 (n + n) L M F := hfam.other fun j o hj ho => by
    match j, hj with
    | 0, hj => cases hj; cases ho.1
    | 1, hj => cases hj; exact ⟨1, _, rfl, ⟨rfl, trivial⟩, rfl⟩
    | 2, hj => cases hj; exact ⟨2, _, rfl, ⟨rfl, trivial⟩, rfl⟩
    | 3, hj => cases hj; cases ho.1
  have hW2 := hS1.view hW1 (i := n + i) (by omega) (env' := env1) (fun j hj => updN_ne _ _ (by have : j < 4 := hj; omega)) (updN_at _ _ _) (fun j o hj h => by
    match j, hj with
    | 0, hj => cases hj; cases h
    | 1, hj => cases hj; rfl
    | 2, hj => cases hj; rfl
    | 3, hj => cases hj; cases h)
  rw [hF1, hM2, hF2] at hW2
  have e3 : env1 3 = seenL (L i) := rfl
  have e4 : env1 4 = seenL (L (n + i)) := rfl
  have hW3 := hW2.holeR (q := 1) (t := 22) (m := 1) (n := n) (cap := 0) (f := f) (i := i) rfl hi [.slice (some ⟨3, 3, some 0⟩) (M i) 0] (by
    rw [hk.frow i hi, List.map_cons, memV_of3 env1 e3]; rfl) (fun v hv => by rw [List.mem_singleton] at hv; subst hv; exact ⟨.slice (by show 3 < 5; omega), rfl⟩)
  have hW4 := hW3.holeR (q := 2) (t := 22) (m := 1) (n := n) (cap := 0) (f := g) (i := i) rfl hi [.slice (some ⟨4, 3, some 0⟩) (M i + 71) 0] (by
    rw [hk.grow i hi, hM2, List.map_cons, memV_of3 env1 e4]; rfl) (fun v hv => by rw [List.mem_singleton] at hv; subst hv; exact ⟨.slice (by rw [List.length_set]; show 4 < 5; omega), rfl⟩)
  have hR1 : Rep env1 ⟨laTm n i, vL N n ls f g i (M i) h1 h2⟩ a w := hR.swap (V' := vL N n ls f g i (M i) h1 h2) hW4 (by show 3 ≤ 5; omega) (fun j hj => by
    have hj : j < 3 := hj
    show updN (updN env 3 _) 4 _ j = env j
    rw [updN_ne _ _ (by omega), updN_ne _ _ (by omega)])
  have hS2 : Seen env1 (vL N n ls f g i (M i) h1 h2) w 9 1 (n + n) L M F := hfam.other fun j o hj ho => by
    match j, hj with
    | 0, hj => cases hj; cases ho.1
    | 1, hj => cases hj; exact ⟨1, _, rfl, ⟨rfl, trivial⟩, rfl⟩
    | 2, hj => cases hj; exact ⟨2, _, rfl, ⟨rfl, trivial⟩, rfl⟩
    | 3, hj => cases hj; cases ho.1
    | 4, hj => cases hj; cases ho.1
  refine ⟨env1, _, _, hR1, la_open N n ls f g i (M i) h1 h2 hi hn hm hk1 hk2, fun e env' S' a' w' hF hR' hK => ?_⟩
  obtain ⟨env2, S2, hF2, hR2, hleaf, _⟩ := reshape_ok hF hR' hK
  have hS3 := hS2.later hF2
  have hb3 := hbel.trans (hF2.belowN hR1.mem)
  cases e with
  | normal =>
    obtain ⟨rfl⟩ := hleaf
    have g3 : env2 3 = seenL (L i) := (hF2.agree 3 (by show 3 < 5; omega)).trans e3
    have g4 : env2 4 = seenL (L (n + i)) := (hF2.agree 4 (by show 4 < 5; omega)).trans e4
    have hW5 := hR2.mem.closeR (q := 1) (t := 22) (m := 1) (n := n) (cap := 0) (f := f) (hs := [(i, [.slice (some ⟨3, 3, some 0⟩) (M i) 0])]) rfl
    have hW6 := hW5.closeR (q := 2) (t := 22) (m := 1) (n := n) (cap := 0) (f := g) (hs := [(i, [.slice (some ⟨4, 3, some 0⟩) (M i + 71) 0])]) rfl
    have hR3 := hR2.swap (V' := vH false N n ls (rawRow env2 f [(i, [.slice (some ⟨3, 3, some 0⟩) (M i) 0])]) (rawRow env2 g [(i, [.slice (some ⟨4, 3, some 0⟩) (M i + 71) 0])]) n ++ [.arg 9 1 (M i) fun r => [.string (h1 r)], .arg 9 1 (M i + 71) fun r => [.string (h2 r)]]) hW6 (by show 5 ≤ 5; omega) (fun _ _ => rfl)
    have hR4 := hR3.drop (V := vH false N n ls _ _ n) (head_sc _ _ _ _ _ _) (by kernel_rfl)
    refine ⟨hi, env2, _, _, L, M, F, hR4, hS3.other fun j o hj ho => ?_, ⟨hk.len, hk.kept, hk.long, fun r hr => ?_, fun r hr => ?_⟩, hb3⟩
    · match j, hj with
      | 0, hj => cases hj; cases ho.1
      | 1, hj => cases hj; exact ⟨1, _, rfl, ⟨rfl, trivial⟩, rfl⟩
      | 2, hj => cases hj; exact ⟨2, _, rfl, ⟨rfl, trivial⟩, rfl⟩
    · by_cases hri : r = i
      · subst hri; rw [rawRow_one_at, List.map_cons, memV_of3 env2 g3]; rfl
      · rw [rawRow_one_ne _ _ hri]; exact hk.frow r hr
    · by_cases hri : r = i
      · subst hri; rw [rawRow_one_at, List.map_cons, memV_of3 env2 g4, hM2]; rfl
      · rw [rawRow_one_ne _ _ hri]; exact hk.grow r hr
  | _ => exact hleaf.elim

/-- the last loop -/
theorem ol_loop (W : World) (N n : Nat) (ls : Nat → ByteArray) (hn : n ≤ 10000) (B : Exit → Act → World → Prop) (hB : ∀ a w, OL W N n n ls a w → B .normal a w) :
    Do Tryd.prog (.block 10 (.loop (roundOf Tryd.f4 10))) (OL W N n 0 ls) B := by
  refine (Do.loop (fun k a w => k ≤ n ∧ OL W N n (n - k) ls a w) (fun k => ?_) n).mono (fun a w h => ⟨Nat.le_refl _, by rw [Nat.sub_self]; exact h⟩) fun e a w h => h
  intro a w ⟨hk, hA⟩
  have key : olPost W N n (n - k) ls = olPost W N n (n - k) ls := rfl
  have hd : Do Tryd.prog (roundOf Tryd.f4 10) (OL W N n (n - k) ls) (olPost W N n (n - k) ls) := by
    by_cases h : n - k = n
    · rw [h]; exact ol_end W N n ls
    · exact ol_open W N n (n - k) ls (by omega) hn
  refine wp_mono (hd a w hA) fun e a' w' ⟨hne, h⟩ => ⟨hne, ?_⟩
  unfold olPost at h
  split at h
  · obtain ⟨hlt, h⟩ := h
    exact ⟨k - 1, by omega, by omega, by have : n - (k - 1) = n - k + 1 := by omega
                                         rw [this]; exact h⟩
  · exact hB _ _ h
  · exact h.elim
end Go.Sh
