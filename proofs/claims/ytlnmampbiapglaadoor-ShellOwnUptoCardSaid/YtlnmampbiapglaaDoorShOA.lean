/- ShellOwn: the third loop, over the real state. -/
import Derived.Test.YtlnmampbiapglaaDoorShO9
set_option linter.unusedSimpArgs false
set_option linter.unusedSectionVars false
set_option linter.unusedVariables false
set_option maxRecDepth 100000
namespace Go.Sh
open Go Go.X Go.Proofs
variable [WI]

/-- the lists that were kept, and those that have grown out of the first i -/
structure Keeps (n i : Nat) (f g : Nat → List Value) (L : Nat → X.Loc) (M : Nat → Nat) (F : Nat → Nat → List Value) : Prop where
  len : ∀ r, r < n → M r ≤ 4294967296
  kept : ∀ r, r < n → ∃ h : Nat → ByteArray, F r = (fun k => [.string (h k)]) ∧ ∀ k, k < M r → h k = keptS r
  long : ∀ r, r < i → M (n + r) = M r + 71 ∧ ∃ h : Nat → ByteArray, F (n + r) = (fun k => [.string (h k)]) ∧ LongAt (M r) (M r + 71) r h
  frow : ∀ r, r < n → f r = [memV (L r) (M r)]
  grow : ∀ r, r < i → g r = [memV (L (n + r)) (M (n + r))]

def isZ (i : Nat) : Bool := Nat.beq i 0
theorem isZ_0 {i : Nat} (h : isZ i = true) : i = 0 := Nat.eq_of_beq_eq_true h

structure O6 (W : World) (N n i : Nat) (ls : Nat → ByteArray) (a : Act) (w : World) : Prop where
  ex : ∃ f g L M F, S6 W n i L M F (isS (headS (isZ i) N n ls f g i)) a w ∧ Keeps n i f g L M F

def updM (M : Nat → Nat) (i : Nat) : Nat → Nat := updN M i 0

theorem vH_len (z : Bool) (N n : Nat) (ls : Nat → ByteArray) (f g : Nat → List Value) (i : Nat) : (vH z N n ls f g i).length = 3 := rfl

/-- the list of the round is opened -/
theorem open6 {W : World} {N n i : Nat} {ls : Nat → ByteArray} {z : Bool} {f g : Nat → List Value} {L : Nat → X.Loc} {M : Nat → Nat} {F : Nat → Nat → List Value} {a : Act} {w : World} (hin : i < n)
    (h : S6 W n i L M F (isS (headS z N n ls f g i)) a w) (hk : Keeps n i f g L M F) : S6 W n i (updN L i (nilL 1)) (updN M i 0) (updN F i fun _ => []) (JO z N n ls f g i (M i)) a w := by
  obtain ⟨env, S, hR, rfl, hfam, hb⟩ := h
  obtain ⟨hh, hF, hkp⟩ := hk.kept i hin
  by_cases hc : (L i).cap = 0
  · have hm0 : M i = 0 := (hfam.mat i (by omega)).2.1 hc
    have hW1 := hR.mem.holeR (q := 1) (t := 22) (m := 1) (n := n) (cap := 0) (f := f) (i := i) rfl hin [.slice none 0 0] (by
      rw [hk.frow i hin, hm0, memV_nil hc]; simp) (fun v hv => by rw [List.mem_singleton] at hv; subst hv; exact ⟨.plain rfl, rfl⟩)
    refine ⟨env, ⟨o6Tm z n i i, [a0 N ls, kh n f i (.slice none 0 0), rl z i g]⟩, hR.swap (V' := [a0 N ls, kh n f i (.slice none 0 0), rl z i g]) hW1 (by show 3 ≤ 3; omega) (fun _ _ => rfl), .n hm0, ?_, hb⟩
    have f1 := hfam.set (n + i) i (fun j hj _ => hj) (l := nilL 1) (k := 0) (f := fun _ => []) ⟨rfl, fun _ => rfl, fun h => absurd rfl h⟩ (fun r hr => absurd hr (Nat.not_lt_zero r)) (fun h => absurd rfl h) (fun h => absurd rfl h) (fun h => absurd rfl h)
    refine f1.less fun k o hk hl hB => ?_
    match k, hk with
    | 0, hk => cases hk; exact ⟨0, _, rfl, rfl, hB, rfl⟩
    | 1, hk => cases hk; exact ⟨1, _, rfl, rfl, trivial, rfl⟩
    | 2, hk => cases hk; exact ⟨2, _, rfl, hl, hB, rfl⟩
  · obtain ⟨hW0, hf0⟩ := hfam.take hR.mem (i := i) (by omega) hc (fun j hj hne e => by
      exfalso
      by_cases h1 : j < n
      · simp only [if_pos h1, if_pos hin] at e; exact hne e
      · simp only [if_neg h1, if_pos hin] at e; omega) (env' := updN env 3 (L i)) (fun j hj => updN_ne _ _ (by have : j < 3 := hj; omega)) (updN_at _ _ _)
    have hcap : (updN env 3 (L i) 3).cap ≠ 0 := by rw [updN_at]; exact hc
    have key : ∀ o, (o = 4 ∨ o = 5) → Rep (updN env 3 (L i)) ⟨o6Tm z n i i, vA z N n ls f g i (M i) o (M i) (L i).cap hh⟩ a w ∧ Fam (fun r => if r < n then r else r - n) (updN env 3 (L i)) (vA z N n ls f g i (M i) o (M i) (L i).cap hh) w 9 1 (n + i) (updN L i (nilL 1)) (updN M i 0) (updN F i fun _ => []) := by
      intro o ho
      have hW1 := hW0.holeR (q := 1) (t := 22) (m := 1) (n := n) (cap := 0) (f := f) (i := i) rfl hin [.slice (some ⟨3, o, some 0⟩) (M i) 0] (by
        rw [hk.frow i hin, List.map_cons, memV_of1 _ hcap (by omega) (by omega) (by omega), updN_at]; rfl) (fun v hv => by rw [List.mem_singleton] at hv; subst hv; exact ⟨.slice (by show 3 < 4; omega), rfl⟩)
      rw [hF] at hW1
      refine ⟨hR.swap (V' := vA z N n ls f g i (M i) o (M i) (L i).cap hh) hW1 (by show 3 ≤ 4; omega) (fun j hj => updN_ne _ _ (by have : j < 3 := hj; omega)), hf0.less fun k o hk hl hB => ?_⟩
      match k, hk with
      | 0, hk => cases hk; exact ⟨0, _, rfl, rfl, hB, rfl⟩
      | 1, hk => cases hk; exact ⟨1, _, rfl, rfl, trivial, rfl⟩
      | 2, hk => cases hk; exact ⟨2, _, rfl, hl, hB, rfl⟩
      | 3, hk => cases hk; exact ⟨3, _, rfl, rfl, trivial, rfl⟩
    by_cases hr : M i + 1 ≤ (L i).cap
    · obtain ⟨h1, h2⟩ := key 4 (.inl rfl)
      exact ⟨_, _, h1, .a4 _ hh (by omega) hr ⟨Nat.le_refl _, hkp⟩, h2, hb⟩
    · obtain ⟨h1, h2⟩ := key 5 (.inr rfl)
      exact ⟨_, _, h1, .a5 _ hh (by omega) (by omega) ⟨Nat.le_refl _, hkp⟩, h2, hb⟩

/-- the row of the long lists, closed -/
theorem lg_close {env : Nat → X.Loc} {V : VW} {w : World} (hW : RepW env V w) {z : Bool} {i : Nat} (hz : z = true → i = 0) {g : Nat → List Value} {v : Value} (hq : V[2]? = some (lg z i g v)) :
    ∃ g', RepW env (V.set 2 (.raw 22 1 (i + 1) 0 g' [])) w ∧ (∀ r, r < i → g' r = g r) ∧ g' i = [ren env v] := by
  cases z
  · have h := hW.closeR (q := 2) (t := 22) (m := 1) (n := i + 1) (cap := 0) (f := lastF i g) (hs := [(i + 0, [v])]) hq
    refine ⟨_, h, fun r hr => ?_, ?_⟩
    · rw [rawRow_one_ne _ _ (by omega)]; unfold lastF joinF; rw [if_pos hr]
    · have := rawRow_one_at (env := env) (lastF i g) i [v]; exact this
  · obtain rfl := hz rfl
    have h := hW.closeR (q := 2) (t := 22) (m := 1) (n := 1) (cap := 0) (f := fun _ => []) (hs := [(0, [v])]) hq
    exact ⟨_, h, fun r hr => absurd hr (Nat.not_lt_zero r), rawRow_one_at (env := env) _ 0 [v]⟩

theorem Keeps.next {n i : Nat} {f g f' g' : Nat → List Value} {L L' : Nat → X.Loc} {M M' : Nat → Nat} {F F' : Nat → Nat → List Value} (hk : Keeps n i f g L M F) (hin : i < n)
    (eL : ∀ r, r ≠ i → r ≠ n + i → L' r = L r) (eM : ∀ r, r ≠ n + i → M' r = M r) (eF : ∀ r, r ≠ i → r ≠ n + i → F' r = F r) (ef : ∀ r, r ≠ i → f' r = f r) (eg : ∀ r, r < i → g' r = g r)
    (h1 : f' i = [memV (L' i) (M' i)]) (h2 : ∃ h : Nat → ByteArray, F' i = (fun k => [.string (h k)]) ∧ ∀ k, k < M i → h k = keptS i)
    (h3 : M' (n + i) = M i + 71) (h4 : ∃ h : Nat → ByteArray, F' (n + i) = (fun k => [.string (h k)]) ∧ LongAt (M i) (M i + 71) i h) (h5 : g' i = [memV (L' (n + i)) (M' (n + i))]) : Keeps n (i + 1) f' g' L' M' F' := by
  refine ⟨fun r hr => by rw [eM r (by omega)]; exact hk.len r hr, fun r hr => ?_, fun r hr => ?_, fun r hr => ?_, fun r hr => ?_⟩
  · by_cases hri : r = i
    · subst hri; rw [eM r (by omega)]; exact h2
    · rw [eM r (by omega), eF r hri (by omega)]; exact hk.kept r hr
  · by_cases hri : r = i
    · subst hri; rw [eM r (by omega)]; exact ⟨h3, h4⟩
    · rw [eM r (by omega), eM (n + r) (by omega), eF (n + r) (by omega) (by omega)]; exact hk.long r (by omega)
  · by_cases hri : r = i
    · subst hri; exact h1
    · rw [ef r hri, eL r hri (by omega), eM r (by omega)]; exact hk.frow r hr
  · by_cases hri : r = i
    · subst hri; exact h5
    · rw [eg r (by omega), eL (n + r) (by omega) (by omega), eM (n + r) (by omega)]; exact hk.grow r (by omega)

theorem head_sc (N n : Nat) (ls : Nat → ByteArray) (f g : Nat → List Value) (i j : Nat) (o : VObj) (hj : (vH false N n ls f g i)[j]? = some o) : ScO (vH false N n ls f g i).length o := by
  match j, hj with
  | 0, hj => cases hj; trivial
  | 1, hj => cases hj; exact fun h hh => absurd hh List.not_mem_nil
  | 2, hj => cases hj; exact fun h hh => absurd hh List.not_mem_nil

theorem Keeps.next3 {n i : Nat} {f g f' g' : Nat → List Value} {L : Nat → X.Loc} {M : Nat → Nat} {F : Nat → Nat → List Value} (hk : Keeps n i f g L M F) (hin : i < n) {m : Nat} (hm : M i = m) {x y z : X.Loc} {u : Nat → List Value} {h h2 : Nat → ByteArray}
    (ef : ∀ r, r ≠ i → f' r = f r) (eg : ∀ r, r < i → g' r = g r) (h1 : f' i = [memV y m]) (hh : ∀ k, k < m → h k = keptS i) (h4 : LongAt m (m + 71) i h2) (h5 : g' i = [memV z (m + 71)]) :
    Keeps n (i + 1) f' g' (updN (updN (updN L i x) i y) (n + i) z) (updN (updN (updN M i 0) i m) (n + i) (m + 71)) (updN (updN (updN F i u) i fun k => [.string (h k)]) (n + i) fun k => [.string (h2 k)]) := by
  have hne : i ≠ n + i := by omega
  subst hm
  refine hk.next hin (fun r hr hr2 => ?_) (fun r hr => ?_) (fun r hr hr2 => ?_) ef eg ?_ ⟨h, ?_, hh⟩ (updN_at _ _ _) ⟨h2, updN_at _ _ _, h4⟩ ?_
  · rw [updN_ne _ _ hr2, updN_ne _ _ hr, updN_ne _ _ hr]
  · rw [updN_ne _ _ hr]
    by_cases hri : r = i
    · subst hri; rw [updN_at]
    · rw [updN_ne _ _ hri, updN_ne _ _ hri]
  · rw [updN_ne _ _ hr2, updN_ne _ _ hr, updN_ne _ _ hr]
  · rw [updN_ne _ _ hne, updN_at, updN_ne _ _ hne, updN_at]; exact h1
  · rw [updN_ne _ _ hne, updN_at]
  · rw [updN_at, updN_at]; exact h5

/-- the list of the round is closed -/
theorem close6 {W : World} {N n i : Nat} {ls : Nat → ByteArray} {z : Bool} (hz : z = true → i = 0) {f g : Nat → List Value} {L : Nat → X.Loc} {M : Nat → Nat} {F : Nat → Nat → List Value} {a : Act} {w : World} (hin : i < n)
    (hk : Keeps n i f g L M F) (h : S6 W n i (updN L i (nilL 1)) (updN M i 0) (updN F i fun _ => []) (JL z N n ls f g i (M i) ((i + 1 : Nat) : Int)) a w) : O6 W N n (i + 1) ls a w := by
  obtain ⟨env, S, hR, hJ, hfam, hb⟩ := h
  have hG : (fun r => if r < n then r else r - n) i = (fun r => if r < n then r else r - n) (n + i) := by
    show (if i < n then i else i - n) = (if n + i < n then n + i else n + i - n)
    rw [if_pos hin, if_neg (by omega)]; omega
  have hcapR : ∀ {p c cap : Nat} {h : Nat → ByteArray}, S.V[p]? = some (rs c cap h) → 0 < c → (env p).cap ≠ 0 := by
    intro p c cap h hp hc0
    obtain ⟨_, _, h3⟩ := hR.mem.mat p _ hp
    obtain ⟨_, cs, _, _, h4, _⟩ := h3 rfl
    omega
  cases hJ with
  | a cap h hc hl =>
    have hc3 := hcapR (p := 3) rfl (by omega)
    have hW1 := hR.mem.closeR (q := 1) (t := 22) (m := 1) (n := n) (cap := 0) (f := f) (hs := [(i, [s3 4 (M i)])]) rfl
    obtain ⟨g', hW2, eg, eg5⟩ := lg_close hW1 hz (i := i) (g := g) (v := s3 1 (M i + 71)) rfl
    have hR2 := hR.swap (V' := vH false N n ls (rawRow env f [(i, [s3 4 (M i)])]) g' (i + 1) ++ [rs (M i + 71) cap h]) hW2 (by show 4 ≤ 4; omega) (fun _ _ => rfl)
    have hR3 := hR2.drop (V := vH false N n ls _ g' (i + 1)) (head_sc _ _ _ _ _ _) (by kernel_rfl)
    have f1 := hfam.put2 hR.mem (i := i) (by omega) hG (p := 3) (k := M i) (c := M i + 71) rfl (by omega) (fun r _ => rfl)
    refine ⟨_, g', _, _, _, ⟨env, _, hR3, rfl, f1.less fun k o hk hl hB => ?_, hb⟩, hk.next3 hin rfl (fun r hr => rawRow_one_ne _ _ hr) eg ?_ (hl.kept (by omega)).at_ hl ?_⟩
    · match k, hk with
      | 0, hk => cases hk; exact ⟨0, _, rfl, rfl, hB, rfl⟩
      | 1, hk => cases hk; exact ⟨1, _, rfl, rfl, trivial, rfl⟩
      | 2, hk => cases hk; cases z <;> exact ⟨2, _, rfl, rfl, trivial, rfl⟩
    · rw [rawRow_one_at, List.map_cons, s3, memV_of1 _ hc3 (by decide) (by decide) (by decide)]; rfl
    · rw [eg5, s3, memV_of1 _ hc3 (by decide) (by decide) (by decide)]
  | b o c1 cap1 h1 h ho hc hk1 hl =>
    have hc4 := hcapR (p := 4) rfl (by omega)
    have hc3 : (env 3).cap ≠ 0 := by
      obtain ⟨_, _, h3⟩ := hR.mem.mat 3 (rs c1 cap1 h1) rfl
      obtain ⟨_, cs, _, _, _, h4⟩ := h3 rfl
      have := h4 (by omega)
      omega
    have hW1 := hR.mem.closeR (q := 1) (t := 22) (m := 1) (n := n) (cap := 0) (f := f) (hs := [(i, [s3 o (M i)])]) rfl
    obtain ⟨g', hW2, eg, eg5⟩ := lg_close hW1 hz (i := i) (g := g) (v := s4 (M i + 71)) rfl
    have hR2 := hR.swap (V' := vH false N n ls (rawRow env f [(i, [s3 o (M i)])]) g' (i + 1) ++ [rs c1 cap1 h1, rs (M i + 71) 0 h]) hW2 (by show 5 ≤ 5; omega) (fun _ _ => rfl)
    have hR3 := hR2.drop (V := vH false N n ls _ g' (i + 1)) (head_sc _ _ _ _ _ _) (by kernel_rfl)
    have f1 := hfam.put hR.mem (n + i) i (fun j hj _ => hj) (p := 3) (k := M i) (c := c1) rfl hk1.le (fun r _ => rfl)
    have hWk := hR.mem.kill (i := 3) (o := rs c1 cap1 h1) rfl rfl
    have f2 := f1.put hWk (n + i + 1) (n + i) (fun j hj hne => by omega) (p := 4) (k := M i + 71) (c := M i + 71) rfl (Nat.le_refl _) (fun r _ => rfl)
    refine ⟨_, g', _, _, _, ⟨env, _, hR3, rfl, f2.less fun k o hk hl hB => ?_, hb⟩, hk.next3 hin rfl (fun r hr => rawRow_one_ne _ _ hr) eg ?_ hk1.at_ hl ?_⟩
    · match k, hk with
      | 0, hk => cases hk; exact ⟨0, _, rfl, rfl, hB, rfl⟩
      | 1, hk => cases hk; exact ⟨1, _, rfl, rfl, trivial, rfl⟩
      | 2, hk => cases hk; cases z <;> exact ⟨2, _, rfl, rfl, trivial, rfl⟩
    · rw [rawRow_one_at, List.map_cons, s3, memV_of1 _ hc3 (by omega) (by omega) (by omega)]; rfl
    · rw [eg5, s4, memV_of1 _ hc4 (by decide) (by decide) (by decide)]
  | n h hm0 hl =>
    have hc3 := hcapR (p := 3) (c := 71) rfl (by omega)
    have hW1 := hR.mem.closeR (q := 1) (t := 22) (m := 1) (n := n) (cap := 0) (f := f) (hs := [(i, [.slice none 0 0])]) rfl
    obtain ⟨g', hW2, eg, eg5⟩ := lg_close hW1 hz (i := i) (g := g) (v := s3 1 71) rfl
    have hR2 := hR.swap (V' := vH false N n ls (rawRow env f [(i, [.slice none 0 0])]) g' (i + 1) ++ [rs 71 0 h]) hW2 (by show 4 ≤ 4; omega) (fun _ _ => rfl)
    have hR3 := hR2.drop (V := vH false N n ls _ g' (i + 1)) (head_sc _ _ _ _ _ _) (by kernel_rfl)
    have f0 := hfam.set (n + i) i (fun j hj _ => hj) (l := nilL 1) (k := 0) (f := fun k => [.string (h k)]) ⟨rfl, fun _ => rfl, fun h => absurd rfl h⟩ (fun r hr => absurd hr (Nat.not_lt_zero r)) (fun h => absurd rfl h) (fun h => absurd rfl h) (fun h => absurd rfl h)
    have f1 := f0.put hR.mem (n + i + 1) (n + i) (fun j hj hne => by omega) (p := 3) (k := 71) (c := 71) rfl (Nat.le_refl _) (fun r _ => rfl)
    refine ⟨_, g', _, _, _, ⟨env, _, hR3, rfl, f1.less fun k o hk hl hB => ?_, hb⟩, hk.next3 hin hm0 (fun r hr => rawRow_one_ne _ _ hr) eg ?_ (fun k hk => absurd hk (Nat.not_lt_zero k)) hl ?_⟩
    · match k, hk with
      | 0, hk => cases hk; exact ⟨0, _, rfl, rfl, hB, rfl⟩
      | 1, hk => cases hk; exact ⟨1, _, rfl, rfl, trivial, rfl⟩
      | 2, hk => cases hk; cases z <;> exact ⟨2, _, rfl, rfl, trivial, rfl⟩
    · rw [rawRow_one_at, memV_nil rfl]; simp
    · rw [eg5, s3, memV_of1 _ hc3 (by decide) (by decide) (by decide)]

def o6Post (W : World) (N n i : Nat) (ls : Nat → ByteArray) (e : Exit) (a : Act) (w : World) : Prop :=
  match e with
  | .normal => i < n ∧ O6 W N n (i + 1) ls a w
  | .exit 6 => n ≤ i ∧ O6 W N n i ls a w
  | _ => False

theorem o6_do (W : World) (N n i : Nat) (ls : Nat → ByteArray) (hi : i ≤ 10000) : Do Tryd.prog (roundOf Tryd.f4 6) (O6 W N n i ls) (o6Post W N n i ls) := by
  intro a w ⟨f, g, L, M, F, hA, hk⟩
  rw [c6_eq]
  refine (Do.seq (M := fun a w => i < n ∧ S6 W n i L M F (isS (headS (isZ i) N n ls f g i)) a w) ((c6c_do (isZ i) W N n ls f g i hi L M F).mono (fun _ _ h => h) fun e a w h => ?_) ?_) a w hA
  · cases e with
    | normal =>
      obtain ⟨env, S, h1, ⟨hin, h2⟩, h3⟩ := h
      exact ⟨hin, env, S, h1, h2, h3⟩
    | exit j =>
      obtain ⟨env, S, h1, ⟨rfl, hin, h2⟩, h3⟩ := h
      exact ⟨hin, f, g, L, M, F, ⟨env, S, h1, h2, h3⟩, hk⟩
    | _ => obtain ⟨_, _, _, h, _⟩ := h; exact h.elim
  · intro a w ⟨hin, hA⟩
    exact (c6b_do (isZ i) W N n ls f g i (M i) hi hin isZ_0 (hk.len i hin) _ _ _ (o6Post W N n i ls) fun a w h => ⟨hin, close6 isZ_0 hin hk h⟩) a w (open6 hin hA hk)

/-- the third loop -/
theorem o6_loop (W : World) (N n : Nat) (ls : Nat → ByteArray) (hn : n ≤ 10000) (B : Exit → Act → World → Prop) (hB : ∀ a w, O6 W N n n ls a w → B .normal a w) :
    Do Tryd.prog (.block 6 (.loop (roundOf Tryd.f4 6))) (O6 W N n 0 ls) B := by
  refine (Do.loop (fun k a w => k ≤ n ∧ O6 W N n (n - k) ls a w) (fun k => ?_) n).mono (fun a w h => ⟨Nat.le_refl _, by rw [Nat.sub_self]; exact h⟩) fun e a w h => h
  intro a w ⟨hk, hA⟩
  refine wp_mono (o6_do W N n (n - k) ls (by omega) a w hA) fun e a' w' ⟨hne, h⟩ => ⟨hne, ?_⟩
  unfold o6Post at h
  split at h
  · obtain ⟨hlt, h⟩ := h
    exact ⟨k - 1, by omega, by omega, by have : n - (k - 1) = n - k + 1 := by omega
                                         rw [this]; exact h⟩
  · obtain ⟨hle, h⟩ := h
    have : n - k = n := by omega
    rw [this] at h
    exact hB _ _ h
  · exact h.elim
end Go.Sh
