/- ShellOwn: the first loop, over the real state. -/
import Derived.Test.YtlnmampbiapglaaDoorShO2
import Derived.Test.YtlnmampbiapglaaDoorXOpen
set_option linter.unusedSimpArgs false
set_option linter.unusedSectionVars false
set_option linter.unusedVariables false
set_option maxRecDepth 100000
namespace Go.Sh
open Go Go.X Go.Proofs
variable [WI]

theorem belowN {env env' : Nat → X.Loc} {V V' : VW} {w w' : World} (hF : Fr env V w env' V' w') (hW : RepW env V w) : RowKit.Below WI.n w w' :=
  ⟨hF.os, hF.tape, hF.output, hF.size, fun k hk => hF.keep k (Nat.lt_of_lt_of_le hk hW.room) fun i o hi ho => by have := hW.low i o hi ho; omega⟩

theorem StrRows.plain {n : Nat} {f : Nat → List Value} (h : StrRows n f) : ∀ r, r < n → (f r).all plainC = true := fun r hr => by
  obtain ⟨h, rfl⟩ := h.at_
  rfl

/-- a family of lists of words, and the row of its slices -/
structure Lists (n : Nat) (L : Nat → X.Loc) (M : Nat → Nat) (F : Nat → Nat → List Value) (f : Nat → List Value) : Prop where
  str : ∀ i, i < n → StrRows (M i) (F i)
  row : ∀ r, r < n → f r = [memV (L r) (M r)]

theorem Lists.ext {n : Nat} {L : Nat → X.Loc} {M : Nat → Nat} {F : Nat → Nat → List Value} {f f' : Nat → List Value} (h : Lists n L M F f) {l : X.Loc} {k : Nat} {g : Nat → List Value} (hg : StrRows k g)
    (h1 : ∀ r, r < n → f' r = f r) (h2 : f' n = [memV l k]) : Lists (n + 1) (updN L n l) (updN M n k) (updN F n g) f' := by
  refine ⟨fun i hi => ?_, fun i hi => ?_⟩
  · by_cases hin : i = n
    · subst hin; rw [updN_at, updN_at]; exact hg
    · rw [updN_ne _ _ hin, updN_ne _ _ hin]; exact h.str i (by omega)
  · by_cases hin : i = n
    · subst hin; rw [updN_at, updN_at]; exact h2
    · rw [updN_ne _ _ hin, updN_ne _ _ hin, h1 i (by omega)]; exact h.row i (by omega)

/-- the state at the head of a round of the first loop -/
structure O1 (W : World) (N n : Nat) (j : Int) (ls : Nat → ByteArray) (a : Act) (w : World) : Prop where
  ex : ∃ env f L M F, Rep env ⟨oTm N n j, oV1 N n ls f⟩ a w ∧ Fam id env (oV1 N n ls f) w 9 1 n L M F ∧ Lists n L M F f ∧ RowKit.Below WI.n W w

theorem twoF_lt {n r : Nat} (f : Nat → List Value) (h : r < n) : twoF n f r = f r := by
  unfold twoF joinF
  rw [if_pos (by omega), if_pos h]

theorem rawTwo_lt {env : Nat → X.Loc} {n : Nat} (f : Nat → List Value) (c d : List Value) {r : Nat} (h : r < n) : rawRow env f [(n + 0, c), (n + 1 + 0, d)] r = f r := by
  unfold rawRow
  have h1 : (n + 0 == r) = false := by simp; omega
  have h2 : (n + 1 + 0 == r) = false := by simp; omega
  simp only [List.find?, h1, h2]
theorem rawTwo_0 {env : Nat → X.Loc} {n : Nat} (f : Nat → List Value) (c d : List Value) : rawRow env f [(n + 0, c), (n + 1 + 0, d)] n = c.map (ren env) := by
  unfold rawRow
  have h1 : (n + 0 == n) = true := by simp
  simp only [List.find?, h1]
theorem rawTwo_1 {env : Nat → X.Loc} {n : Nat} (f : Nat → List Value) (c d : List Value) : rawRow env f [(n + 0, c), (n + 1 + 0, d)] (n + 1) = d.map (ren env) := by
  unfold rawRow
  have h1 : (n + 0 == n + 1) = false := by simp
  have h2 : (n + 1 + 0 == n + 1) = true := by simp
  simp only [List.find?, h1, h2]

def o1Post (W : World) (N n j : Nat) (ls : Nat → ByteArray) (e : Exit) (a : Act) (w : World) : Prop :=
  match e with
  | .normal => j < 4096 ∧ O1 W N (n + 1 + 1) (IntKind.i64.wrap (j + 1)) ls a w
  | .exit 0 => O1 W N n j ls a w
  | _ => False

def noF : Nat → List Value := fun _ => [.string ⟨#[]⟩]
theorem noStr : StrRows 0 noF := ⟨⟨_, rfl⟩, by decide⟩

variable (hesc : FnOK Tryd.prog 20 (g1 dStr escV))
include hesc
theorem o1_do (W : World) (N n j : Nat) (ls : Nat → ByteArray) (hn : n ≤ 10000) (hsz : ∀ i, i < N → (ls i).size ≤ 2147483648) : Do Tryd.prog (roundOf Tryd.f4 0) (O1 W N n j ls) (o1Post W N n j ls) := by
  refine Do.of fun a w ⟨env, f, L, M, F, hR, hfam, hlst, hbel⟩ => ⟨env, _, _, hR, o1_round hesc N n j ls f hn hsz, fun e env' S' a' w' hF hR' hK => ?_⟩
  obtain ⟨hK, hnew⟩ := tame_ok hK
  have hfam' := hfam.later hF hnew
  have hbel' := hbel.trans (belowN hF hR.mem)
  obtain ⟨env2, S2, hR2, hleaf, hlen, hag, hpl⟩ := hR'.shape hK
  have hfam2 : Fam id env2 S2.V w' 9 1 n L M F := hfam'.less fun j o hj hl hB => by
    obtain ⟨p, o', h1, h2, h3, h4⟩ := hpl j o hj hl hB
    exact ⟨p, o', h1, h3, h4, by rw [h2]⟩
  clear hfam hfam' hpl hag hR hR' hF hK hnew
  have hsc : ∀ g, ∀ (i : Nat) (o : VObj), (oV1 N (n + 1 + 1) ls g)[i]? = some o → ScO (oV1 N (n + 1 + 1) ls g).length o := fun g i o hi => by
    match i, hi with
    | 0, hi => cases hi; trivial
    | 1, hi => cases hi; exact fun h hh => absurd hh List.not_mem_nil
  unfold o1Leaf at hleaf
  split at hleaf
  · split at hleaf
    · obtain ⟨hj4, ⟨rfl⟩⟩ := hleaf
      have f1 := (hfam2.pushNil noF).pushNil noF
      have hq : (o1Nil N n ls f (IntKind.i64.wrap (↑j + 1))).V[1]? = some (.raw 22 1 (n + 1 + 1) 0 (twoF n f) [(n + 0, [.slice none 0 0]), (n + 1 + 0, [.slice none 0 0])]) := rfl
      have hW3 := hR2.mem.closeR hq
      refine ⟨by omega, env2, rawRow env2 (twoF n f) [(n + 0, [.slice none 0 0]), (n + 1 + 0, [.slice none 0 0])], _, _, _, hR2.swap (V' := oV1 N (n + 1 + 1) ls _) hW3 (Nat.le_refl 2) (fun _ _ => rfl), f1.less fun k o hk hl hB => ?_, (hlst.ext (l := ⟨0, 0, 1, 0⟩) (f' := rawRow env2 (twoF n f) [(n + 0, [.slice none 0 0]), (n + 1 + 0, [.slice none 0 0])]) noStr ?_ ?_).ext (l := ⟨0, 0, 1, 0⟩) noStr ?_ ?_, hbel'⟩
      · match k, hk with
        | 0, hk => cases hk; exact ⟨0, _, rfl, rfl, hB, rfl⟩
        | 1, hk => cases hk; exact ⟨1, _, rfl, rfl, trivial, rfl⟩
      · intro r hr; rw [rawTwo_lt _ _ _ hr, twoF_lt _ hr]
      · rw [rawTwo_0, memV_nil rfl]; simp
      · intro r hr; rfl
      · rw [rawTwo_1, memV_nil rfl]; simp
    · rename_i n1 f1 n2 f2 heq
      obtain ⟨hj4, hs1, hs2, ⟨rfl⟩⟩ := hleaf
      have g1 := hfam2.push hR2.mem (p := 2) (k := n1) (f := f1) rfl hs1.plain
      have hW1 := hR2.mem.kill (i := 2) (o := .vec 9 1 n1 f1) rfl rfl
      have g2 := g1.push hW1 (p := 3) (k := n2) (f := f2) rfl hs2.plain
      have hW2 := hR2.mem.closeR (q := 1) (hs := [(n + 0, [.slice (some ⟨2, 2, some 0⟩) n1 0]), (n + 1 + 0, [.slice (some ⟨3, 2, some 0⟩) n2 0])]) rfl
      have hR3 := hR2.swap (V' := oV1 N (n + 1 + 1) ls (rawRow env2 (twoF n f) [(n + 0, [.slice (some ⟨2, 2, some 0⟩) n1 0]), (n + 1 + 0, [.slice (some ⟨3, 2, some 0⟩) n2 0])]) ++ [.vec 9 1 n1 f1, .vec 9 1 n2 f2]) hW2 (by show 4 ≤ 4; omega) (fun _ _ => rfl)
      have hR4 := hR3.drop (V := oV1 N (n + 1 + 1) ls _) (hsc _) (by kernel_rfl)
      refine ⟨by omega, env2, _, _, _, _, hR4, g2.less fun k o hk hl hB => ?_, (hlst.ext (f' := rawRow env2 (twoF n f) [(n + 0, [.slice (some ⟨2, 2, some 0⟩) n1 0]), (n + 1 + 0, [.slice (some ⟨3, 2, some 0⟩) n2 0])]) hs1 ?_ ?_).ext hs2 ?_ ?_, hbel'⟩
      · match k, hk with
        | 0, hk => cases hk; exact ⟨0, _, rfl, rfl, hB, rfl⟩
        | 1, hk => cases hk; exact ⟨1, _, rfl, rfl, trivial, rfl⟩
      · intro r hr; rw [rawTwo_lt _ _ _ hr, twoF_lt _ hr]
      · rw [rawTwo_0, List.map_cons, memV_of]; rfl
      · intro r hr; rfl
      · rw [rawTwo_1, List.map_cons, memV_of]; rfl
    · exact hleaf.elim
  · obtain ⟨rfl⟩ := hleaf
    exact ⟨env2, _, _, _, _, hR2, hfam2, hlst, hbel'⟩
  · exact hleaf.elim

/-- the first loop -/
theorem o1_loop (W : World) (N : Nat) (ls : Nat → ByteArray) (hsz : ∀ i, i < N → (ls i).size ≤ 2147483648) (B : Exit → Act → World → Prop) (hB : ∀ n j a w, 1 ≤ n → n ≤ 10000 → O1 W N n j ls a w → B .normal a w) :
    Do Tryd.prog (.block 0 (.loop (roundOf Tryd.f4 0))) (O1 W N 1 0 ls) B := by
  refine (Do.loop (fun k a w => k ≤ 4096 ∧ O1 W N (1 + 2 * (4096 - k)) (4096 - k : Nat) ls a w) (fun k => ?_) 4096).mono (fun a w h => ⟨Nat.le_refl _, by rw [Nat.sub_self]; exact h⟩) fun e a w h => h
  intro a w ⟨hk, hA⟩
  refine wp_mono (o1_do hesc W N (1 + 2 * (4096 - k)) (4096 - k) ls (by omega) hsz a w hA) fun e a' w' ⟨hne, h⟩ => ⟨hne, ?_⟩
  unfold o1Post at h
  split at h
  · obtain ⟨hlt, h⟩ := h
    refine ⟨k - 1, by omega, by omega, ?_⟩
    have e1 : 1 + 2 * (4096 - (k - 1)) = 1 + 2 * (4096 - k) + 1 + 1 := by omega
    have e2 : ((4096 - (k - 1) : Nat) : Int) = IntKind.i64.wrap (((4096 - k : Nat) : Int) + 1) := by
      rw [w64 _ (by omega)]; omega
    rw [e1, e2]; exact h
  · exact hB _ _ _ _ (by omega) (by omega) h
  · exact h.elim
end Go.Sh
