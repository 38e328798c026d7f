/- ShellOwn: the third loop, over the real state: a round's pieces. -/
import Derived.Test.YtlnmampbiapglaaDoorShO8
set_option linter.unusedSimpArgs false
set_option linter.unusedSectionVars false
set_option linter.unusedVariables false
set_option maxRecDepth 100000
namespace Go.Sh
open Go Go.X Go.Proofs
variable [WI]

def headS (z : Bool) (N n : Nat) (ls : Nat → ByteArray) (f g : Nat → List Value) (i : Nat) : VSt := ⟨o6Tm z n i i, vH z N n ls f g i⟩
def isS (S0 S : VSt) : Prop := S = S0

/-! ### The condition -/
theorem c6c (z : Bool) (N n : Nat) (ls : Nat → ByteArray) (f g : Nat → List Value) (i : Nat) (hi : i ≤ 10000) :
    Does Tryd.prog (c6cond (roundOf Tryd.f4 6)) ⟨o6Tm z n i i, vH z N n ls f g i⟩ fun e S' => tame (vH z N n ls f g i) S'.V (reshape 0 (sel3 e S') (k6 e) [] [] S' (leafC n i ⟨o6Tm z n i i, vH z N n ls f g i⟩ e)) := by
  cases z
  · exact c6c_F N n ls f g i hi
  · exact c6c_T N n ls f g i hi
def Bc (z : Bool) (N n : Nat) (ls : Nat → ByteArray) (f g : Nat → List Value) (i : Nat) (e : Exit) (S : VSt) : Prop :=
  match e with
  | .normal => i < n ∧ S = headS z N n ls f g i
  | .exit j => j = 6 ∧ n ≤ i ∧ S = headS z N n ls f g i
  | _ => False
theorem c6c_do (z : Bool) (W : World) (N n : Nat) (ls : Nat → ByteArray) (f g : Nat → List Value) (i : Nat) (hi : i ≤ 10000) (L : Nat → X.Loc) (M : Nat → Nat) (F : Nat → Nat → List Value) :
    Do Tryd.prog (c6cond (roundOf Tryd.f4 6)) (S6 W n i L M F (isS (headS z N n ls f g i))) (fun e => S6 W n i L M F (Bc z N n ls f g i e)) := by
  refine St.run fun S hJ => ?_
  obtain rfl := hJ
  refine ⟨_, _, _, _, X.Alike.refl _, c6c z N n ls f g i hi, fun e S' hk => ⟨S', X.Alike.refl _, ?_⟩⟩
  cases e with
  | normal => obtain ⟨⟨h1⟩, ⟨rfl⟩⟩ := hk; exact ⟨h1, rfl⟩
  | exit j =>
    simp only [leafC] at hk
    split at hk
    · rename_i hb
      obtain ⟨⟨h1⟩, ⟨rfl⟩⟩ := hk
      exact ⟨Nat.eq_of_beq_eq_true hb, by omega, rfl⟩
    · exact hk.elim
  | _ => exact hk.elim

/-! ### The first append -/
inductive JO (z : Bool) (N n : Nat) (ls : Nat → ByteArray) (f g : Nat → List Value) (i m : Nat) : VSt → Prop
  | a4 (cap : Nat) (h : Nat → ByteArray) : 0 < cap → m + 1 ≤ cap → KeptAt m m i h → JO z N n ls f g i m ⟨o6Tm z n i i, vA z N n ls f g i m 4 m cap h⟩
  | a5 (cap : Nat) (h : Nat → ByteArray) : 0 < cap → cap < m + 1 → KeptAt m m i h → JO z N n ls f g i m ⟨o6Tm z n i i, vA z N n ls f g i m 5 m cap h⟩
  | n : m = 0 → JO z N n ls f g i m ⟨o6Tm z n i i, [a0 N ls, kh n f i (.slice none 0 0), rl z i g]⟩

theorem c6f_A4 (z : Bool) (N n : Nat) (ls : Nat → ByteArray) (f g : Nat → List Value) (i : Nat) (hi : i ≤ 10000) (hin : i < n) (m cap : Nat) (h : Nat → ByteArray) (hc : m ≤ 5000000000) (hcap : 0 < cap) (hr : m + 1 ≤ cap) :
    Does Tryd.prog (c6first (roundOf Tryd.f4 6)) ⟨o6Tm z n i i, vA z N n ls f g i m 4 m cap h⟩ fun e S' => tame (vA z N n ls f g i m 4 m cap h) S'.V (reshape 0 (sel4 e S') (k9 e) [] [] S' (leafN ⟨l9Tm z n i (s3 1 (m + 1)), [a0 N ls, kh n f i (s3 4 m), rl z i g, rm m cap h i]⟩ e)) := by
  cases z
  · exact c6f_A4F N n ls f g i hi hin m cap h hc hcap hr
  · exact c6f_A4T N n ls f g i hi hin m cap h hc hcap hr
theorem c6f_A5 (z : Bool) (N n : Nat) (ls : Nat → ByteArray) (f g : Nat → List Value) (i : Nat) (hi : i ≤ 10000) (hin : i < n) (m cap : Nat) (h : Nat → ByteArray) (hc : m ≤ 5000000000) (hcap : 0 < cap) (hr : cap < m + 1) :
    Does Tryd.prog (c6first (roundOf Tryd.f4 6)) ⟨o6Tm z n i i, vA z N n ls f g i m 5 m cap h⟩ fun e S' => tame (vA z N n ls f g i m 5 m cap h) S'.V (reshape 0 (selA6 e S') (k9 e) [] [] S' (leafN ⟨l9Tm z n i (s4 (m + 1)), [a0 N ls, kh n f i (s3 5 m), rl z i g, rs m cap h, rm m 0 h i]⟩ e)) := by
  cases z
  · exact c6f_A5F N n ls f g i hi hin m cap h hc hcap hr
  · exact c6f_A5T N n ls f g i hi hin m cap h hc hcap hr
theorem c6f_N (z : Bool) (N n : Nat) (ls : Nat → ByteArray) (f g : Nat → List Value) (i : Nat) (hi : i ≤ 10000) (hin : i < n) :
    Does Tryd.prog (c6first (roundOf Tryd.f4 6)) ⟨o6Tm z n i i, [a0 N ls, kh n f i (.slice none 0 0), rl z i g]⟩ fun e S' => tame [a0 N ls, kh n f i (.slice none 0 0), rl z i g] S'.V (reshape 0 (selN6 e S') (k9 e) [] [] S' (leafN ⟨l9Tm z n i (s3 1 1), [a0 N ls, kh n f i (.slice none 0 0), rl z i g, .rows true 9 1 1 0 (fun j => nth [] [[.string (moreS i)]] (0 + j))]⟩ e)) := by
  cases z
  · exact c6f_NF N n ls f g i hi hin
  · exact c6f_NT N n ls f g i hi hin

theorem keep_long {m i : Nat} {h : Nat → ByteArray} (hk : KeptAt m m i h) : LongAt m (m + 1) i (addH m h i) := ⟨fun r hr => by
  unfold addH
  split
  · rename_i h1; exact hk.at_ r h1
  · rfl⟩

theorem c6f_do (z : Bool) (W : World) (N n : Nat) (ls : Nat → ByteArray) (f g : Nat → List Value) (i m : Nat) (hi : i ≤ 10000) (hin : i < n) (hm : m ≤ 4294967296) (L : Nat → X.Loc) (M : Nat → Nat) (F : Nat → Nat → List Value) :
    Do Tryd.prog (c6first (roundOf Tryd.f4 6)) (S6 W n i L M F (JO z N n ls f g i m)) (fun e => S6 W n i L M F (B9 z N n ls f g i m 1 e)) := by
  refine St.run fun S hJ => ?_
  cases hJ with
  | a4 cap h hc hr hk1 =>
    refine ⟨_, _, _, _, X.Alike.refl _, c6f_A4 z N n ls f g i hi hin m cap h (by omega) hc hr, fun e S' hk => ?_⟩
    obtain ⟨rfl, rfl⟩ := leafN_cases hk
    exact ⟨_, X.Alike.row 3 (fun r => [.string (addH m h i r)]) rfl (moreF_eq m h i), .a cap (addH m h i) hc (keep_long hk1)⟩
  | a5 cap h hc hr hk1 =>
    refine ⟨_, _, _, _, X.Alike.refl _, c6f_A5 z N n ls f g i hi hin m cap h (by omega) hc hr, fun e S' hk => ?_⟩
    obtain ⟨rfl, rfl⟩ := leafN_cases hk
    exact ⟨_, X.Alike.row 4 (fun r => [.string (addH m h i r)]) rfl (moreF_eq m h i), .b 5 m cap h (addH m h i) (.inr rfl) hc hk1 (keep_long hk1)⟩
  | n hm0 =>
    refine ⟨_, _, _, _, X.Alike.refl _, c6f_N z N n ls f g i hi hin, fun e S' hk => ?_⟩
    obtain ⟨rfl, rfl⟩ := leafN_cases hk
    exact ⟨_, X.Alike.row 3 (fun r => [.string (moreS i)]) rfl (show ∀ r, r < 1 → nth [] [[Value.string (moreS i)]] (0 + r) = [.string (moreS i)] from fun r hr => by
      obtain rfl : r = 0 := by omega
      rfl), .n (fun _ => moreS i) hm0 ⟨fun r _ => (if_neg (Nat.not_lt_zero r)).symm⟩⟩

/-! ### The counter, the last append, the increment -/
def lg (z : Bool) (i : Nat) (g : Nat → List Value) (v : Value) : VObj := match z with | true => rg0 v | false => rg i g v
def B8 (z : Bool) (N n : Nat) (ls : Nat → ByteArray) (f g : Nat → List Value) (i m : Nat) (e : Exit) (S : VSt) : Prop :=
  match e with | .normal => J8 z N n ls f g i m 70 S | _ => False
theorem c6z_A (z : Bool) (N n : Nat) (ls : Nat → ByteArray) (f g : Nat → List Value) (i : Nat) (hi : i ≤ 10000) (hz : z = true → i = 0) (m o c cap : Nat) (h : Nat → ByteArray) :
    Does Tryd.prog (c6zero (roundOf Tryd.f4 6)) ⟨l9Tm z n i (s3 1 c), vA z N n ls f g i m o c cap h⟩ fun e S' => tame (vA z N n ls f g i m o c cap h) S'.V (reshape 0 (sel4 e S') (k8 e) [] [] S' (leafN ⟨l8Tm z n i (s3 1 c) 0, vA z N n ls f g i m o c cap h⟩ e)) := by
  cases z
  · exact c6z_AF N n ls f g i hi m o c cap h
  · obtain rfl := hz rfl
    exact c6z_AT N n ls f g m o c cap h
theorem c6l_A (z : Bool) (N n : Nat) (ls : Nat → ByteArray) (f g : Nat → List Value) (i : Nat) (hi : i ≤ 10000) (hz : z = true → i = 0) (m o c cap : Nat) (h : Nat → ByteArray) :
    Does Tryd.prog (c6last (roundOf Tryd.f4 6)) ⟨l9Tm z n i (s3 1 c), vA z N n ls f g i m o c cap h⟩ fun e S' => tame (vA z N n ls f g i m o c cap h) S'.V (reshape 0 (selG4 e S') (k6 e) [] [] S' (leafN ⟨o6Tm false n (i + 1) i, [a0 N ls, kh n f i (s3 o m), lg z i g (s3 1 c), rs c cap h]⟩ e)) := by
  cases z
  · exact c6l_AF N n ls f g i hi m o c cap h
  · obtain rfl := hz rfl
    exact c6l_AT N n ls f g m o c cap h
theorem c6i_A (z : Bool) (N n : Nat) (ls : Nat → ByteArray) (f g : Nat → List Value) (i : Nat) (hi : i ≤ 10000) (m o c cap : Nat) (h : Nat → ByteArray) :
    Does Tryd.prog (c6inc (roundOf Tryd.f4 6)) ⟨o6Tm false n (i + 1) i, [a0 N ls, kh n f i (s3 o m), lg z i g (s3 1 c), rs c cap h]⟩ fun e S' => tame ([a0 N ls, kh n f i (s3 o m), lg z i g (s3 1 c), rs c cap h]) S'.V (reshape 0 (sel4 e S') (k6 e) [] [] S' (leafN ⟨o6Tm false n (i + 1) ((i + 1 : Nat) : Int), [a0 N ls, kh n f i (s3 o m), lg z i g (s3 1 c), rs c cap h]⟩ e)) := by
  cases z
  · exact c6i_AF N n ls f g i hi m o c cap h
  · exact c6i_AT N n ls f g i hi m o c cap h
theorem c6z_B (z : Bool) (N n : Nat) (ls : Nat → ByteArray) (f g : Nat → List Value) (i : Nat) (hi : i ≤ 10000) (hz : z = true → i = 0) (m o c1 cap : Nat) (h1 : Nat → ByteArray) (c : Nat) (h : Nat → ByteArray) :
    Does Tryd.prog (c6zero (roundOf Tryd.f4 6)) ⟨l9Tm z n i (s4 c), vB z N n ls f g i m o c1 cap h1 c h⟩ fun e S' => tame (vB z N n ls f g i m o c1 cap h1 c h) S'.V (reshape 0 (sel5 e S') (k8 e) [] [] S' (leafN ⟨l8Tm z n i (s4 c) 0, vB z N n ls f g i m o c1 cap h1 c h⟩ e)) := by
  cases z
  · exact c6z_BF N n ls f g i hi m o c1 cap h1 c h
  · obtain rfl := hz rfl
    exact c6z_BT N n ls f g m o c1 cap h1 c h
theorem c6l_B (z : Bool) (N n : Nat) (ls : Nat → ByteArray) (f g : Nat → List Value) (i : Nat) (hi : i ≤ 10000) (hz : z = true → i = 0) (m o c1 cap : Nat) (h1 : Nat → ByteArray) (c : Nat) (h : Nat → ByteArray) :
    Does Tryd.prog (c6last (roundOf Tryd.f4 6)) ⟨l9Tm z n i (s4 c), vB z N n ls f g i m o c1 cap h1 c h⟩ fun e S' => tame (vB z N n ls f g i m o c1 cap h1 c h) S'.V (reshape 0 (selG5 e S') (k6 e) [] [] S' (leafN ⟨o6Tm false n (i + 1) i, [a0 N ls, kh n f i (s3 o m), lg z i g (s4 c), rs c1 cap h1, rs c 0 h]⟩ e)) := by
  cases z
  · exact c6l_BF N n ls f g i hi m o c1 cap h1 c h
  · obtain rfl := hz rfl
    exact c6l_BT N n ls f g m o c1 cap h1 c h
theorem c6i_B (z : Bool) (N n : Nat) (ls : Nat → ByteArray) (f g : Nat → List Value) (i : Nat) (hi : i ≤ 10000) (m o c1 cap : Nat) (h1 : Nat → ByteArray) (c : Nat) (h : Nat → ByteArray) :
    Does Tryd.prog (c6inc (roundOf Tryd.f4 6)) ⟨o6Tm false n (i + 1) i, [a0 N ls, kh n f i (s3 o m), lg z i g (s4 c), rs c1 cap h1, rs c 0 h]⟩ fun e S' => tame ([a0 N ls, kh n f i (s3 o m), lg z i g (s4 c), rs c1 cap h1, rs c 0 h]) S'.V (reshape 0 (sel5 e S') (k6 e) [] [] S' (leafN ⟨o6Tm false n (i + 1) ((i + 1 : Nat) : Int), [a0 N ls, kh n f i (s3 o m), lg z i g (s4 c), rs c1 cap h1, rs c 0 h]⟩ e)) := by
  cases z
  · exact c6i_BF N n ls f g i hi m o c1 cap h1 c h
  · exact c6i_BT N n ls f g i hi m o c1 cap h1 c h
theorem c6z_N (z : Bool) (N n : Nat) (ls : Nat → ByteArray) (f g : Nat → List Value) (i : Nat) (hi : i ≤ 10000) (hz : z = true → i = 0) (c : Nat) (h : Nat → ByteArray) :
    Does Tryd.prog (c6zero (roundOf Tryd.f4 6)) ⟨l9Tm z n i (s3 1 c), vN z N n ls f g i c h⟩ fun e S' => tame (vN z N n ls f g i c h) S'.V (reshape 0 (sel4 e S') (k8 e) [] [] S' (leafN ⟨l8Tm z n i (s3 1 c) 0, vN z N n ls f g i c h⟩ e)) := by
  cases z
  · exact c6z_NF N n ls f g i hi c h
  · obtain rfl := hz rfl
    exact c6z_NT N n ls f g c h
theorem c6l_N (z : Bool) (N n : Nat) (ls : Nat → ByteArray) (f g : Nat → List Value) (i : Nat) (hi : i ≤ 10000) (hz : z = true → i = 0) (c : Nat) (h : Nat → ByteArray) :
    Does Tryd.prog (c6last (roundOf Tryd.f4 6)) ⟨l9Tm z n i (s3 1 c), vN z N n ls f g i c h⟩ fun e S' => tame (vN z N n ls f g i c h) S'.V (reshape 0 (selG4 e S') (k6 e) [] [] S' (leafN ⟨o6Tm false n (i + 1) i, [a0 N ls, kh n f i (.slice none 0 0), lg z i g (s3 1 c), rs c 0 h]⟩ e)) := by
  cases z
  · exact c6l_NF N n ls f g i hi c h
  · obtain rfl := hz rfl
    exact c6l_NT N n ls f g c h
theorem c6i_N (z : Bool) (N n : Nat) (ls : Nat → ByteArray) (f g : Nat → List Value) (i : Nat) (hi : i ≤ 10000) (c : Nat) (h : Nat → ByteArray) :
    Does Tryd.prog (c6inc (roundOf Tryd.f4 6)) ⟨o6Tm false n (i + 1) i, [a0 N ls, kh n f i (.slice none 0 0), lg z i g (s3 1 c), rs c 0 h]⟩ fun e S' => tame ([a0 N ls, kh n f i (.slice none 0 0), lg z i g (s3 1 c), rs c 0 h]) S'.V (reshape 0 (sel4 e S') (k6 e) [] [] S' (leafN ⟨o6Tm false n (i + 1) ((i + 1 : Nat) : Int), [a0 N ls, kh n f i (.slice none 0 0), lg z i g (s3 1 c), rs c 0 h]⟩ e)) := by
  cases z
  · exact c6i_NF N n ls f g i hi c h
  · exact c6i_NT N n ls f g i hi c h

theorem c6z_do (z : Bool) (W : World) (N n : Nat) (ls : Nat → ByteArray) (f g : Nat → List Value) (i m : Nat) (hi : i ≤ 10000) (hz : z = true → i = 0) (L : Nat → X.Loc) (M : Nat → Nat) (F : Nat → Nat → List Value) :
    Do Tryd.prog (c6zero (roundOf Tryd.f4 6)) (S6 W n i L M F (J9 z N n ls f g i m 1)) (fun e => S6 W n i L M F (B8 z N n ls f g i m e)) := by
  refine St.run fun S hJ => ?_
  cases hJ with
  | a cap h hc hl =>
    refine ⟨_, _, _, _, X.Alike.refl _, c6z_A z N n ls f g i hi hz m 4 (m + 1) cap h, fun e S' hk => ?_⟩
    obtain ⟨rfl, rfl⟩ := leafN_cases hk
    exact ⟨_, X.Alike.refl _, .a 0 (m + 1) cap h rfl rfl hc hl⟩
  | b o c1 cap1 h1 h ho hc hk1 hl =>
    refine ⟨_, _, _, _, X.Alike.refl _, c6z_B z N n ls f g i hi hz m o c1 cap1 h1 (m + 1) h, fun e S' hk => ?_⟩
    obtain ⟨rfl, rfl⟩ := leafN_cases hk
    exact ⟨_, X.Alike.refl _, .b 0 o c1 cap1 h1 (m + 1) h rfl rfl ho hc hk1 hl⟩
  | n h hm0 hl =>
    refine ⟨_, _, _, _, X.Alike.refl _, c6z_N z N n ls f g i hi hz 1 h, fun e S' hk => ?_⟩
    obtain ⟨rfl, rfl⟩ := leafN_cases hk
    exact ⟨_, X.Alike.refl _, .n 0 1 h rfl hm0 rfl hl⟩

/-- behind the last append; j: the counter -/
inductive JL (z : Bool) (N n : Nat) (ls : Nat → ByteArray) (f g : Nat → List Value) (i m : Nat) (j : Int) : VSt → Prop
  | a (cap : Nat) (h : Nat → ByteArray) : 0 < cap → LongAt m (m + 71) i h → JL z N n ls f g i m j ⟨o6Tm false n (i + 1) j, [a0 N ls, kh n f i (s3 4 m), lg z i g (s3 1 (m + 71)), rs (m + 71) cap h]⟩
  | b (o c1 cap1 : Nat) (h1 : Nat → ByteArray) (h : Nat → ByteArray) : (o = 4 ∨ o = 5) → 0 < cap1 → KeptAt m c1 i h1 → LongAt m (m + 71) i h → JL z N n ls f g i m j ⟨o6Tm false n (i + 1) j, [a0 N ls, kh n f i (s3 o m), lg z i g (s4 (m + 71)), rs c1 cap1 h1, rs (m + 71) 0 h]⟩
  | n (h : Nat → ByteArray) : m = 0 → LongAt 0 71 i h → JL z N n ls f g i m j ⟨o6Tm false n (i + 1) j, [a0 N ls, kh n f i (.slice none 0 0), lg z i g (s3 1 71), rs 71 0 h]⟩
def BL (z : Bool) (N n : Nat) (ls : Nat → ByteArray) (f g : Nat → List Value) (i m : Nat) (j : Int) (e : Exit) (S : VSt) : Prop :=
  match e with | .normal => JL z N n ls f g i m j S | _ => False

theorem c6l_do (z : Bool) (W : World) (N n : Nat) (ls : Nat → ByteArray) (f g : Nat → List Value) (i m : Nat) (hi : i ≤ 10000) (hz : z = true → i = 0) (L : Nat → X.Loc) (M : Nat → Nat) (F : Nat → Nat → List Value) :
    Do Tryd.prog (c6last (roundOf Tryd.f4 6)) (S6 W n i L M F (J9 z N n ls f g i m 71)) (fun e => S6 W n i L M F (BL z N n ls f g i m i e)) := by
  refine St.run fun S hJ => ?_
  cases hJ with
  | a cap h hc hl =>
    refine ⟨_, _, _, _, X.Alike.refl _, c6l_A z N n ls f g i hi hz m 4 (m + 71) cap h, fun e S' hk => ?_⟩
    obtain ⟨rfl, rfl⟩ := leafN_cases hk
    exact ⟨_, X.Alike.refl _, .a cap h hc hl⟩
  | b o c1 cap1 h1 h ho hc hk1 hl =>
    refine ⟨_, _, _, _, X.Alike.refl _, c6l_B z N n ls f g i hi hz m o c1 cap1 h1 (m + 71) h, fun e S' hk => ?_⟩
    obtain ⟨rfl, rfl⟩ := leafN_cases hk
    exact ⟨_, X.Alike.refl _, .b o c1 cap1 h1 h ho hc hk1 hl⟩
  | n h hm0 hl =>
    refine ⟨_, _, _, _, X.Alike.refl _, c6l_N z N n ls f g i hi hz 71 h, fun e S' hk => ?_⟩
    obtain ⟨rfl, rfl⟩ := leafN_cases hk
    exact ⟨_, X.Alike.refl _, .n h hm0 hl⟩
theorem c6i_do (z : Bool) (W : World) (N n : Nat) (ls : Nat → ByteArray) (f g : Nat → List Value) (i m : Nat) (hi : i ≤ 10000) (L : Nat → X.Loc) (M : Nat → Nat) (F : Nat → Nat → List Value) :
    Do Tryd.prog (c6inc (roundOf Tryd.f4 6)) (S6 W n i L M F (JL z N n ls f g i m i)) (fun e => S6 W n i L M F (BL z N n ls f g i m ((i + 1 : Nat) : Int) e)) := by
  refine St.run fun S hJ => ?_
  cases hJ with
  | a cap h hc hl =>
    refine ⟨_, _, _, _, X.Alike.refl _, c6i_A z N n ls f g i hi m 4 (m + 71) cap h, fun e S' hk => ?_⟩
    obtain ⟨rfl, rfl⟩ := leafN_cases hk
    exact ⟨_, X.Alike.refl _, .a cap h hc hl⟩
  | b o c1 cap1 h1 h ho hc hk1 hl =>
    refine ⟨_, _, _, _, X.Alike.refl _, c6i_B z N n ls f g i hi m o c1 cap1 h1 (m + 71) h, fun e S' hk => ?_⟩
    obtain ⟨rfl, rfl⟩ := leafN_cases hk
    exact ⟨_, X.Alike.refl _, .b o c1 cap1 h1 h ho hc hk1 hl⟩
  | n h hm0 hl =>
    refine ⟨_, _, _, _, X.Alike.refl _, c6i_N z N n ls f g i hi 71 h, fun e S' hk => ?_⟩
    obtain ⟨rfl, rfl⟩ := leafN_cases hk
    exact ⟨_, X.Alike.refl _, .n h hm0 hl⟩

/-- the block of a round -/
theorem c6b_do (z : Bool) (W : World) (N n : Nat) (ls : Nat → ByteArray) (f g : Nat → List Value) (i m : Nat) (hi : i ≤ 10000) (hin : i < n) (hz : z = true → i = 0) (hm : m ≤ 4294967296) (L : Nat → X.Loc) (M : Nat → Nat) (F : Nat → Nat → List Value)
    (B : Exit → Act → World → Prop) (hB : ∀ a w, S6 W n i L M F (JL z N n ls f g i m ((i + 1 : Nat) : Int)) a w → B .normal a w) :
    Do Tryd.prog (.seq (.block 7 (.seq (c6first (roundOf Tryd.f4 6)) (.seq (.seq (c6zero (roundOf Tryd.f4 6)) (.block 8 (.loop (roundOf Tryd.f4 8)))) (c6last (roundOf Tryd.f4 6))))) (c6inc (roundOf Tryd.f4 6))) (S6 W n i L M F (JO z N n ls f g i m)) B := by
  refine Do.seq (M := S6 W n i L M F (JL z N n ls f g i m i)) (Do.block (Do.seq (M := S6 W n i L M F (J9 z N n ls f g i m 1)) ?_ (Do.seq (M := S6 W n i L M F (J9 z N n ls f g i m 71)) (Do.seq (M := S6 W n i L M F (J8 z N n ls f g i m 70)) ?_ ?_) ?_))) ?_
  · refine (c6f_do z W N n ls f g i m hi hin hm L M F).mono (fun _ _ h => h) fun e a w h => ?_
    cases e with
    | normal => exact h
    | _ => obtain ⟨_, _, _, h, _⟩ := h; exact h.elim
  · refine (c6z_do z W N n ls f g i m hi hz L M F).mono (fun _ _ h => h) fun e a w h => ?_
    cases e with
    | normal => exact h
    | _ => obtain ⟨_, _, _, h, _⟩ := h; exact h.elim
  · refine (l8_loop z W N n ls f g i m hi hm L M F).mono (fun _ _ h => h) fun e a w h => ?_
    cases e with
    | normal => exact h
    | _ => obtain ⟨_, _, _, h, _⟩ := h; exact h.elim
  · refine (c6l_do z W N n ls f g i m hi hz L M F).mono (fun _ _ h => h) fun e a w h => ?_
    cases e with
    | normal => exact h
    | _ => obtain ⟨_, _, _, h, _⟩ := h; exact h.elim
  · refine (c6i_do z W N n ls f g i m hi L M F).mono (fun _ _ h => h) fun e a w h => ?_
    cases e with
    | normal => exact hB a w h
    | _ => obtain ⟨_, _, _, h, _⟩ := h; exact h.elim
end Go.Sh
