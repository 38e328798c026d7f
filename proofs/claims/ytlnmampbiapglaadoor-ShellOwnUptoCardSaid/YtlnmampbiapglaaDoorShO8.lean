/- ShellOwn: the third loop, over the real state: the loop of 70 appends. -/
import Derived.Test.YtlnmampbiapglaaDoorShO7
set_option linter.unusedSimpArgs false
set_option linter.unusedSectionVars false
set_option linter.unusedVariables false
set_option maxRecDepth 100000
namespace Go.Sh
open Go Go.X Go.Proofs
variable [WI]

structure LongAt (m c i : Nat) (h : Nat → ByteArray) : Prop where
  at_ : ∀ r, r < c → h r = if r < m then keptS i else moreS i
structure KeptAt (m c i : Nat) (h : Nat → ByteArray) : Prop where
  le : m ≤ c
  at_ : ∀ r, r < m → h r = keptS i

/-- the states of the loop: there was room so far; there was none; the list was nil -/
inductive J8 (z : Bool) (N n : Nat) (ls : Nat → ByteArray) (f g : Nat → List Value) (i m : Nat) (k : Nat) : VSt → Prop
  | a (t c cap : Nat) (h : Nat → ByteArray) : t + k = 70 → c = m + 1 + t → 0 < cap → LongAt m c i h → J8 z N n ls f g i m k ⟨l8Tm z n i (s3 1 c) t, vA z N n ls f g i m 4 c cap h⟩
  | b (t o c1 cap1 : Nat) (h1 : Nat → ByteArray) (c : Nat) (h : Nat → ByteArray) : t + k = 70 → c = m + 1 + t → (o = 4 ∨ o = 5) → 0 < cap1 → KeptAt m c1 i h1 → LongAt m c i h → J8 z N n ls f g i m k ⟨l8Tm z n i (s4 c) t, vB z N n ls f g i m o c1 cap1 h1 c h⟩
  | n (t c : Nat) (h : Nat → ByteArray) : t + k = 70 → m = 0 → c = 1 + t → LongAt 0 c i h → J8 z N n ls f g i m k ⟨l8Tm z n i (s3 1 c) t, vN z N n ls f g i c h⟩
inductive J9 (z : Bool) (N n : Nat) (ls : Nat → ByteArray) (f g : Nat → List Value) (i m d : Nat) : VSt → Prop
  | a (cap : Nat) (h : Nat → ByteArray) : 0 < cap → LongAt m (m + d) i h → J9 z N n ls f g i m d ⟨l9Tm z n i (s3 1 (m + d)), vA z N n ls f g i m 4 (m + d) cap h⟩
  | b (o c1 cap1 : Nat) (h1 : Nat → ByteArray) (h : Nat → ByteArray) : (o = 4 ∨ o = 5) → 0 < cap1 → KeptAt m c1 i h1 → LongAt m (m + d) i h → J9 z N n ls f g i m d ⟨l9Tm z n i (s4 (m + d)), vB z N n ls f g i m o c1 cap1 h1 (m + d) h⟩
  | n (h : Nat → ByteArray) : m = 0 → LongAt 0 d i h → J9 z N n ls f g i m d ⟨l9Tm z n i (s3 1 d), vN z N n ls f g i d h⟩

def addH (c : Nat) (h : Nat → ByteArray) (i : Nat) (r : Nat) : ByteArray := if r < c then h r else moreS i
theorem moreF_eq (c : Nat) (h : Nat → ByteArray) (i r : Nat) (hr : r < c + 1) : moreF c h i r = [.string (addH c h i r)] := by
  unfold moreF joinF addH
  split
  · rfl
  · have : r - c = 0 := by omega
    rw [this]; rfl
theorem addH_long {m c i : Nat} {h : Nat → ByteArray} (hmc : m ≤ c) (hl : LongAt m c i h) : LongAt m (c + 1) i (addH c h i) := ⟨fun r hr => by
  unfold addH
  split
  · rename_i h1; exact hl.at_ r h1
  · rw [if_neg (by omega)]⟩
theorem LongAt.kept {m c i : Nat} {h : Nat → ByteArray} (hmc : m ≤ c) (hl : LongAt m c i h) : KeptAt m c i h := ⟨hmc, fun r hr => by rw [hl.at_ r (by omega), if_pos hr]⟩

abbrev S6 (W : World) (n i : Nat) (L : Nat → X.Loc) (M : Nat → Nat) (F : Nat → Nat → List Value) := St W (fun r => if r < n then r else r - n) 9 1 (n + i) L M F

theorem leaf8_cases {id t : Nat} {Sn Se S : VSt} {e : Exit} (h : leaf8 id t Sn Se e S) : (e = .normal ∧ t < 70 ∧ S = Sn) ∨ (e = .exit id ∧ 69 < t ∧ S = Se) := by
  cases e with
  | normal => obtain ⟨⟨h1⟩, ⟨rfl⟩⟩ := h; exact .inl ⟨rfl, h1, rfl⟩
  | exit j =>
    simp only [leaf8] at h
    split at h
    · rename_i hb
      have := Nat.eq_of_beq_eq_true hb
      subst this
      obtain ⟨⟨h1⟩, ⟨rfl⟩⟩ := h
      exact .inr ⟨rfl, h1, rfl⟩
    · exact h.elim
  | _ => exact h.elim
theorem leafN_cases {Sn S : VSt} {e : Exit} (h : leafN Sn e S) : e = .normal ∧ S = Sn := by
  cases e with
  | normal => obtain ⟨rfl⟩ := h; exact ⟨rfl, rfl⟩
  | _ => exact h.elim

/-- what follows the loop -/
def B9 (z : Bool) (N n : Nat) (ls : Nat → ByteArray) (f g : Nat → List Value) (i m d : Nat) (e : Exit) (S : VSt) : Prop :=
  match e with | .normal => J9 z N n ls f g i m d S | _ => False

/-! The modes of 'long' together -/
theorem l8_A4 (z : Bool) (N n : Nat) (ls : Nat → ByteArray) (f g : Nat → List Value) (i t : Nat) (hi : i ≤ 10000) (m o c cap : Nat) (h : Nat → ByteArray) (hc : c ≤ 5000000000) (hcap : 0 < cap) (hr : c + 1 ≤ cap) :
    Does Tryd.prog (roundOf Tryd.f4 8) ⟨l8Tm z n i (s3 4 c) t, vA z N n ls f g i m o c cap h⟩ fun e S' => tame (vA z N n ls f g i m o c cap h) S'.V (reshape 0 (sel4 e S') (ke e) [] [] S' (leaf8 8 t ⟨l8Tm z n i (s3 1 (c + 1)) ((t + 1 : Nat) : Int), [a0 N ls, kh n f i (s3 o m), rl z i g, rm c cap h i]⟩ ⟨l9Tm z n i (s3 4 c), vA z N n ls f g i m o c cap h⟩ e)) := by
  cases z
  · exact l8_A4F N n ls f g i t hi m o c cap h hc hcap hr
  · exact l8_A4T N n ls f g i t hi m o c cap h hc hcap hr
theorem l8_A5 (z : Bool) (N n : Nat) (ls : Nat → ByteArray) (f g : Nat → List Value) (i t : Nat) (hi : i ≤ 10000) (m o c cap : Nat) (h : Nat → ByteArray) (hc : c ≤ 5000000000) (hcap : 0 < cap) (hr : cap < c + 1) :
    Does Tryd.prog (roundOf Tryd.f4 8) ⟨l8Tm z n i (s3 5 c) t, vA z N n ls f g i m o c cap h⟩ fun e S' => tame (vA z N n ls f g i m o c cap h) S'.V (reshape 0 (selA5 e S') (ke e) [] [] S' (leaf8 8 t ⟨l8Tm z n i (s4 (c + 1)) ((t + 1 : Nat) : Int), [a0 N ls, kh n f i (s3 o m), rl z i g, rs c cap h, rm c 0 h i]⟩ ⟨l9Tm z n i (s3 5 c), vA z N n ls f g i m o c cap h⟩ e)) := by
  cases z
  · exact l8_A5F N n ls f g i t hi m o c cap h hc hcap hr
  · exact l8_A5T N n ls f g i t hi m o c cap h hc hcap hr
theorem l8_B (z : Bool) (N n : Nat) (ls : Nat → ByteArray) (f g : Nat → List Value) (i t : Nat) (hi : i ≤ 10000) (m o c1 cap1 : Nat) (h1 : Nat → ByteArray) (c : Nat) (h : Nat → ByteArray) (hc : c ≤ 5000000000) :
    Does Tryd.prog (roundOf Tryd.f4 8) ⟨l8Tm z n i (s4 c) t, vB z N n ls f g i m o c1 cap1 h1 c h⟩ fun e S' => tame (vB z N n ls f g i m o c1 cap1 h1 c h) S'.V (reshape 0 (selB e S') (ke e) [] [] S' (leaf8 8 t ⟨l8Tm z n i (s4 (c + 1)) ((t + 1 : Nat) : Int), [a0 N ls, kh n f i (s3 o m), rl z i g, rs c1 cap1 h1, rm c 0 h i]⟩ ⟨l9Tm z n i (s4 c), vB z N n ls f g i m o c1 cap1 h1 c h⟩ e)) := by
  cases z
  · exact l8_BF N n ls f g i t hi m o c1 cap1 h1 c h hc
  · exact l8_BT N n ls f g i t hi m o c1 cap1 h1 c h hc
theorem l8_N (z : Bool) (N n : Nat) (ls : Nat → ByteArray) (f g : Nat → List Value) (i t : Nat) (hi : i ≤ 10000) (c : Nat) (h : Nat → ByteArray) (hc : c ≤ 5000000000) :
    Does Tryd.prog (roundOf Tryd.f4 8) ⟨l8Tm z n i (s3 1 c) t, vN z N n ls f g i c h⟩ fun e S' => tame (vN z N n ls f g i c h) S'.V (reshape 0 (selN e S') (ke e) [] [] S' (leaf8 8 t ⟨l8Tm z n i (s3 1 (c + 1)) ((t + 1 : Nat) : Int), [a0 N ls, kh n f i (.slice none 0 0), rl z i g, rm c 0 h i]⟩ ⟨l9Tm z n i (s3 1 c), vN z N n ls f g i c h⟩ e)) := by
  cases z
  · exact l8_NF N n ls f g i t hi c h hc
  · exact l8_NT N n ls f g i t hi c h hc

theorem alike8 (z : Bool) (n i c o o' : Nat) (t : Int) (V : VW) (hp : 3 < V.length) (h : o ≠ 0) (h2 : o ≠ 2) (h3 : o ≠ 3) (h' : o' ≠ 0) (h2' : o' ≠ 2) (h3' : o' ≠ 3) : X.Alike ⟨l8Tm z n i (s3 o c) t, V⟩ ⟨l8Tm z n i (s3 o' c) t, V⟩ :=
  X.Alike.rename (T := l8Tm z n i (s3 o c) t) 18 (v := s3 o c) (v' := s3 o' c) rfl (by simp [s3, unk]) (fun env => slice_tag h h2 h3 h' h2' h3') (.slice hp)
theorem alike9 (z : Bool) (n i c o o' : Nat) (V : VW) (hp : 3 < V.length) (h : o ≠ 0) (h2 : o ≠ 2) (h3 : o ≠ 3) (h' : o' ≠ 0) (h2' : o' ≠ 2) (h3' : o' ≠ 3) : X.Alike ⟨l9Tm z n i (s3 o c), V⟩ ⟨l9Tm z n i (s3 o' c), V⟩ :=
  X.Alike.rename (T := l9Tm z n i (s3 o c)) 18 (v := s3 o c) (v' := s3 o' c) rfl (by simp [s3, unk]) (fun env => slice_tag h h2 h3 h' h2' h3') (.slice hp)

theorem l8_do (z : Bool) (W : World) (N n : Nat) (ls : Nat → ByteArray) (f g : Nat → List Value) (i m : Nat) (hi : i ≤ 10000) (hm : m ≤ 4294967296) (L : Nat → X.Loc) (M : Nat → Nat) (F : Nat → Nat → List Value) (k : Nat) :
    Do Tryd.prog (roundOf Tryd.f4 8) (S6 W n i L M F (J8 z N n ls f g i m k)) (fun e => S6 W n i L M F (sround 8 (J8 z N n ls f g i m) k (B9 z N n ls f g i m 71) e)) := by
  refine St.run fun S hJ => ?_
  cases hJ with
  | a t c cap h ht hc hcap hl =>
    by_cases hr : c + 1 ≤ cap
    · refine ⟨⟨l8Tm z n i (s3 4 c) t, vA z N n ls f g i m 4 c cap h⟩, _, _, _, alike8 z n i c 1 4 t (vA z N n ls f g i m 4 c cap h) (by show 3 < 4; omega) (by decide) (by decide) (by decide) (by decide) (by decide) (by decide), l8_A4 z N n ls f g i t hi m 4 c cap h (by omega) hcap hr, fun e S' hk => ?_⟩
      rcases leaf8_cases hk with ⟨rfl, h70, rfl⟩ | ⟨rfl, h70, rfl⟩
      · exact ⟨_, X.Alike.row 3 (fun r => [.string (addH c h i r)]) rfl (moreF_eq c h i), k - 1, by omega, .a (t + 1) (c + 1) cap (addH c h i) (by omega) (by omega) hcap (addH_long (by omega) hl)⟩
      · obtain rfl : c = m + 71 := by omega
        exact ⟨⟨l9Tm z n i (s3 1 (m + 71)), vA z N n ls f g i m 4 (m + 71) cap h⟩, alike9 z n i (m + 71) 4 1 (vA z N n ls f g i m 4 (m + 71) cap h) (by show 3 < 4; omega) (by decide) (by decide) (by decide) (by decide) (by decide) (by decide), .a cap h hcap hl⟩
    · refine ⟨⟨l8Tm z n i (s3 5 c) t, vA z N n ls f g i m 4 c cap h⟩, _, _, _, alike8 z n i c 1 5 t (vA z N n ls f g i m 4 c cap h) (by show 3 < 4; omega) (by decide) (by decide) (by decide) (by decide) (by decide) (by decide), l8_A5 z N n ls f g i t hi m 4 c cap h (by omega) hcap (by omega), fun e S' hk => ?_⟩
      rcases leaf8_cases hk with ⟨rfl, h70, rfl⟩ | ⟨rfl, h70, rfl⟩
      · exact ⟨_, X.Alike.row 4 (fun r => [.string (addH c h i r)]) rfl (moreF_eq c h i), k - 1, by omega, .b (t + 1) 4 c cap h (c + 1) (addH c h i) (by omega) (by omega) (.inl rfl) hcap (hl.kept (by omega)) (addH_long (by omega) hl)⟩
      · obtain rfl : c = m + 71 := by omega
        exact ⟨⟨l9Tm z n i (s3 1 (m + 71)), vA z N n ls f g i m 4 (m + 71) cap h⟩, alike9 z n i (m + 71) 5 1 (vA z N n ls f g i m 4 (m + 71) cap h) (by show 3 < 4; omega) (by decide) (by decide) (by decide) (by decide) (by decide) (by decide), .a cap h hcap hl⟩
  | b t o c1 cap1 h1 c h ht hc ho hcap hk1 hl =>
    refine ⟨_, _, _, _, X.Alike.refl _, l8_B z N n ls f g i t hi m o c1 cap1 h1 c h (by omega), fun e S' hk => ?_⟩
    rcases leaf8_cases hk with ⟨rfl, h70, rfl⟩ | ⟨rfl, h70, rfl⟩
    · exact ⟨_, X.Alike.row 4 (fun r => [.string (addH c h i r)]) rfl (moreF_eq c h i), k - 1, by omega, .b (t + 1) o c1 cap1 h1 (c + 1) (addH c h i) (by omega) (by omega) ho hcap hk1 (addH_long (by omega) hl)⟩
    · obtain rfl : c = m + 71 := by omega
      exact ⟨_, X.Alike.refl _, .b o c1 cap1 h1 h ho hcap hk1 hl⟩
  | n t c h ht hm0 hc hl =>
    refine ⟨_, _, _, _, X.Alike.refl _, l8_N z N n ls f g i t hi c h (by omega), fun e S' hk => ?_⟩
    rcases leaf8_cases hk with ⟨rfl, h70, rfl⟩ | ⟨rfl, h70, rfl⟩
    · exact ⟨_, X.Alike.row 3 (fun r => [.string (addH c h i r)]) rfl (moreF_eq c h i), k - 1, by omega, .n (t + 1) (c + 1) (addH c h i) (by omega) hm0 (by omega) (addH_long (Nat.zero_le _) hl)⟩
    · obtain rfl : c = 71 := by omega
      exact ⟨_, X.Alike.refl _, .n h hm0 hl⟩

theorem l8_loop (z : Bool) (W : World) (N n : Nat) (ls : Nat → ByteArray) (f g : Nat → List Value) (i m : Nat) (hi : i ≤ 10000) (hm : m ≤ 4294967296) (L : Nat → X.Loc) (M : Nat → Nat) (F : Nat → Nat → List Value) :
    Do Tryd.prog (.block 8 (.loop (roundOf Tryd.f4 8))) (S6 W n i L M F (J8 z N n ls f g i m 70)) (fun e => S6 W n i L M F (B9 z N n ls f g i m 71 e)) :=
  St.loop (J8 z N n ls f g i m) 70 fun k => l8_do z W N n ls f g i m hi hm L M F k
end Go.Sh
