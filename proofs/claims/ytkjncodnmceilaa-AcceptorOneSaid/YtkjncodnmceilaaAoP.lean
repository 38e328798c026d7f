/- AcceptorOne, the plain law: of any play of proposals at most one command is ever decided. Plain Lean over numbers and lists; no program. -/
import Derived.Test.YtkjncodnmceilaaAcc3
set_option linter.unusedSimpArgs false
set_option linter.unusedVariables false
set_option linter.unusedSectionVars false
namespace Go.Acc
open Go Go.X
variable [WI]

instance : Inhabited GStamp := ⟨⟨0, 0⟩⟩
instance : Inhabited GCommand := ⟨cmdZ⟩

theorem stampEq_iff {a b : GStamp} : stampEq a b = true ↔ a = b := by
  cases a; cases b; simp [stampEq]
theorem fileEq_iff {a b : GFile} : fileEq a b = true ↔ a = b := by
  cases a; cases b; simp [fileEq]
theorem cmdEq_iff {a b : GCommand} : cmdEq a b = true ↔ a = b := by
  obtain ⟨a1, a2, a3, ⟨⟨a4⟩⟩, a5, a6, a7⟩ := a
  obtain ⟨b1, b2, b3, ⟨⟨b4⟩⟩, b5, b6, b7⟩ := b
  simp only [cmdEq, Bool.and_eq_true, beq_iff_eq, fileEq_iff, GCommand.mk.injEq, ByteArray.mk.injEq, Array.mk.injEq]
  constructor
  · rintro ⟨⟨⟨⟨⟨⟨h1, h2⟩, h3⟩, h4⟩, h5⟩, h6⟩, h7⟩; exact ⟨h1, h2, h3, h4, h5, h6, h7⟩
  · rintro ⟨h1, h2, h3, h4, h5, h6, h7⟩; exact ⟨⟨⟨⟨⟨⟨h1, h2⟩, h3⟩, h4⟩, h5⟩, h6⟩, h7⟩

theorem refused_cases (x : GInst) (b : GStamp) : (x.Decided = true ∧ refused x b = (msgOf 16 st0 st0 x.Command, true)) ∨ (x.Decided = false ∧ above x.Promised b = true ∧ refused x b = (msgOf 14 x.Promised st0 cmdZ, true)) ∨
    (x.Decided = false ∧ above x.Promised b = false ∧ refused x b = (msg0, false)) := by
  cases hd : x.Decided with
  | true => left; simp [refused, hd]
  | false =>
    right
    cases hl : above x.Promised b with
    | true => left; simp [refused, hd, less_of_above, hl]
    | false => right; simp [refused, hd, less_of_above, hl]

/-- the order of ballots -/
def GStamp.le (a b : GStamp) : Prop := a.N < b.N ∨ (a.N = b.N ∧ a.Client ≤ b.Client)
theorem above_false {a b : GStamp} : above a b = false ↔ a.le b := by
  rw [← Bool.not_eq_true]; simp [above, GStamp.le]; omega
theorem above_true {a b : GStamp} : above a b = true ↔ ¬ a.le b := by
  rw [← above_false]; simp
theorem GStamp.le_refl (a : GStamp) : a.le a := by simp [GStamp.le]
theorem GStamp.le_trans {a b c : GStamp} (h : a.le b) (h' : b.le c) : a.le c := by simp only [GStamp.le] at *; omega
theorem GStamp.le_total (a b : GStamp) : a.le b ∨ b.le a := by simp only [GStamp.le]; omega
theorem GStamp.le_antisymm {a b : GStamp} (h : a.le b) (h' : b.le a) : a = b := by
  cases a; cases b; simp only [GStamp.le, GStamp.mk.injEq] at *; omega
theorem GStamp.lt_of {a b : GStamp} (h : ¬ b.le a) : a.le b ∧ a ≠ b := ⟨(le_total a b).resolve_right h, fun e => h (e ▸ le_refl a)⟩

theorem one_pos {b : GStamp} (h : one_ b = true) : 1 ≤ b.N ∧ 1 ≤ b.Client ∧ b.Client ≤ 255 := by
  simp only [one_, within, Bool.and_eq_true, decide_eq_true_eq] at h; omega
def GStamp.code (b : GStamp) : Nat := b.N.toNat * 256 + b.Client.toNat
theorem code_lt {a b : GStamp} (ha : one_ a = true) (hb : one_ b = true) (h : a.le b) (hne : a ≠ b) : a.code < b.code := by
  have h1 := one_pos ha
  have h2 := one_pos hb
  have : a.N < b.N ∨ (a.N = b.N ∧ a.Client < b.Client) := by
    rcases h with h | ⟨h3, h4⟩
    · exact .inl h
    · refine .inr ⟨h3, ?_⟩
      rcases Int.lt_or_eq_of_le h4 with h5 | h5
      · exact h5
      · exact absurd (by cases a; cases b; simp_all) hne
  unfold GStamp.code
  omega
theorem not_le_st0 {b : GStamp} (h : one_ b = true) : ¬ b.le st0 := by
  have := one_pos h
  simp only [GStamp.le, st0]; omega

structure GP where
  B : GStamp
  pr : List Int
  H : GStamp
  C : GCommand
  ch : Bool
  ac : List Int
instance : Inhabited GP := ⟨⟨⟨0, 0⟩, [], ⟨0, 0⟩, cmdZ, false, []⟩⟩

structure PS where
  n : Nat
  P : Nat → GP
  I : Nat → GInst
  D : GCommand

def upd {α : Type} (f : Nat → α) (k : Nat) (v : α) (i : Nat) : α := if i = k then v else f i
theorem upd_at {α : Type} (f : Nat → α) (k : Nat) (v : α) : upd f k v k = v := if_pos rfl
theorem upd_ne {α : Type} (f : Nat → α) {k i : Nat} (v : α) (h : i ≠ k) : upd f k v i = f i := if_neg h

def hasL (l : List Int) (s : Int) : Bool := l.contains s

/-- is the ballot among them? -/
def usedIn (P : Nat → GP) (b : GStamp) : Nat → Bool
  | 0 => false
  | k + 1 => usedIn P b k || stampEq (P k).B b
def ownC (b : GStamp) (op : Int) : GCommand := ⟨4, b.Client, op, ⟨#[]⟩, ⟨0, 0⟩, ⟨0, 0⟩, 0⟩
def beginS (st : PS) (b : GStamp) : PS :=
  if one_ b && !usedIn st.P b st.n then { st with n := st.n + 1, P := upd st.P st.n ⟨b, [], st0, ownC b (st.n + 1), false, []⟩ } else st

def prepX (F : Nat) (x : GP) (s : Int) (m : GMsg0) : GP :=
  ⟨x.B, x.pr ++ [s], if above m.Held x.H then m.Held else x.H, if above m.Held x.H then m.Command else x.C, decide ((x.pr ++ [s]).length = F + 1), x.ac⟩
def prepareS (F : Nat) (st : PS) (k s : Nat) (lost : Bool) : PS × Bool :=
  let x := st.P k
  let r := prepare (st.I s) x.B
  let st1 := { st with I := upd st.I s r.1 }
  if r.2.1.Kind == 16 && !cmdEq r.2.1.Command st.D then (st1, false) else
  if lost || x.ch || r.2.1.Kind != 13 || hasL x.pr s then (st1, true) else
  ({ st1 with P := upd st.P k (prepX F x s r.2.1) }, true)

def acceptS (F : Nat) (st : PS) (k s : Nat) : PS × Bool :=
  let x := st.P k
  if !x.ch then (st, true) else
  let r := accept (st.I s) x.B x.C
  let st1 := { st with I := upd st.I s r.1 }
  if r.2.1.Kind == 16 && !cmdEq r.2.1.Command st.D then (st1, false) else
  if r.2.1.Kind != 15 || hasL x.ac s then (st1, true) else
  let y : GP := { x with ac := x.ac ++ [(s : Int)] }
  let st2 := { st1 with P := upd st.P k y }
  if (x.ac ++ [(s : Int)]).length < F + 1 then (st2, true) else
  let d := if st.D.Kind == 0 then x.C else st.D
  ({ st2 with D := d }, cmdEq d x.C)

/-- what the play comes to; what each acceptor ever accepted is told by h -/
structure Inv (F : Nat) (st : PS) (h : Nat → List GStamp) : Prop where
  ball : ∀ i, i < st.n → one_ (st.P i).B = true
  uniq : ∀ i j, i < st.n → j < st.n → (st.P i).B = (st.P j).B → i = j
  prN : ∀ i, i < st.n → (st.P i).pr.Nodup ∧ ∀ s ∈ (st.P i).pr, 0 ≤ s ∧ s < 2 * F + 1
  acN : ∀ i, i < st.n → (st.P i).ac.Nodup ∧ ∀ s ∈ (st.P i).ac, 0 ≤ s ∧ s < 2 * F + 1
  chos : ∀ i, i < st.n → ((st.P i).ch = true → (st.P i).pr.length = F + 1) ∧ ((st.P i).ch = false → (st.P i).ac = [])
  acH : ∀ i, i < st.n → ∀ s : Nat, (s : Int) ∈ (st.P i).ac → (st.P i).B ∈ h s
  hist : ∀ s, ∀ b ∈ h s, ∃ i, i < st.n ∧ (st.P i).ch = true ∧ (st.P i).B = b
  accd : ∀ s, (st.I s).Decided = false → ((st.I s).Accepted = st0 ∧ h s = []) ∨ ((st.I s).Accepted ∈ h s ∧ ∃ i, i < st.n ∧ (st.P i).B = (st.I s).Accepted ∧ (st.P i).C = (st.I s).Command)
  accm : ∀ s, (st.I s).Decided = false → (∀ b ∈ h s, b.le (st.I s).Accepted) ∧ (st.I s).Accepted.le (st.I s).Promised
  prom : ∀ i, i < st.n → ∀ s : Nat, (s : Int) ∈ (st.P i).pr → ((st.I s).Decided = false → (st.P i).B.le (st.I s).Promised) ∧ ∀ b ∈ h s, b.le (st.P i).B → b ≠ (st.P i).B → b.le (st.P i).H
  held : ∀ i, i < st.n → (st.P i).H = st0 ∨ ∃ j, j < st.n ∧ (st.P j).ch = true ∧ (st.P j).B = (st.P i).H ∧ (st.P j).C = (st.P i).C ∧ (st.P i).H.le (st.P i).B ∧ (st.P i).H ≠ (st.P i).B
  kind : ∀ i, i < st.n → (st.P i).C.Kind ≠ 0
  deci : st.D.Kind ≠ 0 → ∃ i, i < st.n ∧ (st.P i).ch = true ∧ (st.P i).C = st.D ∧ F + 1 ≤ (st.P i).ac.length
  none : st.D.Kind = 0 → ∀ i, i < st.n → (st.P i).ac.length < F + 1
  known : ∀ s, (st.I s).Decided = true → st.D.Kind ≠ 0 ∧ (st.I s).Command = st.D

theorem len_le : ∀ (N : Nat) (l : List Int), l.Nodup → (∀ s ∈ l, 0 ≤ s ∧ s < N) → l.length ≤ N
  | 0, l, _, h => by
    cases l with
    | nil => simp
    | cons x xs => have := h x (by simp); omega
  | N + 1, l, hn, h => by
    by_cases hm : (N : Int) ∈ l
    · have h1 := len_le N (l.erase N) (hn.erase _) (fun s hs => by
        have h2 := (hn.mem_erase_iff).1 hs
        have := h s h2.2
        have := h2.1
        omega)
      rw [List.length_erase_of_mem hm] at h1
      omega
    · have := len_le N l hn (fun s hs => by
        have h1 := h s hs
        have : s ≠ N := fun e => hm (e ▸ hs)
        omega)
      omega

/-- two majorities meet -/
theorem meet (F : Nat) (p a : List Int) (hp : p.Nodup) (ha : a.Nodup) (hp2 : ∀ s ∈ p, 0 ≤ s ∧ s < 2 * (F : Int) + 1) (ha2 : ∀ s ∈ a, 0 ≤ s ∧ s < 2 * (F : Int) + 1) (h1 : F + 1 ≤ p.length) (h2 : F + 1 ≤ a.length) : ∃ s, s ∈ p ∧ s ∈ a := by
  refine Classical.byContradiction fun hno => ?_
  have hd : (p ++ a).Nodup := List.nodup_append.2 ⟨hp, ha, fun x hx y hy e => hno ⟨x, hx, e ▸ hy⟩⟩
  have := len_le (2 * F + 1) (p ++ a) hd (fun s hs => by
    rcases List.mem_append.1 hs with h | h
    · have := hp2 s h; omega
    · have := ha2 s h; omega)
  rw [List.length_append] at this
  omega

theorem agree {F : Nat} {st : PS} {h : Nat → List GStamp} (hI : Inv F st h) (j : Nat) (hj : j < st.n) (hq : F + 1 ≤ (st.P j).ac.length) :
    ∀ (m i : Nat), (st.P i).B.code ≤ m → i < st.n → (st.P i).ch = true → (st.P j).B.le (st.P i).B → (st.P i).C = (st.P j).C := by
  intro m
  induction m with
  | zero =>
    intro i hm hi _ _
    have := one_pos (hI.ball i hi)
    unfold GStamp.code at hm
    omega
  | succ m ih =>
    intro i hm hi hch hle
    by_cases he : (st.P j).B = (st.P i).B
    · rw [hI.uniq i j hi hj he.symm]
    · obtain ⟨s, h1, h2⟩ := meet F _ _ (hI.prN i hi).1 (hI.acN j hj).1 (hI.prN i hi).2 (hI.acN j hj).2 (Nat.le_of_eq ((hI.chos i hi).1 hch).symm) hq
      obtain ⟨t, rfl⟩ : ∃ t : Nat, s = t := ⟨s.toNat, by have := (hI.prN i hi).2 s h1; omega⟩
      have h3 := hI.acH j hj t h2
      have h4 := (hI.prom i hi t h1).2 _ h3 hle he
      rcases hI.held i hi with h0 | ⟨z, hz, hzc, hzb, hzC, hzl, hzn⟩
      · rw [h0] at h4; exact absurd h4 (not_le_st0 (hI.ball j hj))
      · rw [← hzC]
        have : (st.P z).B.code < (st.P i).B.code := code_lt (hI.ball z hz) (hI.ball i hi) (by rw [hzb]; exact hzl) (by rw [hzb]; exact hzn)
        exact ih z (by omega) hz hzc (by rw [hzb]; exact h4)

/-- two that have a majority of acceptances have one command -/
theorem agree2 {F : Nat} {st : PS} {h : Nat → List GStamp} (hI : Inv F st h) {i j : Nat} (hi : i < st.n) (hj : j < st.n) (h1 : F + 1 ≤ (st.P i).ac.length) (h2 : F + 1 ≤ (st.P j).ac.length) : (st.P i).C = (st.P j).C := by
  have ch : ∀ k, k < st.n → F + 1 ≤ (st.P k).ac.length → (st.P k).ch = true := fun k hk hl => by
    cases hc : (st.P k).ch with
    | true => rfl
    | false => have := (hI.chos k hk).2 hc; rw [this] at hl; simp at hl
  rcases GStamp.le_total (st.P j).B (st.P i).B with hle | hle
  · exact agree hI j hj h2 _ i (Nat.le_refl _) hi (ch i hi h1) hle
  · exact (agree hI i hi h1 _ j (Nat.le_refl _) hj (ch j hj h2) hle).symm

/-! ### The steps -/
theorem usedIn_false {P : Nat → GP} {b : GStamp} : ∀ {n : Nat}, usedIn P b n = false → ∀ i, i < n → (P i).B ≠ b
  | 0, _, i, hi => absurd hi (Nat.not_lt_zero i)
  | n + 1, h, i, hi => by
    simp only [usedIn, Bool.or_eq_false_iff] at h
    by_cases hin : i = n
    · subst hin
      intro e
      rw [e] at h
      have : stampEq b b = true := stampEq_iff.2 rfl
      rw [this] at h; cases h.2
    · exact usedIn_false h.1 i (by omega)

theorem inv_begin {F : Nat} {st : PS} {h : Nat → List GStamp} (hI : Inv F st h) (b : GStamp) : Inv F (beginS st b) h := by
  unfold beginS
  split
  · rename_i hc
    rw [Bool.and_eq_true, Bool.not_eq_true'] at hc
    obtain ⟨hone, hu⟩ := hc
    have hne := usedIn_false hu
    have hx : ∀ i, i < st.n + 1 → (i < st.n ∧ upd st.P st.n ⟨b, [], st0, ownC b (st.n + 1), false, []⟩ i = st.P i) ∨ (i = st.n ∧ upd st.P st.n ⟨b, [], st0, ownC b (st.n + 1), false, []⟩ i = ⟨b, [], st0, ownC b (st.n + 1), false, []⟩) := by
      intro i hi
      by_cases hin : i = st.n
      · exact .inr ⟨hin, by rw [hin, upd_at]⟩
      · exact .inl ⟨by omega, upd_ne _ _ hin⟩
    have hold : ∀ i, i < st.n → upd st.P st.n ⟨b, [], st0, ownC b (st.n + 1), false, []⟩ i = st.P i := fun i hi => upd_ne _ _ (by omega)
    refine ⟨fun i hi => ?_, fun i j hi hj he => ?_, fun i hi => ?_, fun i hi => ?_, fun i hi => ?_, fun i hi s hs => ?_, fun s b' hb => ?_, fun s hs => ?_, hI.accm, fun i hi s hs => ?_, fun i hi => ?_, fun i hi => ?_, fun hd => ?_, fun hd i hi => ?_, hI.known⟩
    · rcases hx i hi with ⟨h1, h2⟩ | ⟨h1, h2⟩ <;> (dsimp only; rw [h2])
      · exact hI.ball i h1
      · exact hone
    · dsimp only at he
      rcases hx i hi with ⟨h1, h2⟩ | ⟨h1, h2⟩ <;> rcases hx j hj with ⟨g1, g2⟩ | ⟨g1, g2⟩ <;> rw [h2, g2] at he
      · exact hI.uniq i j h1 g1 he
      · exact absurd he (hne i h1)
      · exact absurd he.symm (hne j g1)
      · omega
    · rcases hx i hi with ⟨h1, h2⟩ | ⟨h1, h2⟩ <;> (dsimp only; rw [h2])
      · exact hI.prN i h1
      · exact ⟨List.nodup_nil, fun s hs => absurd hs List.not_mem_nil⟩
    · rcases hx i hi with ⟨h1, h2⟩ | ⟨h1, h2⟩ <;> (dsimp only; rw [h2])
      · exact hI.acN i h1
      · exact ⟨List.nodup_nil, fun s hs => absurd hs List.not_mem_nil⟩
    · rcases hx i hi with ⟨h1, h2⟩ | ⟨h1, h2⟩ <;> (dsimp only; rw [h2])
      · exact hI.chos i h1
      · exact ⟨(fun h => by cases h), fun _ => rfl⟩
    · dsimp only at hs ⊢
      rcases hx i hi with ⟨h1, h2⟩ | ⟨h1, h2⟩ <;> rw [h2] at hs ⊢
      · exact hI.acH i h1 s hs
      · exact absurd hs List.not_mem_nil
    · obtain ⟨i, h1, h2, h3⟩ := hI.hist s b' hb
      exact ⟨i, by show i < st.n + 1; omega, by dsimp only; rw [hold i h1]; exact h2, by dsimp only; rw [hold i h1]; exact h3⟩
    · rcases hI.accd s hs with h1 | ⟨h1, i, h2, h3, h4⟩
      · exact .inl h1
      · exact .inr ⟨h1, i, by show i < st.n + 1; omega, by dsimp only; rw [hold i h2]; exact h3, by dsimp only; rw [hold i h2]; exact h4⟩
    · dsimp only at hs ⊢
      rcases hx i hi with ⟨h1, h2⟩ | ⟨h1, h2⟩ <;> rw [h2] at hs ⊢
      · exact hI.prom i h1 s hs
      · exact absurd hs List.not_mem_nil
    · dsimp only
      rcases hx i hi with ⟨h1, h2⟩ | ⟨h1, h2⟩ <;> rw [h2]
      · rcases hI.held i h1 with h3 | ⟨j, h3, h4, h5, h6, h7, h8⟩
        · exact .inl h3
        · exact .inr ⟨j, by omega, by rw [hold j h3]; exact h4, by rw [hold j h3]; exact h5, by rw [hold j h3]; exact h6, h7, h8⟩
      · exact .inl rfl
    · rcases hx i hi with ⟨h1, h2⟩ | ⟨h1, h2⟩ <;> (dsimp only; rw [h2])
      · exact hI.kind i h1
      · show (4 : Int) ≠ 0; decide
    · obtain ⟨i, h1, h2, h3, h4⟩ := hI.deci hd
      exact ⟨i, by show i < st.n + 1; omega, by dsimp only; rw [hold i h1]; exact h2, by dsimp only; rw [hold i h1]; exact h3, by dsimp only; rw [hold i h1]; exact h4⟩
    · rcases hx i hi with ⟨h1, h2⟩ | ⟨h1, h2⟩ <;> (dsimp only; rw [h2])
      · exact hI.none hd i h1
      · exact Nat.succ_pos F
  · exact hI

theorem upd_self {α : Type} (f : Nat → α) (k : Nat) : upd f k (f k) = f := by
  funext i; unfold upd; split
  · rename_i h; rw [h]
  · rfl

/-- an instance promises -/
theorem inv_promise {F : Nat} {st : PS} {h : Nat → List GStamp} (hI : Inv F st h) {s : Nat} {b : GStamp} (hd : (st.I s).Decided = false) (hb : (st.I s).Promised.le b) :
    Inv F { st with I := upd st.I s ⟨b, (st.I s).Accepted, (st.I s).Command, false⟩ } h := by
  have hx : ∀ t, (t ≠ s ∧ upd st.I s ⟨b, (st.I s).Accepted, (st.I s).Command, false⟩ t = st.I t) ∨ (t = s ∧ upd st.I s ⟨b, (st.I s).Accepted, (st.I s).Command, false⟩ t = ⟨b, (st.I s).Accepted, (st.I s).Command, false⟩) := by
    intro t
    by_cases hts : t = s
    · exact .inr ⟨hts, by rw [hts, upd_at]⟩
    · exact .inl ⟨hts, upd_ne _ _ hts⟩
  refine ⟨hI.ball, hI.uniq, hI.prN, hI.acN, hI.chos, hI.acH, hI.hist, fun t ht => ?_, fun t ht => ?_, fun i hi t ht => ⟨fun hdt => ?_, (hI.prom i hi t ht).2⟩, hI.held, hI.kind, hI.deci, hI.none, fun t ht => ?_⟩
  · dsimp only at ht ⊢
    rcases hx t with ⟨h1, h2⟩ | ⟨h1, h2⟩ <;> rw [h2] at ht ⊢
    · exact hI.accd t ht
    · subst h1; exact hI.accd t hd
  · dsimp only at ht ⊢
    rcases hx t with ⟨h1, h2⟩ | ⟨h1, h2⟩ <;> rw [h2] at ht ⊢
    · exact hI.accm t ht
    · subst h1; exact ⟨(hI.accm t hd).1, GStamp.le_trans (hI.accm t hd).2 hb⟩
  · dsimp only at hdt ⊢
    rcases hx t with ⟨h1, h2⟩ | ⟨h1, h2⟩ <;> rw [h2] at hdt ⊢
    · exact (hI.prom i hi t ht).1 hdt
    · subst h1; exact GStamp.le_trans ((hI.prom i hi t ht).1 hd) hb
  · dsimp only at ht ⊢
    rcases hx t with ⟨h1, h2⟩ | ⟨h1, h2⟩ <;> rw [h2] at ht ⊢
    · exact hI.known t ht
    · cases ht

theorem has_false {l : List Int} {s : Int} (h : hasL l s = false) : s ∉ l := by
  unfold hasL at h
  intro hm
  have : l.contains s = true := List.contains_iff_mem.2 hm
  rw [this] at h; cases h

theorem nodup_snoc {l : List Int} {s : Int} (h : l.Nodup) (hs : s ∉ l) : (l ++ [s]).Nodup :=
  List.nodup_append.2 ⟨h, by simp, fun x hx y hy e => by rw [List.mem_singleton] at hy; subst hy; subst e; exact hs hx⟩

/-- a promise is counted -/
theorem inv_count {F : Nat} {st : PS} {h : Nat → List GStamp} (hI : Inv F st h) {k s : Nat} {m : GMsg0} (hk : k < st.n) (hs : s < 2 * F + 1) (hc : (st.P k).ch = false) (hn : hasL (st.P k).pr s = false) (hd : (st.I s).Decided = false)
    (hb : (st.P k).B.le (st.I s).Promised) (hm : m.Held = (st.I s).Accepted ∧ m.Command = (st.I s).Command) (hle : (st.I s).Accepted.le (st.P k).B) : Inv F { st with P := upd st.P k (prepX F (st.P k) s m) } h := by
  obtain ⟨hm1, hm2⟩ := hm
  have hx : ∀ i, (i ≠ k ∧ upd st.P k (prepX F (st.P k) s m) i = st.P i) ∨ (i = k ∧ upd st.P k (prepX F (st.P k) s m) i = prepX F (st.P k) s m) := by
    intro i
    by_cases hik : i = k
    · exact .inr ⟨hik, by rw [hik, upd_at]⟩
    · exact .inl ⟨hik, upd_ne _ _ hik⟩
  have eB : ∀ i, (upd st.P k (prepX F (st.P k) s m) i).B = (st.P i).B := fun i => by
    rcases hx i with ⟨h1, h2⟩ | ⟨h1, h2⟩ <;> rw [h2]
    subst h1; rfl
  have eA : ∀ i, (upd st.P k (prepX F (st.P k) s m) i).ac = (st.P i).ac := fun i => by
    rcases hx i with ⟨h1, h2⟩ | ⟨h1, h2⟩ <;> rw [h2]
    subst h1; rfl
  have eC : ∀ i, i < st.n → (st.P i).ch = true → upd st.P k (prepX F (st.P k) s m) i = st.P i := fun i hi hch => by
    rcases hx i with ⟨h1, h2⟩ | ⟨h1, h2⟩
    · exact h2
    · subst h1; rw [hc] at hch; cases hch
  -- what it has accepted is of another proposal
  have hacc : (st.I s).Accepted = st0 ∨ ∃ j, j < st.n ∧ (st.P j).ch = true ∧ (st.P j).B = (st.I s).Accepted ∧ (st.P j).C = (st.I s).Command ∧ (st.I s).Accepted ≠ (st.P k).B := by
    rcases hI.accd s hd with ⟨h1, _⟩ | ⟨h1, i, h2, h3, h4⟩
    · exact .inl h1
    · obtain ⟨j, g1, g2, g3⟩ := hI.hist s _ h1
      have hij := hI.uniq i j h2 g1 (by rw [h3, g3])
      subst hij
      refine .inr ⟨i, h2, g2, h3, h4, fun e => ?_⟩
      have := hI.uniq i k h2 hk (by rw [h3, e])
      subst this
      rw [hc] at g2; cases g2
  have hHle : (st.P k).H.le (prepX F (st.P k) s m).H ∧ (st.I s).Accepted.le (prepX F (st.P k) s m).H := by
    unfold prepX
    dsimp only
    rw [hm1]
    cases ha : above (st.I s).Accepted (st.P k).H with
    | true => simp only [if_true]; exact ⟨(GStamp.lt_of (above_true.1 ha)).1, GStamp.le_refl _⟩
    | false => simp only [Bool.false_eq_true, if_false]; exact ⟨GStamp.le_refl _, above_false.1 ha⟩
  refine ⟨fun i hi => by dsimp only; rw [eB]; exact hI.ball i hi, fun i j hi hj he => hI.uniq i j hi hj (by dsimp only at he; rwa [eB, eB] at he), fun i hi => ?_, fun i hi => by dsimp only; rw [eA]; exact hI.acN i hi, fun i hi => ?_, fun i hi t ht => ?_, fun t b hb' => ?_, fun t ht => ?_, hI.accm, fun i hi t ht => ?_, fun i hi => ?_, fun i hi => ?_, fun hD => ?_, fun hD i hi => by dsimp only; rw [eA]; exact hI.none hD i hi, hI.known⟩
  · dsimp only
    rcases hx i with ⟨h1, h2⟩ | ⟨h1, h2⟩ <;> rw [h2]
    · exact hI.prN i hi
    · subst h1
      refine ⟨nodup_snoc (hI.prN i hi).1 (has_false hn), fun t ht => ?_⟩
      rcases List.mem_append.1 ht with ht | ht
      · exact (hI.prN i hi).2 t ht
      · rw [List.mem_singleton] at ht; subst ht; omega
  · dsimp only
    rcases hx i with ⟨h1, h2⟩ | ⟨h1, h2⟩ <;> rw [h2]
    · exact hI.chos i hi
    · subst h1
      refine ⟨fun h => ?_, fun _ => (hI.chos i hi).2 hc⟩
      have : decide (((st.P i).pr ++ [(s : Int)]).length = F + 1) = true := h
      exact of_decide_eq_true this
  · dsimp only at ht ⊢
    rw [eA] at ht; rw [eB]; exact hI.acH i hi t ht
  · obtain ⟨i, h1, h2, h3⟩ := hI.hist t b hb'
    exact ⟨i, h1, by dsimp only; rw [eC i h1 h2]; exact h2, by dsimp only; rw [eB]; exact h3⟩
  · rcases hI.accd t ht with h1 | ⟨h1, i, h2, h3, h4⟩
    · exact .inl h1
    · obtain ⟨j, g1, g2, g3⟩ := hI.hist t _ h1
      have hij := hI.uniq i j h2 g1 (by rw [h3, g3])
      subst hij
      exact .inr ⟨h1, i, h2, by dsimp only; rw [eB]; exact h3, by dsimp only; rw [eC i h2 g2]; exact h4⟩
  · dsimp only at ht ⊢
    rcases hx i with ⟨h1, h2⟩ | ⟨h1, h2⟩ <;> rw [h2] at ht ⊢
    · exact hI.prom i hi t ht
    · subst h1
      rcases List.mem_append.1 ht with ht | ht
      · obtain ⟨h3, h4⟩ := hI.prom i hi t ht
        exact ⟨h3, fun b hb' hb2 hb3 => GStamp.le_trans (h4 b hb' hb2 hb3) hHle.1⟩
      · rw [List.mem_singleton] at ht
        obtain rfl : t = s := by omega
        exact ⟨fun _ => hb, fun b hb' _ _ => GStamp.le_trans ((hI.accm t hd).1 b hb') hHle.2⟩
  · dsimp only
    rcases hx i with ⟨h1, h2⟩ | ⟨h1, h2⟩ <;> rw [h2]
    · rcases hI.held i hi with h3 | ⟨j, h3, h4, h5, h6, h7⟩
      · exact .inl h3
      · exact .inr ⟨j, h3, by rw [eC j h3 h4]; exact h4, by rw [eB]; exact h5, by rw [eC j h3 h4]; exact h6, h7⟩
    · subst h1
      unfold prepX
      dsimp only
      cases ha : above m.Held (st.P i).H with
      | false =>
        simp only [Bool.false_eq_true, if_false]
        rcases hI.held i hi with h3 | ⟨j, h3, h4, h5, h6, h7⟩
        · exact .inl h3
        · exact .inr ⟨j, h3, by rw [upd_ne _ _ (fun e => by rw [e, hc] at h4; cases h4)]; exact h4, by rw [upd_ne _ _ (fun e => by rw [e, hc] at h4; cases h4)]; exact h5, by rw [upd_ne _ _ (fun e => by rw [e, hc] at h4; cases h4)]; exact h6, h7⟩
      | true =>
        simp only [if_true]
        rw [hm1, hm2]
        rcases hacc with h3 | ⟨j, h3, h4, h5, h6, h7⟩
        · exact .inl h3
        · exact .inr ⟨j, h3, by rw [upd_ne _ _ (fun e => by rw [e, hc] at h4; cases h4)]; exact h4, by rw [upd_ne _ _ (fun e => by rw [e, hc] at h4; cases h4)]; exact h5, by rw [upd_ne _ _ (fun e => by rw [e, hc] at h4; cases h4)]; exact h6, hle, h7⟩
  · dsimp only
    rcases hx i with ⟨h1, h2⟩ | ⟨h1, h2⟩ <;> rw [h2]
    · exact hI.kind i hi
    · subst h1
      unfold prepX
      dsimp only
      cases ha : above m.Held (st.P i).H with
      | false => simp only [Bool.false_eq_true, if_false]; exact hI.kind i hi
      | true =>
        simp only [if_true]
        rcases hacc with h3 | ⟨j, h3, h4, h5, h6, h7⟩
        · exfalso
          rw [hm1, h3] at ha
          have h9 := above_true.1 ha
          rcases hI.held i hi with g3 | ⟨z, g3, g4, g5, g6, g7⟩
          · rw [g3] at h9; exact h9 (GStamp.le_refl _)
          · rw [← g5] at h9
            have h10 := one_pos (hI.ball z g3)
            exact h9 (by simp only [GStamp.le, st0]; omega)
        · rw [hm2, ← h6]; exact hI.kind j h3
  · obtain ⟨i, h1, h2, h3, h4⟩ := hI.deci hD
    exact ⟨i, h1, by dsimp only; rw [eC i h1 h2]; exact h2, by dsimp only; rw [eC i h1 h2]; exact h3, by dsimp only; rw [eA]; exact h4⟩

theorem inv_prepare {F : Nat} {st : PS} {h : Nat → List GStamp} (hI : Inv F st h) {k s : Nat} (lost : Bool) (hk : k < st.n) (hs : s < 2 * F + 1) : (prepareS F st k s lost).2 = true ∧ Inv F (prepareS F st k s lost).1 h := by
  unfold prepareS
  dsimp only
  rcases refused_cases (st.I s) (st.P k).B with ⟨hd, hr⟩ | ⟨hd, ha, hr⟩ | ⟨hd, ha, hr⟩
  · have hp : prepare (st.I s) (st.P k).B = (st.I s, msgOf 16 st0 st0 (st.I s).Command, false) := by unfold prepare; rw [hr]; rfl
    rw [hp]
    obtain ⟨h1, h2⟩ := hI.known s hd
    have h3 : cmdEq (st.I s).Command st.D = true := cmdEq_iff.2 h2
    have h4 : ((msgOf 16 st0 st0 (st.I s).Command).Kind == 16 && !cmdEq (msgOf 16 st0 st0 (st.I s).Command).Command st.D) = false := by
      show ((16 : Int) == 16 && !cmdEq (st.I s).Command st.D) = false
      rw [h3]; rfl
    have h5 : (lost || (st.P k).ch || (msgOf 16 st0 st0 (st.I s).Command).Kind != 13 || hasL (st.P k).pr s) = true := by
      have : ((msgOf 16 st0 st0 (st.I s).Command).Kind != 13) = true := rfl
      simp [this]
    simp only [h4, h5, Bool.false_eq_true, if_false, if_true]
    rw [upd_self]
    exact ⟨trivial, hI⟩
  · have hp : prepare (st.I s) (st.P k).B = (st.I s, msgOf 14 (st.I s).Promised st0 cmdZ, false) := by unfold prepare; rw [hr]; rfl
    rw [hp]
    have h4 : ((msgOf 14 (st.I s).Promised st0 cmdZ).Kind == 16 && !cmdEq (msgOf 14 (st.I s).Promised st0 cmdZ).Command st.D) = false := rfl
    have h5 : (lost || (st.P k).ch || (msgOf 14 (st.I s).Promised st0 cmdZ).Kind != 13 || hasL (st.P k).pr s) = true := by
      have : ((msgOf 14 (st.I s).Promised st0 cmdZ).Kind != 13) = true := rfl
      simp [this]
    simp only [h4, h5, Bool.false_eq_true, if_false, if_true]
    rw [upd_self]
    exact ⟨trivial, hI⟩
  · have hp : prepare (st.I s) (st.P k).B = (⟨(st.P k).B, (st.I s).Accepted, (st.I s).Command, (st.I s).Decided⟩, msgOf 13 (st.P k).B (st.I s).Accepted (st.I s).Command, !stampEq (st.I s).Promised (st.P k).B) := by unfold prepare; rw [hr]; rfl
    rw [hp, hd]
    have h4 : ((msgOf 13 (st.P k).B (st.I s).Accepted (st.I s).Command).Kind == 16 && !cmdEq (msgOf 13 (st.P k).B (st.I s).Accepted (st.I s).Command).Command st.D) = false := rfl
    have hI1 := inv_promise hI hd (above_false.1 ha)
    simp only [h4, Bool.false_eq_true, if_false]
    cases hc : (lost || (st.P k).ch || (msgOf 13 (st.P k).B (st.I s).Accepted (st.I s).Command).Kind != 13 || hasL (st.P k).pr s) with
    | true => simp only [if_true]; exact ⟨trivial, hI1⟩
    | false =>
      simp only [Bool.or_eq_false_iff] at hc
      simp only [Bool.false_eq_true, if_false]
      refine ⟨trivial, inv_count hI1 hk hs hc.1.1.2 hc.2 ?_ ?_ ?_ ?_⟩
      · dsimp only; rw [upd_at]
      · dsimp only; rw [upd_at]; exact GStamp.le_refl _
      · dsimp only; rw [upd_at]; exact ⟨rfl, rfl⟩
      · dsimp only; rw [upd_at]; exact GStamp.le_trans (hI.accm s hd).2 (above_false.1 ha)

def upd2 (h : Nat → List GStamp) (s : Nat) (b : GStamp) : Nat → List GStamp := upd h s (b :: h s)

/-- an instance accepts -/
theorem inv_took {F : Nat} {st : PS} {h : Nat → List GStamp} (hI : Inv F st h) {k s : Nat} (hk : k < st.n) (hc : (st.P k).ch = true) (hd : (st.I s).Decided = false) (hb : (st.I s).Promised.le (st.P k).B) :
    Inv F { st with I := upd st.I s ⟨(st.P k).B, (st.P k).B, (st.P k).C, false⟩ } (upd2 h s (st.P k).B) := by
  have hx : ∀ t, (t ≠ s ∧ upd st.I s ⟨(st.P k).B, (st.P k).B, (st.P k).C, false⟩ t = st.I t ∧ upd2 h s (st.P k).B t = h t) ∨ (t = s ∧ upd st.I s ⟨(st.P k).B, (st.P k).B, (st.P k).C, false⟩ t = ⟨(st.P k).B, (st.P k).B, (st.P k).C, false⟩ ∧ upd2 h s (st.P k).B t = (st.P k).B :: h s) := by
    intro t
    unfold upd2
    by_cases hts : t = s
    · subst hts; exact .inr ⟨rfl, upd_at _ _ _, upd_at _ _ _⟩
    · exact .inl ⟨hts, upd_ne _ _ hts, upd_ne _ _ hts⟩
  have hsub : ∀ t b, b ∈ h t → b ∈ upd2 h s (st.P k).B t := fun t b hm => by
    rcases hx t with ⟨h1, _, h2⟩ | ⟨h1, _, h2⟩ <;> rw [h2]
    · exact hm
    · subst h1; exact List.mem_cons_of_mem _ hm
  refine ⟨hI.ball, hI.uniq, hI.prN, hI.acN, hI.chos, fun i hi t ht => hsub t _ (hI.acH i hi t ht), fun t b hm => ?_, fun t ht => ?_, fun t ht => ?_, fun i hi t ht => ⟨fun hdt => ?_, fun b hm => ?_⟩, hI.held, hI.kind, hI.deci, hI.none, fun t ht => ?_⟩
  · rcases hx t with ⟨h1, _, h2⟩ | ⟨h1, _, h2⟩ <;> rw [h2] at hm
    · exact hI.hist t b hm
    · rcases List.mem_cons.1 hm with rfl | hm
      · exact ⟨k, hk, hc, rfl⟩
      · exact hI.hist s b hm
  · dsimp only at ht ⊢
    rcases hx t with ⟨h1, h2, h3⟩ | ⟨h1, h2, h3⟩ <;> rw [h2] at ht ⊢ <;> rw [h3]
    · exact hI.accd t ht
    · exact .inr ⟨List.mem_cons_self, k, hk, rfl, rfl⟩
  · dsimp only at ht ⊢
    rcases hx t with ⟨h1, h2, h3⟩ | ⟨h1, h2, h3⟩ <;> rw [h2] at ht ⊢ <;> rw [h3]
    · exact hI.accm t ht
    · refine ⟨fun b hm => ?_, GStamp.le_refl _⟩
      rcases List.mem_cons.1 hm with rfl | hm
      · exact GStamp.le_refl _
      · exact GStamp.le_trans ((hI.accm s hd).1 b hm) (GStamp.le_trans (hI.accm s hd).2 hb)
  · dsimp only at hdt ⊢
    rcases hx t with ⟨h1, h2, _⟩ | ⟨h1, h2, _⟩ <;> rw [h2] at hdt ⊢
    · exact (hI.prom i hi t ht).1 hdt
    · subst h1; exact GStamp.le_trans ((hI.prom i hi t ht).1 hd) hb
  · rcases hx t with ⟨h1, _, h2⟩ | ⟨h1, _, h2⟩ <;> rw [h2] at hm
    · exact (hI.prom i hi t ht).2 b hm
    · subst h1
      rcases List.mem_cons.1 hm with rfl | hm
      · intro h3 h4
        exact absurd (GStamp.le_antisymm h3 (GStamp.le_trans ((hI.prom i hi t ht).1 hd) hb)) h4
      · exact (hI.prom i hi t ht).2 b hm
  · dsimp only at ht ⊢
    rcases hx t with ⟨h1, h2, _⟩ | ⟨h1, h2, _⟩ <;> rw [h2] at ht ⊢
    · exact hI.known t ht
    · cases ht

/-- an acceptance is counted -/
theorem inv_acc {F : Nat} {st : PS} {h : Nat → List GStamp} (hI : Inv F st h) {k s : Nat} (hk : k < st.n) (hs : s < 2 * F + 1) (hc : (st.P k).ch = true) (hn : hasL (st.P k).ac s = false) (hm : (st.P k).B ∈ h s)
    {D : GCommand} (hD : ((st.P k).ac ++ [(s : Int)]).length < F + 1 ∧ D = st.D ∨ F + 1 ≤ ((st.P k).ac ++ [(s : Int)]).length ∧ D = if st.D.Kind == 0 then (st.P k).C else st.D) :
    Inv F { st with P := upd st.P k { st.P k with ac := (st.P k).ac ++ [(s : Int)] }, D := D } h ∧ (F + 1 ≤ ((st.P k).ac ++ [(s : Int)]).length → cmdEq D (st.P k).C = true) := by
  have hx : ∀ i, (i ≠ k ∧ upd st.P k { st.P k with ac := (st.P k).ac ++ [(s : Int)] } i = st.P i) ∨ (i = k ∧ upd st.P k { st.P k with ac := (st.P k).ac ++ [(s : Int)] } i = { st.P k with ac := (st.P k).ac ++ [(s : Int)] }) := by
    intro i
    by_cases hik : i = k
    · exact .inr ⟨hik, by rw [hik, upd_at]⟩
    · exact .inl ⟨hik, upd_ne _ _ hik⟩
  have e1 : ∀ i, (upd st.P k { st.P k with ac := (st.P k).ac ++ [(s : Int)] } i).B = (st.P i).B ∧ (upd st.P k { st.P k with ac := (st.P k).ac ++ [(s : Int)] } i).pr = (st.P i).pr ∧ (upd st.P k { st.P k with ac := (st.P k).ac ++ [(s : Int)] } i).H = (st.P i).H ∧
      (upd st.P k { st.P k with ac := (st.P k).ac ++ [(s : Int)] } i).C = (st.P i).C ∧ (upd st.P k { st.P k with ac := (st.P k).ac ++ [(s : Int)] } i).ch = (st.P i).ch := fun i => by
    rcases hx i with ⟨h1, h2⟩ | ⟨h1, h2⟩ <;> rw [h2]
    · exact ⟨rfl, rfl, rfl, rfl, rfl⟩
    · subst h1; exact ⟨rfl, rfl, rfl, rfl, rfl⟩
  -- the state with the acceptance alone
  have base : ∀ st' : PS, st' = { st with P := upd st.P k { st.P k with ac := (st.P k).ac ++ [(s : Int)] }, D := D } → (D.Kind ≠ 0 → ∃ i, i < st'.n ∧ (st'.P i).ch = true ∧ (st'.P i).C = D ∧ F + 1 ≤ (st'.P i).ac.length) →
      (D.Kind = 0 → ∀ i, i < st'.n → (st'.P i).ac.length < F + 1) → (st.D.Kind ≠ 0 → D = st.D) → Inv F st' h := by
    intro st' hst hdec hnone hkeep
    subst hst
    refine ⟨fun i hi => by dsimp only; rw [(e1 i).1]; exact hI.ball i hi, fun i j hi hj he => hI.uniq i j hi hj (by dsimp only at he; rwa [(e1 i).1, (e1 j).1] at he), fun i hi => by dsimp only; rw [(e1 i).2.1]; exact hI.prN i hi, fun i hi => ?_, fun i hi => ⟨fun h => ?_, fun h => ?_⟩, fun i hi t ht => ?_, fun t b hb => ?_, fun t ht => ?_, hI.accm,
      fun i hi t ht => ?_, fun i hi => ?_, fun i hi => by dsimp only; rw [(e1 i).2.2.2.1]; exact hI.kind i hi, hdec, hnone, fun t ht => ?_⟩
    · dsimp only
      rcases hx i with ⟨h1, h2⟩ | ⟨h1, h2⟩ <;> rw [h2]
      · exact hI.acN i hi
      · subst h1
        refine ⟨nodup_snoc (hI.acN i hi).1 (has_false hn), fun t ht => ?_⟩
        rcases List.mem_append.1 ht with ht | ht
        · exact (hI.acN i hi).2 t ht
        · rw [List.mem_singleton] at ht; subst ht; omega
    · dsimp only at h ⊢
      rw [(e1 i).2.2.2.2] at h; rw [(e1 i).2.1]; exact (hI.chos i hi).1 h
    · dsimp only at h ⊢
      rcases hx i with ⟨h1, h2⟩ | ⟨h1, h2⟩ <;> rw [h2] at h ⊢
      · exact (hI.chos i hi).2 h
      · subst h1; dsimp only at h; rw [hc] at h; cases h
    · dsimp only at ht ⊢
      rw [(e1 i).1]
      rcases hx i with ⟨h1, h2⟩ | ⟨h1, h2⟩ <;> rw [h2] at ht
      · exact hI.acH i hi t ht
      · subst h1
        rcases List.mem_append.1 ht with ht | ht
        · exact hI.acH i hi t ht
        · rw [List.mem_singleton] at ht
          obtain rfl : t = s := by omega
          exact hm
    · obtain ⟨i, h1, h2, h3⟩ := hI.hist t b hb
      exact ⟨i, h1, by dsimp only; rw [(e1 i).2.2.2.2]; exact h2, by dsimp only; rw [(e1 i).1]; exact h3⟩
    · rcases hI.accd t ht with h1 | ⟨h1, i, h2, h3, h4⟩
      · exact .inl h1
      · exact .inr ⟨h1, i, h2, by dsimp only; rw [(e1 i).1]; exact h3, by dsimp only; rw [(e1 i).2.2.2.1]; exact h4⟩
    · dsimp only at ht ⊢
      rw [(e1 i).2.1] at ht
      rw [(e1 i).1, (e1 i).2.2.1]
      exact hI.prom i hi t ht
    · dsimp only
      rw [(e1 i).2.2.1, (e1 i).2.2.2.1, (e1 i).1]
      rcases hI.held i hi with h3 | ⟨j, h3, h4, h5, h6, h7⟩
      · exact .inl h3
      · exact .inr ⟨j, h3, by rw [(e1 j).2.2.2.2]; exact h4, by rw [(e1 j).1]; exact h5, by rw [(e1 j).2.2.2.1]; exact h6, h7⟩
    · obtain ⟨h1, h2⟩ := hI.known t ht
      have h3 := hkeep h1
      exact ⟨by dsimp only; rw [h3]; exact h1, by dsimp only; rw [h3]; exact h2⟩
  have ek : upd st.P k { st.P k with ac := (st.P k).ac ++ [(s : Int)] } k = { st.P k with ac := (st.P k).ac ++ [(s : Int)] } := upd_at _ _ _
  have grow : ∀ i, (st.P i).ac.length ≤ (upd st.P k { st.P k with ac := (st.P k).ac ++ [(s : Int)] } i).ac.length := fun i => by
    rcases hx i with ⟨h1, h2⟩ | ⟨h1, h2⟩ <;> rw [h2]
    · exact Nat.le_refl _
    · subst h1; dsimp only; rw [List.length_append]; omega
  have keepDec : st.D.Kind ≠ 0 → ∃ i, i < st.n ∧ (upd st.P k { st.P k with ac := (st.P k).ac ++ [(s : Int)] } i).ch = true ∧ (upd st.P k { st.P k with ac := (st.P k).ac ++ [(s : Int)] } i).C = st.D ∧ F + 1 ≤ (upd st.P k { st.P k with ac := (st.P k).ac ++ [(s : Int)] } i).ac.length := fun h0 => by
    obtain ⟨i, h1, h2, h3, h4⟩ := hI.deci h0
    exact ⟨i, h1, by rw [(e1 i).2.2.2.2]; exact h2, by rw [(e1 i).2.2.2.1]; exact h3, Nat.le_trans h4 (grow i)⟩
  rcases hD with ⟨hl, rfl⟩ | ⟨hl, hD⟩
  · refine ⟨base _ rfl keepDec (fun h0 i hi => ?_) (fun _ => rfl), fun h => by omega⟩
    dsimp only
    rcases hx i with ⟨h1, h2⟩ | ⟨h1, h2⟩ <;> rw [h2]
    · exact hI.none h0 i hi
    · exact hl
  · by_cases h0 : st.D.Kind = 0
    · have hDe : D = (st.P k).C := by rw [hD, if_pos (by simpa using h0)]
      refine ⟨base _ rfl (fun _ => ⟨k, hk, by rw [(e1 k).2.2.2.2]; exact hc, by rw [(e1 k).2.2.2.1, hDe], by dsimp only; rw [ek]; exact hl⟩) (fun h => ?_) (fun h => absurd h0 h), fun _ => by rw [hDe]; exact cmdEq_iff.2 rfl⟩
      rw [hDe] at h
      exact absurd h (hI.kind k hk)
    · have hDe : D = st.D := by rw [hD, if_neg (by simpa using h0)]
      have hInv := base _ rfl (fun _ => by rw [hDe]; exact keepDec h0) (fun h => by rw [hDe] at h; exact absurd h h0) (fun _ => hDe)
      refine ⟨hInv, fun _ => ?_⟩
      obtain ⟨i, h1, h2, h3, h4⟩ := hInv.deci (by dsimp only; rw [hDe]; exact h0)
      have h5 := agree2 hInv (i := i) (j := k) h1 hk h4 (by dsimp only; rw [ek]; exact hl)
      have h6 : (st.P k).C = (upd st.P k { st.P k with ac := (st.P k).ac ++ [(s : Int)] } k).C := by rw [(e1 k).2.2.2.1]
      refine cmdEq_iff.2 ?_
      rw [h6]
      exact h3.symm.trans h5

theorem inv_accept {F : Nat} {st : PS} {h : Nat → List GStamp} (hI : Inv F st h) {k s : Nat} (hk : k < st.n) (hs : s < 2 * F + 1) : (acceptS F st k s).2 = true ∧ ∃ h', Inv F (acceptS F st k s).1 h' := by
  unfold acceptS
  dsimp only
  by_cases hc : (st.P k).ch = true
  case neg =>
    have hc0 : (st.P k).ch = false := by simpa using hc
    rw [if_pos (by rw [hc0]; rfl)]
    exact ⟨rfl, h, hI⟩
  case pos =>
    rw [if_neg (by rw [hc]; decide)]
    rcases refused_cases (st.I s) (st.P k).B with ⟨hd, hr⟩ | ⟨hd, ha, hr⟩ | ⟨hd, ha, hr⟩
    · have hp : accept (st.I s) (st.P k).B (st.P k).C = (st.I s, msgOf 16 st0 st0 (st.I s).Command, false) := by unfold accept; rw [hr]; rfl
      rw [hp]
      obtain ⟨h1, h2⟩ := hI.known s hd
      have h3 : cmdEq (st.I s).Command st.D = true := cmdEq_iff.2 h2
      have h4 : ((msgOf 16 st0 st0 (st.I s).Command).Kind == 16 && !cmdEq (msgOf 16 st0 st0 (st.I s).Command).Command st.D) = false := by
        show ((16 : Int) == 16 && !cmdEq (st.I s).Command st.D) = false
        rw [h3]; rfl
      have h5 : ((msgOf 16 st0 st0 (st.I s).Command).Kind != 15 || hasL (st.P k).ac s) = true := rfl
      simp only [h4, h5, Bool.false_eq_true, if_false, if_true]
      rw [upd_self]
      exact ⟨trivial, h, hI⟩
    · have hp : accept (st.I s) (st.P k).B (st.P k).C = (st.I s, msgOf 14 (st.I s).Promised st0 cmdZ, false) := by unfold accept; rw [hr]; rfl
      rw [hp]
      have h4 : ((msgOf 14 (st.I s).Promised st0 cmdZ).Kind == 16 && !cmdEq (msgOf 14 (st.I s).Promised st0 cmdZ).Command st.D) = false := rfl
      have h5 : ((msgOf 14 (st.I s).Promised st0 cmdZ).Kind != 15 || hasL (st.P k).ac s) = true := rfl
      simp only [h4, h5, Bool.false_eq_true, if_false, if_true]
      rw [upd_self]
      exact ⟨trivial, h, hI⟩
    · have hp : accept (st.I s) (st.P k).B (st.P k).C = (⟨(st.P k).B, (st.P k).B, (st.P k).C, false⟩, msgOf 15 (st.P k).B st0 cmdZ, !(stampEq (st.I s).Promised (st.P k).B && stampEq (st.I s).Accepted (st.P k).B && cmdEq (st.I s).Command (st.P k).C)) := by unfold accept; rw [hr]; rfl
      rw [hp]
      have h4 : ((msgOf 15 (st.P k).B st0 cmdZ).Kind == 16 && !cmdEq (msgOf 15 (st.P k).B st0 cmdZ).Command st.D) = false := rfl
      have h5 : ((msgOf 15 (st.P k).B st0 cmdZ).Kind != 15 || hasL (st.P k).ac s) = hasL (st.P k).ac s := rfl
      have hI1 := inv_took hI hk hc hd (above_false.1 ha)
      simp only [h4, h5, Bool.false_eq_true, if_false]
      cases hn : hasL (st.P k).ac s with
      | true => simp only [if_true]; exact ⟨trivial, _, hI1⟩
      | false =>
        simp only [Bool.false_eq_true, if_false]
        have hm : (st.P k).B ∈ upd2 h s (st.P k).B s := by unfold upd2; rw [upd_at]; exact List.mem_cons_self
        by_cases hl : ((st.P k).ac ++ [(s : Int)]).length < F + 1
        · rw [if_pos hl]
          exact ⟨rfl, _, (inv_acc hI1 hk hs hc hn hm (D := st.D) (.inl ⟨hl, rfl⟩)).1⟩
        · rw [if_neg hl]
          obtain ⟨g1, g2⟩ := inv_acc hI1 hk hs hc hn hm (D := if st.D.Kind == 0 then (st.P k).C else st.D) (.inr ⟨by show F + 1 ≤ _; dsimp only; omega, rfl⟩)
          exact ⟨g2 (by dsimp only; omega), _, g1⟩

def learnS (st : PS) (s : Nat) : PS × Bool :=
  ({ st with I := upd st.I s (learned (st.I s) st.D).1 }, (learned (st.I s) st.D).1.Decided && cmdEq (learned (st.I s) st.D).1.Command st.D)

theorem inv_learn {F : Nat} {st : PS} {h : Nat → List GStamp} (hI : Inv F st h) (s : Nat) (hD : st.D.Kind ≠ 0) : (learnS st s).2 = true ∧ Inv F (learnS st s).1 h := by
  unfold learnS learned
  cases hd : (st.I s).Decided with
  | true =>
    obtain ⟨h1, h2⟩ := hI.known s hd
    simp only [if_true]
    rw [upd_self]
    exact ⟨by rw [hd, cmdEq_iff.2 h2]; rfl, hI⟩
  | false =>
    simp only [Bool.false_eq_true, if_false]
    refine ⟨by rw [cmdEq_iff.2 rfl]; rfl, ?_⟩
    have hx : ∀ t, (t ≠ s ∧ upd st.I s ⟨st0, st0, st.D, true⟩ t = st.I t) ∨ (t = s ∧ upd st.I s ⟨st0, st0, st.D, true⟩ t = ⟨st0, st0, st.D, true⟩) := by
      intro t
      by_cases hts : t = s
      · exact .inr ⟨hts, by rw [hts, upd_at]⟩
      · exact .inl ⟨hts, upd_ne _ _ hts⟩
    refine ⟨hI.ball, hI.uniq, hI.prN, hI.acN, hI.chos, hI.acH, hI.hist, fun t ht => ?_, fun t ht => ?_, fun i hi t ht => ⟨fun hdt => ?_, (hI.prom i hi t ht).2⟩, hI.held, hI.kind, hI.deci, hI.none, fun t ht => ?_⟩
    · dsimp only at ht ⊢
      rcases hx t with ⟨h1, h2⟩ | ⟨h1, h2⟩ <;> rw [h2] at ht ⊢
      · exact hI.accd t ht
      · cases ht
    · dsimp only at ht ⊢
      rcases hx t with ⟨h1, h2⟩ | ⟨h1, h2⟩ <;> rw [h2] at ht ⊢
      · exact hI.accm t ht
      · cases ht
    · dsimp only at hdt ⊢
      rcases hx t with ⟨h1, h2⟩ | ⟨h1, h2⟩ <;> rw [h2] at hdt ⊢
      · exact (hI.prom i hi t ht).1 hdt
      · cases hdt
    · dsimp only at ht ⊢
      rcases hx t with ⟨h1, h2⟩ | ⟨h1, h2⟩ <;> rw [h2] at ht ⊢
      · exact hI.known t ht
      · exact ⟨hD, rfl⟩

def instZ : GInst := ⟨st0, st0, cmdZ, false⟩
def PS0 : PS := ⟨0, fun _ => default, fun _ => instZ, cmdZ⟩
theorem inv_start (F : Nat) : Inv F PS0 (fun _ => []) :=
  ⟨fun i hi => absurd hi (Nat.not_lt_zero i), fun i j hi => absurd hi (Nat.not_lt_zero i), fun i hi => absurd hi (Nat.not_lt_zero i), fun i hi => absurd hi (Nat.not_lt_zero i), fun i hi => absurd hi (Nat.not_lt_zero i), fun i hi => absurd hi (Nat.not_lt_zero i),
    fun s b hb => absurd hb List.not_mem_nil, fun s _ => .inl ⟨rfl, rfl⟩, fun s _ => ⟨fun b hb => absurd hb List.not_mem_nil, GStamp.le_refl _⟩, fun i hi => absurd hi (Nat.not_lt_zero i), fun i hi => absurd hi (Nat.not_lt_zero i), fun i hi => absurd hi (Nat.not_lt_zero i), fun h => absurd rfl h, fun _ i hi => absurd hi (Nat.not_lt_zero i), fun s h => by cases h⟩
end Go.Acc
