/- Plain laws: the document's reader, and what the shell's own one does. No program is in sight. -/
import Derived.Test.YtlnmampbiapglaaDoorShI
set_option linter.unusedSimpArgs false
set_option linter.unusedSectionVars false
set_option linter.unusedVariables false
namespace Go.Sh
open Go Go.X Go.Proofs

def finR (σ : RS) : Option (List ByteArray) :=
  let σ := if σ.In = 1 then stepEnds σ 0 else σ
  if σ.B = true ∨ (2 ≤ σ.In ∧ σ.In ≤ 5) then none else some σ.Ws
theorem refOut_fin (s : ByteArray) : refOut s = finR (runL (bytesL s) rs0) := rfl

def special (c : UInt8) : Prop := c = 32 ∨ c = 9
def plainL (ws : List ByteArray) (w : List UInt8) : List ByteArray := if w = [] then ws else ws ++ [⟨w.toArray⟩]
def blankHead (l : List UInt8) : Prop := match l with | [] => True | c :: _ => c = 32 ∨ c = 9

theorem runL_bad (l : List UInt8) (σ : RS) (h : σ.B = true) : runL l σ = σ := by cases l <;> simp [runL, h]
theorem finR_bad (σ : RS) (h : σ.B = true) : finR σ = none := by
  unfold finR
  simp only
  rw [if_pos]
  left
  split
  · simp [stepEnds, h]
  · exact h
theorem run_cons (c : UInt8) (l : List UInt8) (σ : RS) (h : σ.B = false) : runL (c :: l) σ = runL l (stepNext σ c) := by simp [runL, h]

theorem run_comment (l : List UInt8) (W : List UInt8) (ws : List ByteArray) (D : Int) : runL l ⟨7, W, ws, D, false⟩ = ⟨7, W, ws, D, false⟩ := by
  induction l with
  | nil => rfl
  | cons c l ih => rw [run_cons c l _ rfl]; simpa [stepNext] using ih

theorem step_blank0 (c : UInt8) (h : c = 32 ∨ c = 9) (ws : List ByteArray) (D : Int) : stepNext ⟨0, [], ws, D, false⟩ c = ⟨0, [], ws, D, false⟩ := by simp [stepNext, h]
theorem step_blank6 (c : UInt8) (h : c = 32 ∨ c = 9) (ws : List ByteArray) (D : Int) : stepNext ⟨6, [], ws, D, false⟩ c = ⟨0, [], ws, D, false⟩ := by simp [stepNext, h]
theorem step_blank1 (c : UInt8) (h : c = 32 ∨ c = 9) (W : List UInt8) (ws : List ByteArray) (D : Int) : stepNext ⟨1, W, ws, D, false⟩ c = ⟨0, [], ws ++ [⟨W.toArray⟩], D, false⟩ := by simp [stepNext, h, stepEnds]
theorem step_comment (ws : List ByteArray) (D : Int) : stepNext ⟨0, [], ws, D, false⟩ 35 = ⟨7, [], ws, D, false⟩ := by simp [stepNext]
theorem step_quote0 (ws : List ByteArray) (D : Int) : stepNext ⟨0, [], ws, D, false⟩ 34 = ⟨2, [], ws, D, false⟩ := by simp [stepNext]
theorem step_quote1 (W : List UInt8) (ws : List ByteArray) (D : Int) : (stepNext ⟨1, W, ws, D, false⟩ 34).B = true := by simp [stepNext]
theorem step_other0 (c : UInt8) (h : ¬ (c = 32 ∨ c = 9)) (h2 : c ≠ 35) (h3 : c ≠ 34) (ws : List ByteArray) (D : Int) : stepNext ⟨0, [], ws, D, false⟩ c = ⟨1, [c], ws, D, false⟩ := by simp [stepNext, h, h2, h3]
theorem step_other1 (c : UInt8) (h : ¬ (c = 32 ∨ c = 9)) (h3 : c ≠ 34) (W : List UInt8) (ws : List ByteArray) (D : Int) : stepNext ⟨1, W, ws, D, false⟩ c = ⟨1, W ++ [c], ws, D, false⟩ := by simp [stepNext, h, h3]
theorem step_bad6 (c : UInt8) (h : ¬ (c = 32 ∨ c = 9)) (ws : List ByteArray) (D : Int) : (stepNext ⟨6, [], ws, D, false⟩ c).B = true := by simp [stepNext, h]

/-- a stretch of bytes that are none of those that part words -/
theorem run_others (l : List UInt8) : ∀ (m W : List UInt8) (ws : List ByteArray) (D : Int), (∀ c ∈ m, ¬ (c = 32 ∨ c = 9) ∧ c ≠ 34) → runL (m ++ l) ⟨1, W, ws, D, false⟩ = runL l ⟨1, W ++ m, ws, D, false⟩
  | [], W, ws, D, h => by simp
  | c :: m, W, ws, D, h => by
    obtain ⟨h1, h2⟩ := h c (by simp)
    rw [List.cons_append, run_cons c _ _ rfl, step_other1 c h1 h2, run_others l m (W ++ [c]) ws D (fun x hx => h x (by simp [hx]))]
    simp

theorem hexI_nonneg {c : UInt8} (h : isHex c = true) : ¬ hexI c.toNat < 0 := by simp [isHex] at h; omega
theorem hexI_neg {c : UInt8} (h : isHex c = false) : hexI c.toNat < 0 := by simp [isHex] at h; omega

/-- a quoted word: the reader's run and the function -/
theorem quot_run (ws : List ByteArray) : ∀ (k : Nat) (l acc : List UInt8) (D : Int), l.length ≤ k →
    match quotF k l acc with
    | some (w, left) => ∃ D', runL l ⟨2, acc, ws, D, false⟩ = runL left ⟨6, [], ws ++ [⟨w.toArray⟩], D', false⟩
    | none => finR (runL l ⟨2, acc, ws, D, false⟩) = none
  | 0, l, acc, D, h => by
    have : l = [] := List.length_eq_zero_iff.1 (by omega)
    subst this
    simp [quotF, runL, finR]
  | k + 1, [], acc, D, h => by simp [quotF, runL, finR]
  | k + 1, c :: r, acc, D, h => by
    have ih := quot_run ws k
    simp only [List.length_cons] at h
    by_cases h34 : c = 34
    · subst h34
      simp only [quotF, if_true]
      refine ⟨D, ?_⟩
      rw [run_cons _ _ _ rfl]
      simp [stepNext, stepEnds]
    by_cases h92 : c = 92
    · subst h92
      have e1 : runL (92 :: r) ⟨2, acc, ws, D, false⟩ = runL r ⟨3, acc, ws, D, false⟩ := by rw [run_cons _ _ _ rfl]; simp [stepNext]
      rw [e1]
      simp only [quotF, if_neg (show ¬ (92 : UInt8) = 34 by decide), if_true]
      cases r with
      | nil => simp [escF, runL, finR]
      | cons d r' =>
        rw [run_cons d r' _ rfl]
        have e3 : stepNext ⟨3, acc, ws, D, false⟩ d = stepEsc ⟨3, acc, ws, D, false⟩ d := by simp [stepNext]
        rw [e3]
        simp only [List.length_cons] at h
        by_cases d34 : d = 34
        · subst d34
          simp only [escF, if_true, List.drop_succ_cons, List.drop_zero]
          rw [if_neg (by decide)]
          have := ih r' (acc ++ [34]) D (by omega)
          simpa [stepEsc] using this
        by_cases d92 : d = 92
        · subst d92
          simp only [escF, if_neg (show ¬ (92 : UInt8) = 34 by decide), if_true, List.drop_succ_cons, List.drop_zero]
          rw [if_neg (by decide)]
          have := ih r' (acc ++ [92]) D (by omega)
          simpa [stepEsc] using this
        by_cases d110 : d = 110
        · subst d110
          simp only [escF, if_neg (show ¬ (110 : UInt8) = 34 by decide), if_neg (show ¬ (110 : UInt8) = 92 by decide), if_true, List.drop_succ_cons, List.drop_zero]
          rw [if_neg (by decide)]
          have := ih r' (acc ++ [10]) D (by omega)
          simpa [stepEsc] using this
        by_cases d116 : d = 116
        · subst d116
          simp only [escF, if_neg (show ¬ (116 : UInt8) = 34 by decide), if_neg (show ¬ (116 : UInt8) = 92 by decide), if_neg (show ¬ (116 : UInt8) = 110 by decide), if_true, List.drop_succ_cons, List.drop_zero]
          rw [if_neg (by decide)]
          have := ih r' (acc ++ [9]) D (by omega)
          simpa [stepEsc] using this
        by_cases d120 : d = 120
        · subst d120
          have e4 : stepEsc ⟨3, acc, ws, D, false⟩ 120 = ⟨4, acc, ws, D, false⟩ := by simp [stepEsc]
          rw [e4]
          simp only [escF, if_neg (show ¬ (120 : UInt8) = 34 by decide), if_neg (show ¬ (120 : UInt8) = 92 by decide), if_neg (show ¬ (120 : UInt8) = 110 by decide), if_neg (show ¬ (120 : UInt8) = 116 by decide), if_true]
          cases r' with
          | nil => simp [runL, finR]
          | cons x r2 =>
            rw [run_cons x r2 _ rfl]
            have e5 : stepNext ⟨4, acc, ws, D, false⟩ x = ⟨5, acc, ws, hexI x.toNat, decide (hexI x.toNat < 0)⟩ := by simp [stepNext]
            rw [e5]
            cases r2 with
            | nil =>
              simp only [if_true]
              cases hx : decide (hexI x.toNat < 0) with
              | true => rw [runL_bad _ _ rfl]; exact finR_bad _ rfl
              | false => simp [runL, finR]
            | cons y r3 =>
              dsimp only
              by_cases hx : isHex x = true
              · have hxn : decide (hexI x.toNat < 0) = false := by simpa using hexI_nonneg hx
                rw [hxn, run_cons y r3 _ rfl]
                by_cases hy : isHex y = true
                · have hyn := hexI_nonneg hy
                  have e6 : stepNext ⟨5, acc, ws, hexI x.toNat, false⟩ y = ⟨2, acc ++ [byteI (16 * hexI x.toNat + hexI y.toNat)], ws, hexI x.toNat, false⟩ := by simp [stepNext, hyn]
                  rw [e6]
                  simp only [hx, hy, and_self, if_true]
                  rw [if_neg (by decide)]
                  have := ih r3 (acc ++ [byteI (16 * hexI x.toNat + hexI y.toNat)]) (hexI x.toNat) (by simp at h; omega)
                  simpa using this
                · have hyn := hexI_neg (c := y) (by simpa using hy)
                  have e6 : (stepNext ⟨5, acc, ws, hexI x.toNat, false⟩ y).B = true := by simp [stepNext, hyn]
                  simp only [hx, hy, and_false, Bool.false_eq_true, if_false, if_true]
                  rw [runL_bad _ _ e6]; exact finR_bad _ e6
              · have hxn : decide (hexI x.toNat < 0) = true := by simpa using hexI_neg (c := x) (by simpa using hx)
                rw [hxn, runL_bad _ _ rfl]
                simp only [hx, false_and, Bool.false_eq_true, if_false, if_true]
                exact finR_bad _ rfl
        · have e4 : (stepEsc ⟨3, acc, ws, D, false⟩ d).B = true := by simp [stepEsc, d34, d92, d110, d116, d120]
          simp only [escF, d34, d92, d110, d116, d120, if_false, if_true]
          rw [runL_bad _ _ e4]; exact finR_bad _ e4
    · simp only [quotF, h34, h92, if_false]
      rw [run_cons _ _ _ rfl]
      have e1 : stepNext ⟨2, acc, ws, D, false⟩ c = ⟨2, acc ++ [c], ws, D, false⟩ := by simp [stepNext, h34, h92]
      rw [e1]
      exact ih r (acc ++ [c]) D (by omega)

/-- what a rune of a string is: one byte below 128, or bytes that are none -/
theorem decode_kind (s : ByteArray) (pos : Nat) (h : pos < (bytesL s).length) :
    ((bytesL s)[pos].toNat < 128 ∧ Utf8.decode s pos = ((bytesL s)[pos].toNat, 1)) ∨
    (128 ≤ (Utf8.decode s pos).1 ∧ 1 ≤ (Utf8.decode s pos).2 ∧ pos + (Utf8.decode s pos).2 ≤ (bytesL s).length ∧ ∀ j (hj : j < (bytesL s).length), pos ≤ j → j < pos + (Utf8.decode s pos).2 → 128 ≤ (bytesL s)[j].toNat) := by
  have hget : ∀ k (hk : pos + k < (bytesL s).length), (s.get! (pos + k)).toNat = ((bytesL s)[pos + k]).toNat := by
    intro k hk
    have h1 : pos + k < s.data.size := hk
    simp only [ByteArray.get!, bytesL, Array.getElem_toList]
    rw [getElem!_pos s.data (pos + k) h1]
  have hsz : s.size = (bytesL s).length := rfl
  have h0 := hget 0 h
  simp only [Nat.add_zero] at h0
  have hcont : ∀ k, (decide (pos + k < s.size) && (s.get! (pos + k)).toNat / 64 == 2) = true → ∃ hk : pos + k < (bytesL s).length, 128 ≤ ((bytesL s)[pos + k]).toNat := by
    intro k hk
    rw [Bool.and_eq_true, decide_eq_true_eq, beq_iff_eq] at hk
    have hk1 : pos + k < (bytesL s).length := hk.1
    refine ⟨hk1, ?_⟩
    have := hget k hk1
    omega
  by_cases hb : (bytesL s)[pos].toNat < 128
  · left
    refine ⟨hb, ?_⟩
    unfold Utf8.decode
    simp only [Nat.add_zero, h0, hb, if_true]
  · right
    have h128 : 128 ≤ (bytesL s)[pos].toNat := by omega
    have one : ∀ (c : Nat), 128 ≤ c → 128 ≤ (c, 1).1 ∧ 1 ≤ (c, 1).2 ∧ pos + (c, 1).2 ≤ (bytesL s).length ∧ ∀ j (hj : j < (bytesL s).length), pos ≤ j → j < pos + (c, 1).2 → 128 ≤ (bytesL s)[j].toNat := by
      intro c hc
      refine ⟨hc, Nat.le_refl _, h, fun j hj h1 h2 => ?_⟩
      have : j = pos := by simp at h2; omega
      subst this
      exact h128
    have re : 128 ≤ Utf8.runeError := by decide
    have many : ∀ (c n : Nat), 128 ≤ c → 1 ≤ n → (∀ k, k < n → k ≠ 0 → ∃ hk : pos + k < (bytesL s).length, 128 ≤ ((bytesL s)[pos + k]).toNat) →
        128 ≤ (c, n).1 ∧ 1 ≤ (c, n).2 ∧ pos + (c, n).2 ≤ (bytesL s).length ∧ ∀ j (hj : j < (bytesL s).length), pos ≤ j → j < pos + (c, n).2 → 128 ≤ (bytesL s)[j].toNat := by
      intro c n hc hn hall
      have key : ∀ k, k < n → ∃ hk : pos + k < (bytesL s).length, 128 ≤ ((bytesL s)[pos + k]).toNat := by
        intro k hk
        by_cases hk0 : k = 0
        · subst hk0; exact ⟨h, h128⟩
        · exact hall k hk hk0
      refine ⟨hc, hn, ?_, fun j hj h1 h2 => ?_⟩
      · obtain ⟨h1, _⟩ := key (n - 1) (by omega)
        simp; omega
      · obtain ⟨h3, h4⟩ := key (j - pos) (by simp at h2; omega)
        have : pos + (j - pos) = j := by omega
        simpa [this] using h4
    unfold Utf8.decode
    simp only [Nat.add_zero, h0, hb, if_false]
    split
    · rename_i h2
      rw [Bool.and_eq_true] at h2
      split
      · exact many _ 2 (by omega) (by omega) fun k hk hk0 => by
          have : k = 1 := by omega
          subst this; exact hcont 1 h2.2
      · exact one _ re
    · split
      · rename_i h2
        rw [Bool.and_eq_true, Bool.and_eq_true] at h2
        split
        · rename_i hc
          rw [Bool.and_eq_true, decide_eq_true_eq] at hc
          exact many _ 3 (by omega) (by omega) fun k hk hk0 => by
            rcases (show k = 1 ∨ k = 2 by omega) with rfl | rfl
            · exact hcont 1 h2.1.2
            · exact hcont 2 h2.2
        · exact one _ re
      · split
        · rename_i h2
          rw [Bool.and_eq_true, Bool.and_eq_true, Bool.and_eq_true] at h2
          split
          · rename_i hc
            rw [Bool.and_eq_true, decide_eq_true_eq] at hc
            exact many _ 4 (by omega) (by omega) fun k hk hk0 => by
              rcases (show k = 1 ∨ k = 2 ∨ k = 3 by omega) with rfl | rfl | rfl
              · exact hcont 1 h2.1.1.2
              · exact hcont 2 h2.1.2
              · exact hcont 3 h2.2
          · exact one _ re
        · exact one _ re

/-! ### A line, from some place of it on -/
def innSt (l : List UInt8) (pos : Nat) (ap : Bool) (ws : List ByteArray) (D : Int) : RS :=
  if pos = 0 then ⟨if ap = true then 0 else 6, [], ws, D, false⟩ else ⟨1, l.take pos, ws, D, false⟩

theorem innSt_B (l : List UInt8) (pos : Nat) (ap : Bool) (ws : List ByteArray) (D : Int) : (innSt l pos ap ws D).B = false := by
  unfold innSt; split <;> rfl

theorem law_blank {L : List UInt8} {pos : Nat} {ap : Bool} {ws : List ByteArray} {D : Int} (hlt : pos < L.length) (hb : L[pos] = 32 ∨ L[pos] = 9) :
    runL (L.drop pos) (innSt L pos ap ws D) = runL (L.drop (pos + 1)) ⟨0, [], plainL ws (L.take pos), D, false⟩ := by
  rw [List.drop_eq_getElem_cons hlt, run_cons _ _ _ (innSt_B ..)]
  congr 1
  unfold innSt
  by_cases h0 : pos = 0
  · subst h0
    simp only [if_true, List.take_zero, plainL]
    cases ap with
    | true => simpa using step_blank0 _ hb ws D
    | false => simpa using step_blank6 _ hb ws D
  · rw [if_neg h0, step_blank1 _ hb]
    have : L.take pos ≠ [] := by
      intro h
      have := congrArg List.length h
      rw [List.length_take, List.length_nil] at this
      omega
    simp [plainL, this]

theorem law_comment {L : List UInt8} {ws : List ByteArray} {D : Int} (hlt : 0 < L.length) (hc : L[0] = 35) : finR (runL (L.drop 0) (innSt L 0 true ws D)) = some ws := by
  rw [List.drop_eq_getElem_cons hlt, run_cons _ _ _ (innSt_B ..), hc]
  simp only [innSt, if_true]
  rw [step_comment, run_comment]
  simp [finR]

theorem law_bad {L : List UInt8} {pos : Nat} {ap : Bool} {ws : List ByteArray} {D : Int} (hlt : pos < L.length) (h0 : pos ≠ 0) (hc : L[pos] = 34) : finR (runL (L.drop pos) (innSt L pos ap ws D)) = none := by
  rw [List.drop_eq_getElem_cons hlt, run_cons _ _ _ (innSt_B ..), hc]
  unfold innSt
  rw [if_neg h0, runL_bad _ _ (step_quote1 ..)]
  exact finR_bad _ (step_quote1 ..)

theorem law_quote_run {L : List UInt8} {ws : List ByteArray} {D : Int} (hlt : 0 < L.length) (hc : L[0] = 34) : runL (L.drop 0) (innSt L 0 true ws D) = runL (L.drop 1) ⟨2, [], ws, D, false⟩ := by
  rw [List.drop_eq_getElem_cons hlt, run_cons _ _ _ (innSt_B ..), hc]
  simp only [innSt, if_true]
  rw [step_quote0]

theorem law_quote_no {L : List UInt8} {ws : List ByteArray} {D : Int} {s : ByteArray} (hs : bytesL s = L.drop 1) (hlt : 0 < L.length) (hc : L[0] = 34) (hq : quotO s = none) : finR (runL (L.drop 0) (innSt L 0 true ws D)) = none := by
  rw [law_quote_run hlt hc]
  have := quot_run ws s.size (bytesL s) [] D (Nat.le_refl _)
  unfold quotO at hq
  rw [hq] at this
  rw [← hs]
  exact this

theorem law_quote_yes {L : List UInt8} {ws : List ByteArray} {D : Int} {s : ByteArray} (hs : bytesL s = L.drop 1) (hlt : 0 < L.length) (hc : L[0] = 34) {w left : List UInt8} (hq : quotO s = some (w, left)) :
    ∃ D', runL (L.drop 0) (innSt L 0 true ws D) = runL left ⟨6, [], ws ++ [⟨w.toArray⟩], D', false⟩ := by
  rw [law_quote_run hlt hc]
  have := quot_run ws s.size (bytesL s) [] D (Nat.le_refl _)
  unfold quotO at hq
  rw [hq] at this
  rw [← hs]
  exact this

theorem law_behind {left : List UInt8} {ws : List ByteArray} {D : Int} (h : ¬ blankHead left) : finR (runL left ⟨6, [], ws, D, false⟩) = none := by
  cases left with
  | nil => exact absurd trivial h
  | cons c l =>
    have hb : ¬ (c = 32 ∨ c = 9) := h
    rw [run_cons _ _ _ rfl, runL_bad _ _ (step_bad6 c hb ws D)]
    exact finR_bad _ (step_bad6 c hb ws D)

theorem law_skip {L : List UInt8} {pos w : Nat} {ws : List ByteArray} {D : Int} (hw : 1 ≤ w) (hle : pos + w ≤ L.length)
    (hall : ∀ j (hj : j < L.length), pos ≤ j → j < pos + w → ¬ (L[j] = 32 ∨ L[j] = 9) ∧ L[j] ≠ 34) (h35 : pos = 0 → ∀ h : 0 < L.length, L[0] ≠ 35) :
    runL (L.drop pos) (innSt L pos true ws D) = runL (L.drop (pos + w)) (innSt L (pos + w) true ws D) := by
  have hmem : ∀ (a n : Nat), pos ≤ a → a + n ≤ pos + w → ∀ c ∈ (L.drop a).take n, ¬ (c = 32 ∨ c = 9) ∧ c ≠ 34 := by
    intro a n ha hn c hc
    obtain ⟨i, hi, rfl⟩ := List.getElem_of_mem hc
    have hi' : i < n := by simp at hi; omega
    have hlen : a + i < L.length := by omega
    rw [List.getElem_take, List.getElem_drop]
    exact hall (a + i) hlen (by omega) (by omega)
  have hsplit : ∀ a n, L.drop a = (L.drop a).take n ++ L.drop (a + n) := by
    intro a n
    rw [← List.drop_drop, List.take_append_drop]
  have hend : innSt L (pos + w) true ws D = ⟨1, L.take (pos + w), ws, D, false⟩ := by unfold innSt; rw [if_neg (by omega)]
  rw [hend]
  by_cases h0 : pos = 0
  · subst h0
    have hlt : 0 < L.length := by omega
    obtain ⟨h1, h2⟩ := hall 0 hlt (Nat.le_refl _) (by omega)
    rw [List.drop_eq_getElem_cons hlt, run_cons _ _ _ (innSt_B ..)]
    simp only [innSt, if_true]
    rw [step_other0 _ h1 (h35 rfl hlt) h2]
    rw [Nat.zero_add] at *
    have ht : [L[0]] ++ (L.drop 1).take (w - 1) = L.take w := by
      have : L.take w = L.take 1 ++ (L.drop 1).take (w - 1) := by
        rw [← List.take_add, show 1 + (w - 1) = w by omega]
      rw [this]
      congr 1
      cases L with
      | nil => simp at hlt
      | cons a b => rfl
    rw [hsplit 1 (w - 1), run_others _ _ _ _ _ (hmem 1 (w - 1) (by omega) (by omega)), show 1 + (w - 1) = w by omega, ht]
    simp only [Nat.zero_add]
  · unfold innSt
    rw [if_neg h0, hsplit pos w, run_others _ _ _ _ _ (hmem pos w (by omega) (by omega)), ← List.take_add]

theorem law_stop {L : List UInt8} {pos : Nat} {ap : Bool} {ws : List ByteArray} {D : Int} (hge : L.length ≤ pos) (h0 : 0 < L.length) : finR (runL (L.drop pos) (innSt L pos ap ws D)) = some (plainL ws L) := by
  rw [List.drop_eq_nil_of_le hge]
  have hL : L ≠ [] := by intro h; subst h; simp at h0
  unfold innSt
  rw [if_neg (by omega), List.take_of_length_le hge]
  simp [runL, finR, stepEnds, plainL, hL]

theorem blankHead_cons {l : List UInt8} {h : 0 < l.length} : blankHead l ↔ (l[0] = 32 ∨ l[0] = 9) := by
  cases l with
  | nil => simp at h
  | cons a b => rfl

theorem quotF_le : ∀ (k : Nat) (l acc w left : List UInt8), quotF k l acc = some (w, left) → left.length ≤ l.length
  | 0, l, acc, w, left, h => by simp [quotF] at h
  | k + 1, [], acc, w, left, h => by simp [quotF] at h
  | k + 1, c :: r, acc, w, left, h => by
    unfold quotF at h
    split at h
    · simp at h; simp [h.2]
    · split at h
      · split at h
        · cases h
        · have := quotF_le k _ _ _ _ h
          simp at this ⊢; omega
      · have := quotF_le k _ _ _ _ h
        simp; omega
end Go.Sh
