/- Quoted bytes: what they are, and that the reader gives them back; plain Lean. -/
import Derived.Test.YtlnmampbiapglaaDoorShG
set_option linter.unusedSimpArgs false
set_option linter.unusedSectionVars false
set_option linter.unusedVariables false
namespace Go.Sh
open Go Go.X Go.Proofs
variable [WI]

def hexD (n : Nat) : UInt8 := UInt8.ofNat (if n < 10 then 48 + n else 87 + n)
/-- a byte in a quoted word -/
def qb (c : UInt8) : List UInt8 :=
  if c = 34 ∨ c = 92 then [92, c] else if c = 10 then [92, 110] else if c = 9 then [92, 116]
  else if c.toNat < 32 ∨ 126 < c.toNat then [92, 120, hexD (c.toNat / 16), hexD (c.toNat % 16)] else [c]
def qbs : List UInt8 → List UInt8
  | [] => []
  | c :: cs => qb c ++ qbs cs
def quoteL (l : List UInt8) : List UInt8 := 34 :: (qbs l ++ [34])

theorem qb_len (c : UInt8) : (qb c).length ≤ 4 := by
  unfold qb
  (repeat' split) <;> simp
theorem qbs_app : ∀ (l r : List UInt8), qbs (l ++ r) = qbs l ++ qbs r
  | [], r => rfl
  | c :: l, r => by simp [qbs, qbs_app l r]
theorem qbs_len : ∀ l : List UInt8, (qbs l).length ≤ 4 * l.length
  | [] => by simp [qbs]
  | c :: l => by
    have := qb_len c
    have := qbs_len l
    simp only [qbs, List.length_append, List.length_cons]
    omega

theorem hexD_facts : ∀ n : Fin 16, 0 ≤ hexI ((hexD n.val).toNat : Int) ∧ hexI ((hexD n.val).toNat : Int) = n.val := by decide +kernel

theorem runL_qb (c : UInt8) (rest : List UInt8) (W : List UInt8) (Ws : List ByteArray) (D : Int) :
    ∃ D', runL (qb c ++ rest) ⟨2, W, Ws, D, false⟩ = runL rest ⟨2, W ++ [c], Ws, D', false⟩ := by
  unfold qb
  split
  · rename_i h
    refine ⟨D, ?_⟩
    rcases h with h | h <;> subst h <;> simp [runL, stepNext, stepEsc]
  · rename_i h0
    split
    · rename_i h; subst h
      exact ⟨D, by simp [runL, stepNext, stepEsc]⟩
    · split
      · rename_i h; subst h
        exact ⟨D, by simp [runL, stepNext, stepEsc]⟩
      · split
        · have h1 := hexD_facts ⟨c.toNat / 16, by have := c.toNat_lt; omega⟩
          have h2 := hexD_facts ⟨c.toNat % 16, by omega⟩
          simp only at h1 h2
          have e1 : ¬ hexI ((hexD (c.toNat / 16)).toNat : Int) < 0 := by omega
          have e2 : ¬ hexI ((hexD (c.toNat % 16)).toNat : Int) < 0 := by omega
          have hv : byteI (16 * ((c.toNat / 16 : Nat) : Int) + ((c.toNat % 16 : Nat) : Int)) = c := by
            apply UInt8.toNat_inj.1
            have := byteI_nat (16 * ((c.toNat / 16 : Nat) : Int) + ((c.toNat % 16 : Nat) : Int))
            have := c.toNat_lt
            omega
          refine ⟨hexI ((hexD (c.toNat / 16)).toNat : Int), ?_⟩
          have a1 : ¬ ((c.toNat : Int) / 16 < 0) := by omega
          have a2 : ¬ ((c.toNat : Int) % 16 < 0) := by omega
          have a3 : (0 : Int) ≤ (c.toNat : Int) / 16 := by omega
          have a4 : (0 : Int) ≤ (c.toNat : Int) % 16 := by omega
          have hv' : byteI (16 * ((c.toNat : Int) / 16) + (c.toNat : Int) % 16) = c := by
            have e : (16 * ((c.toNat : Int) / 16) + (c.toNat : Int) % 16) = 16 * ((c.toNat / 16 : Nat) : Int) + ((c.toNat % 16 : Nat) : Int) := by omega
            rw [e, hv]
          simp [runL, stepNext, stepEsc, e1, e2, h1.2, h2.2, a1, a2, a3, a4, hv']
        · rename_i h10 h9 hr
          refine ⟨D, ?_⟩
          have h34 : ¬ c = 34 := fun h => h0 (.inl h)
          have h92 : ¬ c = 92 := fun h => h0 (.inr h)
          simp [runL, stepNext, h34, h92]

theorem runL_qbs : ∀ (l rest : List UInt8) (W : List UInt8) (Ws : List ByteArray) (D : Int), ∃ D', runL (qbs l ++ rest) ⟨2, W, Ws, D, false⟩ = runL rest ⟨2, W ++ l, Ws, D', false⟩
  | [], rest, W, Ws, D => ⟨D, by simp [qbs]⟩
  | c :: l, rest, W, Ws, D => by
    obtain ⟨D1, h1⟩ := runL_qb c (qbs l ++ rest) W Ws D
    obtain ⟨D2, h2⟩ := runL_qbs l rest (W ++ [c]) Ws D1
    refine ⟨D2, ?_⟩
    rw [qbs, List.append_assoc, h1, h2]
    simp

/-- the reader gives the bytes back -/
theorem ref_quote (s : ByteArray) (l : List UInt8) (h : bytesL s = quoteL l) : refOut s = some [⟨l.toArray⟩] := by
  obtain ⟨D, hD⟩ := runL_qbs l [34] [] [] 0
  have h1 : runL (bytesL s) rs0 = ⟨6, [], [⟨l.toArray⟩], D, false⟩ := by
    rw [h, quoteL]
    have : runL (34 :: (qbs l ++ [34])) rs0 = runL (qbs l ++ [34]) ⟨2, [], [], 0, false⟩ := by simp [runL, rs0, stepNext]
    rw [this, hD]
    simp [runL, stepNext, stepEnds]
  have h2 : refOut s = (fun σ : RS => let σ := if σ.In = 1 then stepEnds σ 0 else σ; if σ.B = true ∨ (2 ≤ σ.In ∧ σ.In ≤ 5) then none else some σ.Ws) (runL (bytesL s) rs0) := rfl
  rw [h2, h1]
  simp
end Go.Sh
