/- Words quoted and put behind one another with blanks between, and a comment: the reader gives them back. Plain Lean. -/
import Derived.Test.YtlnmampbiapglaaDoorShJ2
set_option linter.unusedSimpArgs false
set_option linter.unusedSectionVars false
set_option linter.unusedVariables false
namespace Go.Sh
open Go Go.X Go.Proofs
variable [WI]

def joinL (W : Nat → List UInt8) : Nat → List UInt8
  | 0 => []
  | k + 1 => joinL W k ++ (32 :: quoteL (W k))
def wordsL (W : Nat → List UInt8) (k : Nat) : List ByteArray := (List.range k).map fun i => ⟨(W i).toArray⟩

theorem wordsL_succ (W : Nat → List UInt8) (k : Nat) : wordsL W (k + 1) = wordsL W k ++ [⟨(W k).toArray⟩] := by simp [wordsL, List.range_succ]

theorem run_join (W : Nat → List UInt8) : ∀ (k : Nat) (rest : List UInt8), ∃ (D I : Int), (I = 0 ∨ I = 6) ∧ runL (joinL W k ++ rest) rs0 = runL rest ⟨I, [], wordsL W k, D, false⟩
  | 0, rest => ⟨0, 0, .inl rfl, by simp [joinL, wordsL, rs0]⟩
  | k + 1, rest => by
    obtain ⟨D, I, hI, h⟩ := run_join W k (32 :: quoteL (W k) ++ rest)
    have e : joinL W (k + 1) ++ rest = joinL W k ++ (32 :: quoteL (W k) ++ rest) := by simp [joinL, List.append_assoc]
    rw [e, h]
    have h1 : runL (32 :: quoteL (W k) ++ rest) ⟨I, [], wordsL W k, D, false⟩ = runL (quoteL (W k) ++ rest) ⟨0, [], wordsL W k, D, false⟩ := by
      rw [List.cons_append, run_cons _ _ _ rfl]
      rcases hI with rfl | rfl
      · rw [step_blank0 32 (.inl rfl)]
      · rw [step_blank6 32 (.inl rfl)]
    have h2 : quoteL (W k) ++ rest = 34 :: (qbs (W k) ++ (34 :: rest)) := by simp [quoteL]
    rw [h1, h2, run_cons _ _ _ rfl, step_quote0]
    obtain ⟨D', h3⟩ := runL_qbs (W k) (34 :: rest) [] (wordsL W k) D
    rw [h3, run_cons _ _ _ rfl]
    refine ⟨D', 6, .inr rfl, ?_⟩
    rw [wordsL_succ]
    simp [stepNext, stepEnds]

theorem ref_join (W : Nat → List UInt8) (k : Nat) (c : List UInt8) (s : ByteArray) (h : bytesL s = joinL W k ++ (9 :: 35 :: c)) : refOut s = some (wordsL W k) := by
  obtain ⟨D, I, hI, h1⟩ := run_join W k (9 :: 35 :: c)
  have h2 : runL (bytesL s) rs0 = ⟨7, [], wordsL W k, D, false⟩ := by
    rw [h, h1, run_cons _ _ _ rfl]
    have h3 : stepNext ⟨I, [], wordsL W k, D, false⟩ 9 = ⟨0, [], wordsL W k, D, false⟩ := by
      rcases hI with rfl | rfl
      · rw [step_blank0 9 (.inr rfl)]
      · rw [step_blank6 9 (.inr rfl)]
    rw [h3, run_cons _ _ _ rfl, step_comment, run_comment]
  have h4 : refOut s = (fun σ : RS => let σ := if σ.In = 1 then stepEnds σ 0 else σ; if σ.B = true ∨ (2 ≤ σ.In ∧ σ.In ≤ 5) then none else some σ.Ws) (runL (bytesL s) rs0) := rfl
  rw [h4, h2]
  simp

theorem joinL_len (W : Nat → List UInt8) (k : Nat) : (joinL W (k + 1)).length ≤ (joinL W k).length + 3 + 4 * (W k).length := by
  have := qbs_len (W k)
  simp only [joinL, quoteL, List.length_append, List.length_cons, List.length_nil]
  omega
end Go.Sh
