/- A run in which every call is run through: functions of a list, to a depth. -/
import Derived.Test.YtgnhcoefocbmpaaGreatXInl
set_option linter.unusedSimpArgs false
set_option linter.unusedSectionVars false
set_option linter.unusedVariables false
namespace Go.X
open Go
variable [WI]
variable {P : Program}

abbrev ExtS := List Value → Res

/-- the context in which the functions of a list are run through, k deep -/
def runC (P : Program) (fns : List (Nat × Func)) (fs : List (Nat × FnS)) (xs : List (Nat × ExtS)) : Nat → Ctx
  | 0 => ⟨true, lookA fs, fun _ => none, fun _ => none, lookA xs⟩
  | k + 1 => ⟨true, lookA fs, fun f => match lookA fns f with | some fn => some (inl P (runC P fns fs xs k) 1000000 fn) | none => none, fun _ => none, lookA xs⟩

/-- the functions of the list are the program's -/
inductive FnsOK (P : Program) : List (Nat × Func) → Prop
  | nil : FnsOK P []
  | cons {f fn l} : P.funcs[f]? = some fn → fn.body.isSome = true → (fn.name == "runtime.NumGoroutine") = false → FnsOK P l → FnsOK P ((f, fn) :: l)
inductive AllX (P : Program) : List (Nat × ExtS) → Prop
  | nil : AllX P []
  | cons {f g l} : ExtOK P f g → AllX P l → AllX P ((f, g) :: l)

theorem FnsOK.look {fns : List (Nat × Func)} (h : FnsOK P fns) : ∀ f fn, lookA fns f = some fn → P.funcs[f]? = some fn ∧ fn.body.isSome = true ∧ (fn.name == "runtime.NumGoroutine") = false := by
  induction h with
  | nil => intro f g h; simp [lookA] at h
  | cons h1 h2 h3 _ ih =>
    intro f g h
    unfold lookA at h
    split at h
    · rename_i hb
      cases h
      have := Nat.eq_of_beq_eq_true hb
      subst this
      exact ⟨h1, h2, h3⟩
    · exact ih f g h
theorem AllX.look {xs : List (Nat × ExtS)} (h : AllX P xs) : ∀ f g, lookA xs f = some g → ExtOK P f g := by
  induction h with
  | nil => intro f g h; simp [lookA] at h
  | cons h1 _ ih =>
    intro f g h
    unfold lookA at h
    split at h
    · rename_i hb
      cases h
      have := Nat.eq_of_beq_eq_true hb
      subst this
      exact h1
    · exact ih f g h
theorem AllF.look {l : List (Nat × FnS)} (h : AllF P l) : ∀ f g, lookA l f = some g → FnOK P f g := by
  induction h with
  | nil => intro f g h; simp [lookA] at h
  | cons h1 _ ih =>
    intro f g h
    unfold lookA at h
    split at h
    · rename_i hb
      cases h
      have := Nat.eq_of_beq_eq_true hb
      subst this
      exact h1
    · exact ih f g h

theorem runC_ok {fns : List (Nat × Func)} {fs : List (Nat × FnS)} {xs : List (Nat × ExtS)} (hn : FnsOK P fns) (hf : AllF P fs) (hx : AllX P xs) : ∀ k, CtxOK P (runC P fns fs xs k)
  | 0 => ⟨hf.look, (fun f T h => nomatch h), hx.look⟩
  | k + 1 => ⟨hf.look, (fun f T h => by
      have h' : (match lookA fns f with | some fn => some (inl P (runC P fns fs xs k) 1000000 fn) | none => none) = some T := h
      split at h'
      · rename_i fn hfn
        cases h'
        obtain ⟨h1, h2, h3⟩ := hn.look f fn hfn
        obtain ⟨c, hc⟩ := Option.isSome_iff_exists.1 h2
        exact inl_ok (runC_ok hn hf hx k) 1000000 ⟨fn, h1, h2, h3⟩ h1 hc (BlksOK.none fun _ => by cases k <;> rfl)
      · cases h'), hx.look⟩
end Go.X
