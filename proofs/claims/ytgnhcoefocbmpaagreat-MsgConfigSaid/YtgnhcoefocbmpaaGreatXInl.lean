/- A call that is run through: the body of the callee in the place of a contract. -/
import Derived.Test.YtgnhcoefocbmpaaGreatXSV
set_option linter.unusedSimpArgs false
set_option linter.unusedSectionVars false
set_option linter.unusedVariables false
namespace Go.X
open Go
variable [WI]
variable {P : Program}

/-- the callee's body, run where it is called -/
def inl (P : Program) (C : Ctx) (n : Nat) (fn : Func) : CallS := fun args V K => XF P C n fn args V K

theorem inl_ok {C : Ctx} {f : FuncId} {fn : Func} {c : Code} (hC : CtxOK P C) (n : Nat) (hc : Callable P f) (hf : P.funcs[f]? = some fn) (hb : fn.body = some c) (hB : BlksOK P C c) : CallOK P f (inl P C n fn) :=
  ⟨hc, fun args V K h => of_run hC hf hb hB ⟨h⟩⟩
end Go.X
