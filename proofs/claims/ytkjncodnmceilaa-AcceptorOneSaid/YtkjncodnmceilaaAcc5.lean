/- A part of a proof: what is proved here is said at each theorem; it holds without any condition but those that the theorem names. -/
import Derived.Test.YtkjncodnmceilaaAcc4
import Derived.Test.YtkjncodnmceilaaXS10
set_option linter.unusedSimpArgs false
set_option linter.unusedVariables false
set_option linter.unusedSectionVars false
namespace Go.Acc
open Go Go.X Go.Proofs
variable [WI]

abbrev knownG := g0 (.bool true)
theorem known_ok : FnOK Try.prog 11 knownG := by
  refine FnOK.g0 (callable Try.func11 rfl (by decide +kernel)) _ rfl ?_
  refine of_run (ctxL_ok (.cons prepare16_ok .nil)) (n := 200) Try.func11 rfl .l ?_
  refine by_nf (B := Value.bool ((prepare (prepare { Promised := { N := (0 : Int), Client := (0 : Int) : GStamp }, Accepted := { N := (0 : Int), Client := (0 : Int) : GStamp }, Command := { Kind := (0 : Int), Client := (0 : Int), Op := (0 : Int), Name := { data := #[] : ByteArray }, File := { Client := (0 : Int), Op := (0 : Int) : GFile }, New := { Client := (0 : Int), Op := (0 : Int) : GFile }, Size := (0 : Int) : GCommand }, Decided := false : GInst } { N := (3 : Int), Client := (7 : Int) : GStamp }).fst { N := (2 : Int), Client := (9 : Int) : GStamp }).snd.fst.Stamp.N == (3 : Int) && ((prepare (prepare { Promised := { N := (0 : Int), Client := (0 : Int) : GStamp }, Accepted := { N := (0 : Int), Client := (0 : Int) : GStamp }, Command := { Kind := (0 : Int), Client := (0 : Int), Op := (0 : Int), Name := { data := #[] : ByteArray }, File := { Client := (0 : Int), Op := (0 : Int) : GFile }, New := { Client := (0 : Int), Op := (0 : Int) : GFile }, Size := (0 : Int) : GCommand }, Decided := false : GInst } { N := (3 : Int), Client := (7 : Int) : GStamp }).fst { N := (2 : Int), Client := (9 : Int) : GStamp }).snd.fst.Stamp.Client == (7 : Int) && true)) = Value.bool true) (by kernel_rfl) ?_
  kernel_rfl
end Go.Acc
