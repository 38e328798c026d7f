/-
  No cell of these rows narrows 'for every input' (looked for: loops, veiled, ifaces, maps, wideKeys, modest, calm, conditions, laid).
  DERIVED. THE GIVEN ROWS OF THIS SEAT. 7 by the template 'for every input the law returns true; each argument reads behind the call as it read before'; 0 by the template 'total and deterministic' (their statements: YtkjncodnmceilaaTotals.lean).
  GIVEN WITH THE SEED: the statements are not yours to turn. If you find one false, say at which input.
  Laid BY PROGRAM, IN A SANDBOX (cutbox-rows.mjs): the forced cells as the released guide's own fill.sh prints them over the translation 742f000a5deeac57… (all of the seat's roots in one cut). By AI agents, Wed Nov 11 2026. No macro, syntax, notation, axiom, sorry.
-/
import Derived.Test.YtkjncodnmceilaaChecked
import GoSem.Claim
import GoSem.ClaimJoined
import GoSem.ClaimMapViews
import Derived.JoinedTies
import Derived.KernelRfl
namespace Go.Proofs.Ytkjncodnmceilaa
/- THE CELL 'sum', in the pinned program and in every row, IS THE sha256 OF THE DUMP (.gsa) THAT YtkjncodnmceilaaProg.lean LOADS. Nothing in Lean hashes anything: it is a label: what it is worth is what the hold of that sum in a sandbox is worth. -/
noncomputable def Try.pinned : Pinned := { name := "ytkjncodnmceilaa", sum := "742f000a5deeac5718d213ff244d3538e5cf576e1e72c75a65530203297b3280", checked := Try.checked }
namespace Rows
def none {H : Type} : Left H := { results := [], args := [] }

/-- 'cairnlaw5.MsgNames': WHATEVER THE INPUT: true; the input reads as it did. -/
def msgNamesSpec : ChangeSpec := { name := "msgNames", fn := fun _ => fun
  | [] => { results := [.lit (.bool true)], args := [] }
  | _ => none }
def msgNamesRow : OpenClaim := { program := "ytkjncodnmceilaa", sum := "742f000a5deeac5718d213ff244d3538e5cf576e1e72c75a65530203297b3280", func := "cairn/cairnlaw5.MsgNames", spec := "msgNames", apart := false }
def MsgNamesSaid : Prop := msgNamesRow.holds Try.pinned (OpenSpec.ofChange msgNamesSpec)

/-- ITS FALSE NEIGHBOUR: 'it returns false'. Refute it at one input. -/
def msgNamesWrong : ChangeSpec := { name := "msgNames", fn := fun _ => fun
  | [] => { results := [.lit (.bool false)], args := [] }
  | _ => none }
def MsgNamesWrongFalsely : Prop := msgNamesRow.holds Try.pinned (OpenSpec.ofChange msgNamesWrong)

/-- 'cairnlaw19.AuditNames': WHATEVER THE INPUT: true; the input reads as it did. -/
def auditNamesSpec : ChangeSpec := { name := "auditNames", fn := fun _ => fun
  | [] => { results := [.lit (.bool true)], args := [] }
  | _ => none }
def auditNamesRow : OpenClaim := { program := "ytkjncodnmceilaa", sum := "742f000a5deeac5718d213ff244d3538e5cf576e1e72c75a65530203297b3280", func := "cairn/cairnlaw19.AuditNames", spec := "auditNames", apart := false }
def AuditNamesSaid : Prop := auditNamesRow.holds Try.pinned (OpenSpec.ofChange auditNamesSpec)

/-- ITS FALSE NEIGHBOUR: 'it returns false'. Refute it at one input. -/
def auditNamesWrong : ChangeSpec := { name := "auditNames", fn := fun _ => fun
  | [] => { results := [.lit (.bool false)], args := [] }
  | _ => none }
def AuditNamesWrongFalsely : Prop := auditNamesRow.holds Try.pinned (OpenSpec.ofChange auditNamesWrong)

/-- 'cairnlaw17.WorldNames': WHATEVER THE INPUT: true; the input reads as it did. -/
def worldNamesSpec : ChangeSpec := { name := "worldNames", fn := fun _ => fun
  | [] => { results := [.lit (.bool true)], args := [] }
  | _ => none }
def worldNamesRow : OpenClaim := { program := "ytkjncodnmceilaa", sum := "742f000a5deeac5718d213ff244d3538e5cf576e1e72c75a65530203297b3280", func := "cairn/cairnlaw17.WorldNames", spec := "worldNames", apart := false }
def WorldNamesSaid : Prop := worldNamesRow.holds Try.pinned (OpenSpec.ofChange worldNamesSpec)

/-- ITS FALSE NEIGHBOUR: 'it returns false'. Refute it at one input. -/
def worldNamesWrong : ChangeSpec := { name := "worldNames", fn := fun _ => fun
  | [] => { results := [.lit (.bool false)], args := [] }
  | _ => none }
def WorldNamesWrongFalsely : Prop := worldNamesRow.holds Try.pinned (OpenSpec.ofChange worldNamesWrong)

/-- 'cairnlaw20.ShellNames': WHATEVER THE INPUT: true; the input reads as it did. -/
def shellNamesSpec : ChangeSpec := { name := "shellNames", fn := fun _ => fun
  | [] => { results := [.lit (.bool true)], args := [] }
  | _ => none }
def shellNamesRow : OpenClaim := { program := "ytkjncodnmceilaa", sum := "742f000a5deeac5718d213ff244d3538e5cf576e1e72c75a65530203297b3280", func := "cairn/cairnlaw20.ShellNames", spec := "shellNames", apart := false }
def ShellNamesSaid : Prop := shellNamesRow.holds Try.pinned (OpenSpec.ofChange shellNamesSpec)

/-- ITS FALSE NEIGHBOUR: 'it returns false'. Refute it at one input. -/
def shellNamesWrong : ChangeSpec := { name := "shellNames", fn := fun _ => fun
  | [] => { results := [.lit (.bool false)], args := [] }
  | _ => none }
def ShellNamesWrongFalsely : Prop := shellNamesRow.holds Try.pinned (OpenSpec.ofChange shellNamesWrong)

/-- 'cairnlaw8.AcceptorSteps': WHATEVER THE INPUT: true; the input reads as it did. -/
def acceptorStepsSpec : ChangeSpec := { name := "acceptorSteps", fn := fun _ => fun
  | [d1, d2] => { results := [.lit (.bool true)], args := [d1, d2] }
  | _ => none }
def acceptorStepsRow : OpenClaim := { program := "ytkjncodnmceilaa", sum := "742f000a5deeac5718d213ff244d3538e5cf576e1e72c75a65530203297b3280", func := "cairn/cairnlaw8.AcceptorSteps", spec := "acceptorSteps", apart := false }
def AcceptorStepsSaid : Prop := acceptorStepsRow.holds Try.pinned (OpenSpec.ofChange acceptorStepsSpec)

/-- ITS FALSE NEIGHBOUR: 'it returns false'. Refute it at one input. -/
def acceptorStepsWrong : ChangeSpec := { name := "acceptorSteps", fn := fun _ => fun
  | [d1, d2] => { results := [.lit (.bool false)], args := [d1, d2] }
  | _ => none }
def AcceptorStepsWrongFalsely : Prop := acceptorStepsRow.holds Try.pinned (OpenSpec.ofChange acceptorStepsWrong)

/-- 'cairnlaw8.AcceptorStays': WHATEVER THE INPUT: true; the input reads as it did. -/
def acceptorStaysSpec : ChangeSpec := { name := "acceptorStays", fn := fun _ => fun
  | [d1, d2] => { results := [.lit (.bool true)], args := [d1, d2] }
  | _ => none }
def acceptorStaysRow : OpenClaim := { program := "ytkjncodnmceilaa", sum := "742f000a5deeac5718d213ff244d3538e5cf576e1e72c75a65530203297b3280", func := "cairn/cairnlaw8.AcceptorStays", spec := "acceptorStays", apart := false }
def AcceptorStaysSaid : Prop := acceptorStaysRow.holds Try.pinned (OpenSpec.ofChange acceptorStaysSpec)

/-- ITS FALSE NEIGHBOUR: 'it returns false'. Refute it at one input. -/
def acceptorStaysWrong : ChangeSpec := { name := "acceptorStays", fn := fun _ => fun
  | [d1, d2] => { results := [.lit (.bool false)], args := [d1, d2] }
  | _ => none }
def AcceptorStaysWrongFalsely : Prop := acceptorStaysRow.holds Try.pinned (OpenSpec.ofChange acceptorStaysWrong)

/-- 'cairnlaw8.AcceptorOne': WHATEVER THE INPUT: true; the input reads as it did. -/
def acceptorOneSpec : ChangeSpec := { name := "acceptorOne", fn := fun _ => fun
  | [d1, d2] => { results := [.lit (.bool true)], args := [d1, d2] }
  | _ => none }
def acceptorOneRow : OpenClaim := { program := "ytkjncodnmceilaa", sum := "742f000a5deeac5718d213ff244d3538e5cf576e1e72c75a65530203297b3280", func := "cairn/cairnlaw8.AcceptorOne", spec := "acceptorOne", apart := false }
def AcceptorOneSaid : Prop := acceptorOneRow.holds Try.pinned (OpenSpec.ofChange acceptorOneSpec)

/-- ITS FALSE NEIGHBOUR: 'it returns false'. Refute it at one input. -/
def acceptorOneWrong : ChangeSpec := { name := "acceptorOne", fn := fun _ => fun
  | [d1, d2] => { results := [.lit (.bool false)], args := [d1, d2] }
  | _ => none }
def AcceptorOneWrongFalsely : Prop := acceptorOneRow.holds Try.pinned (OpenSpec.ofChange acceptorOneWrong)

/- THE SECOND FORM. 'bulk': how many values and letters a reading holds, each counted each time it is reached (what is shared counts as often as it is met; a slice's spare places count too). A statement '..UptoSaid' is the law's where the arguments, and the package variables that the reading takes, are together of bulk at most 1048576: NARROWER than '..Said'. Prove '..Said' where nothing that the law and all that it calls make is longer than what came in: it says more and counts as full. Else prove '..UptoSaid'. A law counts once. -/
mutual
def uptoBulk {H : Type} : DataW H → Nat
  | .lit (.string bytes) => bytes.length + 1
  | .lit _ => 1
  | .nil => 1
  | .ptr d => uptoBulk d + 1
  | .slice elems spare => uptoBulkAll elems + uptoBulkAll spare + 1
  | .agg parts => uptoBulkAll parts + 1
  | .iface _ d => uptoBulk d + 1
  | .map entries => uptoBulkEntries entries + 1
  | .held _ => 1
def uptoBulkAll {H : Type} : List (DataW H) → Nat
  | [] => 0
  | d :: r => uptoBulk d + uptoBulkAll r
def uptoBulkEntries {H : Type} : List (Lit × DataW H) → Nat
  | [] => 0
  | x :: r => uptoBulkEntry x + uptoBulkEntries r
def uptoBulkEntry {H : Type} : Lit × DataW H → Nat
  | (.string bytes, d) => bytes.length + uptoBulk d + 1
  | (_, d) => uptoBulk d + 1
 end
def uptoSmall : (H : Type) → List (DataW H) → Bool := fun _ ds => decide (uptoBulkAll ds ≤ 1048576)
def OpenSpec.upto (s : _root_.Go.ChangeSpec) : _root_.Go.OpenSpec := { _root_.Go.OpenSpec.ofChange s with cond := some uptoSmall }

/-- 'cairnlaw5.MsgNames', WHERE WHAT IT READS IS OF BULK AT MOST 1048576: true; the input reads as it did. -/
def msgNamesUptoRow : OpenClaim := { program := "ytkjncodnmceilaa", sum := "742f000a5deeac5718d213ff244d3538e5cf576e1e72c75a65530203297b3280", func := "cairn/cairnlaw5.MsgNames", spec := "msgNames", apart := false, narrowed := true }
def MsgNamesUptoSaid : Prop := msgNamesUptoRow.holds Try.pinned (OpenSpec.upto msgNamesSpec)

/-- 'cairnlaw19.AuditNames', WHERE WHAT IT READS IS OF BULK AT MOST 1048576: true; the input reads as it did. -/
def auditNamesUptoRow : OpenClaim := { program := "ytkjncodnmceilaa", sum := "742f000a5deeac5718d213ff244d3538e5cf576e1e72c75a65530203297b3280", func := "cairn/cairnlaw19.AuditNames", spec := "auditNames", apart := false, narrowed := true }
def AuditNamesUptoSaid : Prop := auditNamesUptoRow.holds Try.pinned (OpenSpec.upto auditNamesSpec)

/-- 'cairnlaw17.WorldNames', WHERE WHAT IT READS IS OF BULK AT MOST 1048576: true; the input reads as it did. -/
def worldNamesUptoRow : OpenClaim := { program := "ytkjncodnmceilaa", sum := "742f000a5deeac5718d213ff244d3538e5cf576e1e72c75a65530203297b3280", func := "cairn/cairnlaw17.WorldNames", spec := "worldNames", apart := false, narrowed := true }
def WorldNamesUptoSaid : Prop := worldNamesUptoRow.holds Try.pinned (OpenSpec.upto worldNamesSpec)

/-- 'cairnlaw20.ShellNames', WHERE WHAT IT READS IS OF BULK AT MOST 1048576: true; the input reads as it did. -/
def shellNamesUptoRow : OpenClaim := { program := "ytkjncodnmceilaa", sum := "742f000a5deeac5718d213ff244d3538e5cf576e1e72c75a65530203297b3280", func := "cairn/cairnlaw20.ShellNames", spec := "shellNames", apart := false, narrowed := true }
def ShellNamesUptoSaid : Prop := shellNamesUptoRow.holds Try.pinned (OpenSpec.upto shellNamesSpec)

/-- 'cairnlaw8.AcceptorSteps', WHERE WHAT IT READS IS OF BULK AT MOST 1048576: true; the input reads as it did. -/
def acceptorStepsUptoRow : OpenClaim := { program := "ytkjncodnmceilaa", sum := "742f000a5deeac5718d213ff244d3538e5cf576e1e72c75a65530203297b3280", func := "cairn/cairnlaw8.AcceptorSteps", spec := "acceptorSteps", apart := false, narrowed := true }
def AcceptorStepsUptoSaid : Prop := acceptorStepsUptoRow.holds Try.pinned (OpenSpec.upto acceptorStepsSpec)

/-- 'cairnlaw8.AcceptorStays', WHERE WHAT IT READS IS OF BULK AT MOST 1048576: true; the input reads as it did. -/
def acceptorStaysUptoRow : OpenClaim := { program := "ytkjncodnmceilaa", sum := "742f000a5deeac5718d213ff244d3538e5cf576e1e72c75a65530203297b3280", func := "cairn/cairnlaw8.AcceptorStays", spec := "acceptorStays", apart := false, narrowed := true }
def AcceptorStaysUptoSaid : Prop := acceptorStaysUptoRow.holds Try.pinned (OpenSpec.upto acceptorStaysSpec)

/-- 'cairnlaw8.AcceptorOne', WHERE WHAT IT READS IS OF BULK AT MOST 1048576: true; the input reads as it did. -/
def acceptorOneUptoRow : OpenClaim := { program := "ytkjncodnmceilaa", sum := "742f000a5deeac5718d213ff244d3538e5cf576e1e72c75a65530203297b3280", func := "cairn/cairnlaw8.AcceptorOne", spec := "acceptorOne", apart := false, narrowed := true }
def AcceptorOneUptoSaid : Prop := acceptorOneUptoRow.holds Try.pinned (OpenSpec.upto acceptorOneSpec)

end Rows
end Go.Proofs.Ytkjncodnmceilaa
