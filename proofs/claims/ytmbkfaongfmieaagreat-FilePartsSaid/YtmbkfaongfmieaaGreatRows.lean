/-
  No cell of these rows narrows 'for every input' (looked for: loops, veiled, ifaces, maps, wideKeys, modest, calm, conditions, laid).
  DERIVED. THE GIVEN ROWS OF THIS SEAT. 5 by the template 'for every input the law returns true; each argument reads behind the call as it read before'; 0 by the template 'total and deterministic' (their statements: YtmbkfaongfmieaaGreatTotals.lean).
  GIVEN WITH THE SEED: the statements are not yours to turn. If you find one false, say at which input.
  Laid BY PROGRAM, IN A SANDBOX (cutbox-rows.mjs): the forced cells as the released guide's own fill.sh prints them over the translation 9d8b99cd60320701… (all of the seat's roots in one cut). By AI agents, Wed Nov 11 2026. No macro, syntax, notation, axiom, sorry.
-/
import Derived.Test.YtmbkfaongfmieaaGreatChecked
import GoSem.Claim
import GoSem.ClaimJoined
import GoSem.ClaimMapViews
import Derived.JoinedTies
import Derived.KernelRfl
namespace Go.Proofs.YtmbkfaongfmieaaGreat
/- THE CELL 'sum', in the pinned program and in every row, IS THE sha256 OF THE DUMP (.gsa) THAT YtmbkfaongfmieaaGreatProg.lean LOADS. Nothing in Lean hashes anything: it is a label: what it is worth is what the hold of that sum in a sandbox is worth. -/
noncomputable def Tryz.pinned : Pinned := { name := "ytmbkfaongfmieaagreat", sum := "9d8b99cd60320701d29c4080a2f9216479231d850f91bfa5b60d3ee80ba56afb", checked := Tryz.checked }
namespace Rows
def none {H : Type} : Left H := { results := [], args := [] }

/-- 'cairnlaw15.FileWorn': WHATEVER THE INPUT: true; the input reads as it did. -/
def fileWornSpec : ChangeSpec := { name := "fileWorn", fn := fun _ => fun
  | [d1, d2, d3] => { results := [.lit (.bool true)], args := [d1, d2, d3] }
  | _ => none }
def fileWornRow : OpenClaim := { program := "ytmbkfaongfmieaagreat", sum := "9d8b99cd60320701d29c4080a2f9216479231d850f91bfa5b60d3ee80ba56afb", func := "cairn/cairnlaw15.FileWorn", spec := "fileWorn", inPlace := ["internal/bytealg.IndexByteString", "internal/bytealg.IndexString", "internal/bytealg.abigen_runtime_cmpstring", "slices.overlaps[cairn/api.Entry]", "slices.overlaps[cairn/api.Last]"], unfollowed := true, recurses := true, named := ["internal/bytealg.MaxLen"], plainKeys := false, apart := false }
def FileWornSaid : Prop := fileWornRow.holds Tryz.pinned (OpenSpec.ofChange fileWornSpec)

/-- ITS FALSE NEIGHBOUR: 'it returns false'. Refute it at one input. -/
def fileWornWrong : ChangeSpec := { name := "fileWorn", fn := fun _ => fun
  | [d1, d2, d3] => { results := [.lit (.bool false)], args := [d1, d2, d3] }
  | _ => none }
def FileWornWrongFalsely : Prop := fileWornRow.holds Tryz.pinned (OpenSpec.ofChange fileWornWrong)

/-- 'cairnlaw15.FileParts': WHATEVER THE INPUT: true; the input reads as it did. -/
def filePartsSpec : ChangeSpec := { name := "fileParts", fn := fun _ => fun
  | [d1, d2, d3] => { results := [.lit (.bool true)], args := [d1, d2, d3] }
  | _ => none }
def filePartsRow : OpenClaim := { program := "ytmbkfaongfmieaagreat", sum := "9d8b99cd60320701d29c4080a2f9216479231d850f91bfa5b60d3ee80ba56afb", func := "cairn/cairnlaw15.FileParts", spec := "fileParts", inPlace := ["internal/bytealg.IndexByteString", "internal/bytealg.IndexString", "internal/bytealg.abigen_runtime_cmpstring", "slices.overlaps[cairn/api.Entry]", "slices.overlaps[cairn/api.Last]"], unfollowed := true, recurses := true, named := ["internal/bytealg.MaxLen"], plainKeys := false, apart := false }
def FilePartsSaid : Prop := filePartsRow.holds Tryz.pinned (OpenSpec.ofChange filePartsSpec)

/-- ITS FALSE NEIGHBOUR: 'it returns false'. Refute it at one input. -/
def filePartsWrong : ChangeSpec := { name := "fileParts", fn := fun _ => fun
  | [d1, d2, d3] => { results := [.lit (.bool false)], args := [d1, d2, d3] }
  | _ => none }
def FilePartsWrongFalsely : Prop := filePartsRow.holds Tryz.pinned (OpenSpec.ofChange filePartsWrong)

/-- 'cairnlaw15.FileBytes': WHATEVER THE INPUT: true; the input reads as it did. -/
def fileBytesSpec : ChangeSpec := { name := "fileBytes", fn := fun _ => fun
  | [d1, d2] => { results := [.lit (.bool true)], args := [d1, d2] }
  | _ => none }
def fileBytesRow : OpenClaim := { program := "ytmbkfaongfmieaagreat", sum := "9d8b99cd60320701d29c4080a2f9216479231d850f91bfa5b60d3ee80ba56afb", func := "cairn/cairnlaw15.FileBytes", spec := "fileBytes", inPlace := ["internal/bytealg.IndexByteString", "internal/bytealg.IndexString", "internal/bytealg.abigen_runtime_cmpstring", "slices.overlaps[cairn/api.Entry]", "slices.overlaps[cairn/api.Last]"], unfollowed := true, recurses := true, named := ["internal/bytealg.MaxLen"], plainKeys := false, apart := false }
def FileBytesSaid : Prop := fileBytesRow.holds Tryz.pinned (OpenSpec.ofChange fileBytesSpec)

/-- ITS FALSE NEIGHBOUR: 'it returns false'. Refute it at one input. -/
def fileBytesWrong : ChangeSpec := { name := "fileBytes", fn := fun _ => fun
  | [d1, d2] => { results := [.lit (.bool false)], args := [d1, d2] }
  | _ => none }
def FileBytesWrongFalsely : Prop := fileBytesRow.holds Tryz.pinned (OpenSpec.ofChange fileBytesWrong)

/-- 'cairnlaw5.MsgValids': WHATEVER THE INPUT: true; the input reads as it did. -/
def msgValidsSpec : ChangeSpec := { name := "msgValids", fn := fun _ => fun
  | [d1, d2, d3, d4] => { results := [.lit (.bool true)], args := [d1, d2, d3, d4] }
  | _ => none }
def msgValidsRow : OpenClaim := { program := "ytmbkfaongfmieaagreat", sum := "9d8b99cd60320701d29c4080a2f9216479231d850f91bfa5b60d3ee80ba56afb", func := "cairn/cairnlaw5.MsgValids", spec := "msgValids", inPlace := ["internal/bytealg.IndexByteString", "internal/bytealg.IndexString"], unfollowed := true, recurses := true, named := ["internal/bytealg.MaxLen"], plainKeys := false, apart := false }
def MsgValidsSaid : Prop := msgValidsRow.holds Tryz.pinned (OpenSpec.ofChange msgValidsSpec)

/-- ITS FALSE NEIGHBOUR: 'it returns false'. Refute it at one input. -/
def msgValidsWrong : ChangeSpec := { name := "msgValids", fn := fun _ => fun
  | [d1, d2, d3, d4] => { results := [.lit (.bool false)], args := [d1, d2, d3, d4] }
  | _ => none }
def MsgValidsWrongFalsely : Prop := msgValidsRow.holds Tryz.pinned (OpenSpec.ofChange msgValidsWrong)

/-- 'cairnlaw5.MsgEncodes': WHATEVER THE INPUT: true; the input reads as it did. -/
def msgEncodesSpec : ChangeSpec := { name := "msgEncodes", fn := fun _ => fun
  | [d1, d2] => { results := [.lit (.bool true)], args := [d1, d2] }
  | _ => none }
def msgEncodesRow : OpenClaim := { program := "ytmbkfaongfmieaagreat", sum := "9d8b99cd60320701d29c4080a2f9216479231d850f91bfa5b60d3ee80ba56afb", func := "cairn/cairnlaw5.MsgEncodes", spec := "msgEncodes", inPlace := ["internal/bytealg.IndexByteString", "internal/bytealg.IndexString"], unfollowed := true, recurses := true, named := ["internal/bytealg.MaxLen"], plainKeys := false, apart := false }
def MsgEncodesSaid : Prop := msgEncodesRow.holds Tryz.pinned (OpenSpec.ofChange msgEncodesSpec)

/-- ITS FALSE NEIGHBOUR: 'it returns false'. Refute it at one input. -/
def msgEncodesWrong : ChangeSpec := { name := "msgEncodes", fn := fun _ => fun
  | [d1, d2] => { results := [.lit (.bool false)], args := [d1, d2] }
  | _ => none }
def MsgEncodesWrongFalsely : Prop := msgEncodesRow.holds Tryz.pinned (OpenSpec.ofChange msgEncodesWrong)

/- THE SECOND FORM. 'bulk': how many values and letters a reading holds, each counted each time it is reached (what is shared counts as often as it is met; a slice's spare places count too). A statement '..UptoSaid' is the law's where the arguments, and the package variables that the reading takes, are together of bulk at most 1048576: NARROWER than '..Said'. Prove '..Said' where nothing that the law and all that it calls make is longer than what came in: it says more and counts as full. Else prove '..UptoSaid'. A law counts once. -/
mutual
def uptoBulk {H : Type} : DataW H → Nat
  | .lit (.string bytes) => bytes.length + 1
  | .lit _ => 1
  | .nil => 1
  | .ptr d => uptoBulk d + 1
  | .slice elems spare => uptoBulkAll elems + uptoBulkAll spare + 1
  | .agg parts => uptoBulkAll parts + 1
  | .iface _ d => uptoBulk d + 1
  | .map entries => uptoBulkEntries entries + 1
  | .held _ => 1
def uptoBulkAll {H : Type} : List (DataW H) → Nat
  | [] => 0
  | d :: r => uptoBulk d + uptoBulkAll r
def uptoBulkEntries {H : Type} : List (Lit × DataW H) → Nat
  | [] => 0
  | x :: r => uptoBulkEntry x + uptoBulkEntries r
def uptoBulkEntry {H : Type} : Lit × DataW H → Nat
  | (.string bytes, d) => bytes.length + uptoBulk d + 1
  | (_, d) => uptoBulk d + 1
 end
def uptoSmall : (H : Type) → List (DataW H) → Bool := fun _ ds => decide (uptoBulkAll ds ≤ 1048576)
def OpenSpec.upto (s : _root_.Go.ChangeSpec) : _root_.Go.OpenSpec := { _root_.Go.OpenSpec.ofChange s with cond := some uptoSmall }

/-- 'cairnlaw15.FileWorn', WHERE WHAT IT READS IS OF BULK AT MOST 1048576: true; the input reads as it did. -/
def fileWornUptoRow : OpenClaim := { program := "ytmbkfaongfmieaagreat", sum := "9d8b99cd60320701d29c4080a2f9216479231d850f91bfa5b60d3ee80ba56afb", func := "cairn/cairnlaw15.FileWorn", spec := "fileWorn", inPlace := ["internal/bytealg.IndexByteString", "internal/bytealg.IndexString", "internal/bytealg.abigen_runtime_cmpstring", "slices.overlaps[cairn/api.Entry]", "slices.overlaps[cairn/api.Last]"], unfollowed := true, recurses := true, named := ["internal/bytealg.MaxLen"], plainKeys := false, apart := false, narrowed := true }
def FileWornUptoSaid : Prop := fileWornUptoRow.holds Tryz.pinned (OpenSpec.upto fileWornSpec)

/-- 'cairnlaw15.FileParts', WHERE WHAT IT READS IS OF BULK AT MOST 1048576: true; the input reads as it did. -/
def filePartsUptoRow : OpenClaim := { program := "ytmbkfaongfmieaagreat", sum := "9d8b99cd60320701d29c4080a2f9216479231d850f91bfa5b60d3ee80ba56afb", func := "cairn/cairnlaw15.FileParts", spec := "fileParts", inPlace := ["internal/bytealg.IndexByteString", "internal/bytealg.IndexString", "internal/bytealg.abigen_runtime_cmpstring", "slices.overlaps[cairn/api.Entry]", "slices.overlaps[cairn/api.Last]"], unfollowed := true, recurses := true, named := ["internal/bytealg.MaxLen"], plainKeys := false, apart := false, narrowed := true }
def FilePartsUptoSaid : Prop := filePartsUptoRow.holds Tryz.pinned (OpenSpec.upto filePartsSpec)

/-- 'cairnlaw15.FileBytes', WHERE WHAT IT READS IS OF BULK AT MOST 1048576: true; the input reads as it did. -/
def fileBytesUptoRow : OpenClaim := { program := "ytmbkfaongfmieaagreat", sum := "9d8b99cd60320701d29c4080a2f9216479231d850f91bfa5b60d3ee80ba56afb", func := "cairn/cairnlaw15.FileBytes", spec := "fileBytes", inPlace := ["internal/bytealg.IndexByteString", "internal/bytealg.IndexString", "internal/bytealg.abigen_runtime_cmpstring", "slices.overlaps[cairn/api.Entry]", "slices.overlaps[cairn/api.Last]"], unfollowed := true, recurses := true, named := ["internal/bytealg.MaxLen"], plainKeys := false, apart := false, narrowed := true }
def FileBytesUptoSaid : Prop := fileBytesUptoRow.holds Tryz.pinned (OpenSpec.upto fileBytesSpec)

/-- 'cairnlaw5.MsgValids', WHERE WHAT IT READS IS OF BULK AT MOST 1048576: true; the input reads as it did. -/
def msgValidsUptoRow : OpenClaim := { program := "ytmbkfaongfmieaagreat", sum := "9d8b99cd60320701d29c4080a2f9216479231d850f91bfa5b60d3ee80ba56afb", func := "cairn/cairnlaw5.MsgValids", spec := "msgValids", inPlace := ["internal/bytealg.IndexByteString", "internal/bytealg.IndexString"], unfollowed := true, recurses := true, named := ["internal/bytealg.MaxLen"], plainKeys := false, apart := false, narrowed := true }
def MsgValidsUptoSaid : Prop := msgValidsUptoRow.holds Tryz.pinned (OpenSpec.upto msgValidsSpec)

/-- 'cairnlaw5.MsgEncodes', WHERE WHAT IT READS IS OF BULK AT MOST 1048576: true; the input reads as it did. -/
def msgEncodesUptoRow : OpenClaim := { program := "ytmbkfaongfmieaagreat", sum := "9d8b99cd60320701d29c4080a2f9216479231d850f91bfa5b60d3ee80ba56afb", func := "cairn/cairnlaw5.MsgEncodes", spec := "msgEncodes", inPlace := ["internal/bytealg.IndexByteString", "internal/bytealg.IndexString"], unfollowed := true, recurses := true, named := ["internal/bytealg.MaxLen"], plainKeys := false, apart := false, narrowed := true }
def MsgEncodesUptoSaid : Prop := msgEncodesUptoRow.holds Tryz.pinned (OpenSpec.upto msgEncodesSpec)

end Rows
end Go.Proofs.YtmbkfaongfmieaaGreat
