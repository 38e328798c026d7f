/-
  No cell of these rows narrows 'for every input' (looked for: loops, veiled, ifaces, maps, wideKeys, modest, calm, conditions, laid).
  DERIVED. THE GIVEN ROWS OF THIS SEAT. 10 by the template 'for every input the law returns true; each argument reads behind the call as it read before'; 0 by the template 'total and deterministic' (their statements: YtgnhcoefocbmpaaGreatTotals.lean).
  GIVEN WITH THE SEED: the statements are not yours to turn. If you find one false, say at which input.
  Laid BY PROGRAM, IN A SANDBOX (cutbox-rows.mjs): the forced cells as the released guide's own fill.sh prints them over the translation 755737385a1cc563… (all of the seat's roots in one cut). By AI agents, Wed Nov 11 2026. No macro, syntax, notation, axiom, sorry.
-/
import Derived.Test.YtgnhcoefocbmpaaGreatChecked
import GoSem.Claim
import GoSem.ClaimJoined
import GoSem.ClaimMapViews
import Derived.JoinedTies
import Derived.KernelRfl
namespace Go.Proofs.YtgnhcoefocbmpaaGreat
/- THE CELL 'sum', in the pinned program and in every row, IS THE sha256 OF THE DUMP (.gsa) THAT YtgnhcoefocbmpaaGreatProg.lean LOADS. Nothing in Lean hashes anything: it is a label: what it is worth is what the hold of that sum in a sandbox is worth. -/
noncomputable def Tryz.pinned : Pinned := { name := "ytgnhcoefocbmpaagreat", sum := "755737385a1cc56343dcb2c53014ab5cd6b3c7ae2e9628c5de501843eeb76a55", checked := Tryz.checked }
namespace Rows
def none {H : Type} : Left H := { results := [], args := [] }

/-- 'cairnlaw5.MsgEncodes': WHATEVER THE INPUT: true; the input reads as it did. -/
def msgEncodesSpec : ChangeSpec := { name := "msgEncodes", fn := fun _ => fun
  | [d1, d2] => { results := [.lit (.bool true)], args := [d1, d2] }
  | _ => none }
def msgEncodesRow : OpenClaim := { program := "ytgnhcoefocbmpaagreat", sum := "755737385a1cc56343dcb2c53014ab5cd6b3c7ae2e9628c5de501843eeb76a55", func := "cairn/cairnlaw5.MsgEncodes", spec := "msgEncodes", inPlace := ["internal/bytealg.IndexByteString", "internal/bytealg.IndexString"], unfollowed := true, recurses := true, named := ["internal/bytealg.MaxLen"], apart := false }
def MsgEncodesSaid : Prop := msgEncodesRow.holds Tryz.pinned (OpenSpec.ofChange msgEncodesSpec)

/-- ITS FALSE NEIGHBOUR: 'it returns false'. Refute it at one input. -/
def msgEncodesWrong : ChangeSpec := { name := "msgEncodes", fn := fun _ => fun
  | [d1, d2] => { results := [.lit (.bool false)], args := [d1, d2] }
  | _ => none }
def MsgEncodesWrongFalsely : Prop := msgEncodesRow.holds Tryz.pinned (OpenSpec.ofChange msgEncodesWrong)

/-- 'cairnlaw5.MsgDecodes': WHATEVER THE INPUT: true; the input reads as it did. -/
def msgDecodesSpec : ChangeSpec := { name := "msgDecodes", fn := fun _ => fun
  | [d1, d2, d3] => { results := [.lit (.bool true)], args := [d1, d2, d3] }
  | _ => none }
def msgDecodesRow : OpenClaim := { program := "ytgnhcoefocbmpaagreat", sum := "755737385a1cc56343dcb2c53014ab5cd6b3c7ae2e9628c5de501843eeb76a55", func := "cairn/cairnlaw5.MsgDecodes", spec := "msgDecodes", inPlace := ["internal/bytealg.IndexByteString", "internal/bytealg.IndexString"], unfollowed := true, recurses := true, named := ["internal/bytealg.MaxLen"], apart := false }
def MsgDecodesSaid : Prop := msgDecodesRow.holds Tryz.pinned (OpenSpec.ofChange msgDecodesSpec)

/-- ITS FALSE NEIGHBOUR: 'it returns false'. Refute it at one input. -/
def msgDecodesWrong : ChangeSpec := { name := "msgDecodes", fn := fun _ => fun
  | [d1, d2, d3] => { results := [.lit (.bool false)], args := [d1, d2, d3] }
  | _ => none }
def MsgDecodesWrongFalsely : Prop := msgDecodesRow.holds Tryz.pinned (OpenSpec.ofChange msgDecodesWrong)

/-- 'cairnlaw5.MsgBack': WHATEVER THE INPUT: true; the input reads as it did. -/
def msgBackSpec : ChangeSpec := { name := "msgBack", fn := fun _ => fun
  | [d1, d2, d3] => { results := [.lit (.bool true)], args := [d1, d2, d3] }
  | _ => none }
def msgBackRow : OpenClaim := { program := "ytgnhcoefocbmpaagreat", sum := "755737385a1cc56343dcb2c53014ab5cd6b3c7ae2e9628c5de501843eeb76a55", func := "cairn/cairnlaw5.MsgBack", spec := "msgBack", inPlace := ["internal/bytealg.IndexByteString", "internal/bytealg.IndexString"], unfollowed := true, recurses := true, named := ["internal/bytealg.MaxLen"], apart := false }
def MsgBackSaid : Prop := msgBackRow.holds Tryz.pinned (OpenSpec.ofChange msgBackSpec)

/-- ITS FALSE NEIGHBOUR: 'it returns false'. Refute it at one input. -/
def msgBackWrong : ChangeSpec := { name := "msgBack", fn := fun _ => fun
  | [d1, d2, d3] => { results := [.lit (.bool false)], args := [d1, d2, d3] }
  | _ => none }
def MsgBackWrongFalsely : Prop := msgBackRow.holds Tryz.pinned (OpenSpec.ofChange msgBackWrong)

/-- 'cairnlaw5.MsgValids': WHATEVER THE INPUT: true; the input reads as it did. -/
def msgValidsSpec : ChangeSpec := { name := "msgValids", fn := fun _ => fun
  | [d1, d2, d3, d4] => { results := [.lit (.bool true)], args := [d1, d2, d3, d4] }
  | _ => none }
def msgValidsRow : OpenClaim := { program := "ytgnhcoefocbmpaagreat", sum := "755737385a1cc56343dcb2c53014ab5cd6b3c7ae2e9628c5de501843eeb76a55", func := "cairn/cairnlaw5.MsgValids", spec := "msgValids", inPlace := ["internal/bytealg.IndexByteString", "internal/bytealg.IndexString"], unfollowed := true, recurses := true, named := ["internal/bytealg.MaxLen"], apart := false }
def MsgValidsSaid : Prop := msgValidsRow.holds Tryz.pinned (OpenSpec.ofChange msgValidsSpec)

/-- ITS FALSE NEIGHBOUR: 'it returns false'. Refute it at one input. -/
def msgValidsWrong : ChangeSpec := { name := "msgValids", fn := fun _ => fun
  | [d1, d2, d3, d4] => { results := [.lit (.bool false)], args := [d1, d2, d3, d4] }
  | _ => none }
def MsgValidsWrongFalsely : Prop := msgValidsRow.holds Tryz.pinned (OpenSpec.ofChange msgValidsWrong)

/-- 'cairnlaw5.MsgPacks': WHATEVER THE INPUT: true; the input reads as it did. -/
def msgPacksSpec : ChangeSpec := { name := "msgPacks", fn := fun _ => fun
  | [d1, d2, d3, d4] => { results := [.lit (.bool true)], args := [d1, d2, d3, d4] }
  | _ => none }
def msgPacksRow : OpenClaim := { program := "ytgnhcoefocbmpaagreat", sum := "755737385a1cc56343dcb2c53014ab5cd6b3c7ae2e9628c5de501843eeb76a55", func := "cairn/cairnlaw5.MsgPacks", spec := "msgPacks", inPlace := ["internal/bytealg.IndexByteString", "internal/bytealg.IndexString"], unfollowed := true, recurses := true, named := ["internal/bytealg.MaxLen"], apart := false }
def MsgPacksSaid : Prop := msgPacksRow.holds Tryz.pinned (OpenSpec.ofChange msgPacksSpec)

/-- ITS FALSE NEIGHBOUR: 'it returns false'. Refute it at one input. -/
def msgPacksWrong : ChangeSpec := { name := "msgPacks", fn := fun _ => fun
  | [d1, d2, d3, d4] => { results := [.lit (.bool false)], args := [d1, d2, d3, d4] }
  | _ => none }
def MsgPacksWrongFalsely : Prop := msgPacksRow.holds Tryz.pinned (OpenSpec.ofChange msgPacksWrong)

/-- 'cairnlaw5.MsgOwn': WHATEVER THE INPUT: true; the input reads as it did. -/
def msgOwnSpec : ChangeSpec := { name := "msgOwn", fn := fun _ => fun
  | [d1, d2, d3, d4] => { results := [.lit (.bool true)], args := [d1, d2, d3, d4] }
  | _ => none }
def msgOwnRow : OpenClaim := { program := "ytgnhcoefocbmpaagreat", sum := "755737385a1cc56343dcb2c53014ab5cd6b3c7ae2e9628c5de501843eeb76a55", func := "cairn/cairnlaw5.MsgOwn", spec := "msgOwn", inPlace := ["internal/bytealg.IndexByteString", "internal/bytealg.IndexString"], unfollowed := true, recurses := true, named := ["internal/bytealg.MaxLen"], apart := false }
def MsgOwnSaid : Prop := msgOwnRow.holds Tryz.pinned (OpenSpec.ofChange msgOwnSpec)

/-- ITS FALSE NEIGHBOUR: 'it returns false'. Refute it at one input. -/
def msgOwnWrong : ChangeSpec := { name := "msgOwn", fn := fun _ => fun
  | [d1, d2, d3, d4] => { results := [.lit (.bool false)], args := [d1, d2, d3, d4] }
  | _ => none }
def MsgOwnWrongFalsely : Prop := msgOwnRow.holds Tryz.pinned (OpenSpec.ofChange msgOwnWrong)

/-- 'cairnlaw5.MsgReads': WHATEVER THE INPUT: true; the input reads as it did. -/
def msgReadsSpec : ChangeSpec := { name := "msgReads", fn := fun _ => fun
  | [d1, d2, d3] => { results := [.lit (.bool true)], args := [d1, d2, d3] }
  | _ => none }
def msgReadsRow : OpenClaim := { program := "ytgnhcoefocbmpaagreat", sum := "755737385a1cc56343dcb2c53014ab5cd6b3c7ae2e9628c5de501843eeb76a55", func := "cairn/cairnlaw5.MsgReads", spec := "msgReads", inPlace := ["internal/bytealg.IndexByteString", "internal/bytealg.IndexString"], unfollowed := true, recurses := true, named := ["internal/bytealg.MaxLen"], apart := false }
def MsgReadsSaid : Prop := msgReadsRow.holds Tryz.pinned (OpenSpec.ofChange msgReadsSpec)

/-- ITS FALSE NEIGHBOUR: 'it returns false'. Refute it at one input. -/
def msgReadsWrong : ChangeSpec := { name := "msgReads", fn := fun _ => fun
  | [d1, d2, d3] => { results := [.lit (.bool false)], args := [d1, d2, d3] }
  | _ => none }
def MsgReadsWrongFalsely : Prop := msgReadsRow.holds Tryz.pinned (OpenSpec.ofChange msgReadsWrong)

/-- 'cairnlaw5.MsgStored': WHATEVER THE INPUT: true; the input reads as it did. -/
def msgStoredSpec : ChangeSpec := { name := "msgStored", fn := fun _ => fun
  | [d1, d2, d3, d4, d5] => { results := [.lit (.bool true)], args := [d1, d2, d3, d4, d5] }
  | _ => none }
def msgStoredRow : OpenClaim := { program := "ytgnhcoefocbmpaagreat", sum := "755737385a1cc56343dcb2c53014ab5cd6b3c7ae2e9628c5de501843eeb76a55", func := "cairn/cairnlaw5.MsgStored", spec := "msgStored", inPlace := ["internal/bytealg.IndexByteString", "internal/bytealg.IndexString"], unfollowed := true, recurses := true, named := ["internal/bytealg.MaxLen"], apart := false }
def MsgStoredSaid : Prop := msgStoredRow.holds Tryz.pinned (OpenSpec.ofChange msgStoredSpec)

/-- ITS FALSE NEIGHBOUR: 'it returns false'. Refute it at one input. -/
def msgStoredWrong : ChangeSpec := { name := "msgStored", fn := fun _ => fun
  | [d1, d2, d3, d4, d5] => { results := [.lit (.bool false)], args := [d1, d2, d3, d4, d5] }
  | _ => none }
def MsgStoredWrongFalsely : Prop := msgStoredRow.holds Tryz.pinned (OpenSpec.ofChange msgStoredWrong)

/-- 'cairnlaw5.MsgConfig': WHATEVER THE INPUT: true; the input reads as it did. -/
def msgConfigSpec : ChangeSpec := { name := "msgConfig", fn := fun _ => fun
  | [d1, d2, d3] => { results := [.lit (.bool true)], args := [d1, d2, d3] }
  | _ => none }
def msgConfigRow : OpenClaim := { program := "ytgnhcoefocbmpaagreat", sum := "755737385a1cc56343dcb2c53014ab5cd6b3c7ae2e9628c5de501843eeb76a55", func := "cairn/cairnlaw5.MsgConfig", spec := "msgConfig", inPlace := ["internal/bytealg.IndexByteString", "internal/bytealg.IndexString"], unfollowed := true, recurses := true, named := ["internal/bytealg.MaxLen"], apart := false }
def MsgConfigSaid : Prop := msgConfigRow.holds Tryz.pinned (OpenSpec.ofChange msgConfigSpec)

/-- ITS FALSE NEIGHBOUR: 'it returns false'. Refute it at one input. -/
def msgConfigWrong : ChangeSpec := { name := "msgConfig", fn := fun _ => fun
  | [d1, d2, d3] => { results := [.lit (.bool false)], args := [d1, d2, d3] }
  | _ => none }
def MsgConfigWrongFalsely : Prop := msgConfigRow.holds Tryz.pinned (OpenSpec.ofChange msgConfigWrong)

/-- 'cairnlaw5.MsgAgain': WHATEVER THE INPUT: true; the input reads as it did. -/
def msgAgainSpec : ChangeSpec := { name := "msgAgain", fn := fun _ => fun
  | [d1, d2, d3, d4, d5, d6, d7] => { results := [.lit (.bool true)], args := [d1, d2, d3, d4, d5, d6, d7] }
  | _ => none }
def msgAgainRow : OpenClaim := { program := "ytgnhcoefocbmpaagreat", sum := "755737385a1cc56343dcb2c53014ab5cd6b3c7ae2e9628c5de501843eeb76a55", func := "cairn/cairnlaw5.MsgAgain", spec := "msgAgain", inPlace := ["internal/bytealg.IndexByteString", "internal/bytealg.IndexString"], unfollowed := true, recurses := true, named := ["internal/bytealg.MaxLen"], apart := false }
def MsgAgainSaid : Prop := msgAgainRow.holds Tryz.pinned (OpenSpec.ofChange msgAgainSpec)

/-- ITS FALSE NEIGHBOUR: 'it returns false'. Refute it at one input. -/
def msgAgainWrong : ChangeSpec := { name := "msgAgain", fn := fun _ => fun
  | [d1, d2, d3, d4, d5, d6, d7] => { results := [.lit (.bool false)], args := [d1, d2, d3, d4, d5, d6, d7] }
  | _ => none }
def MsgAgainWrongFalsely : Prop := msgAgainRow.holds Tryz.pinned (OpenSpec.ofChange msgAgainWrong)

/- THE SECOND FORM. 'bulk': how many values and letters a reading holds, each counted each time it is reached (what is shared counts as often as it is met; a slice's spare places count too). A statement '..UptoSaid' is the law's where the arguments, and the package variables that the reading takes, are together of bulk at most 1048576: NARROWER than '..Said'. Prove '..Said' where nothing that the law and all that it calls make is longer than what came in: it says more and counts as full. Else prove '..UptoSaid'. A law counts once. -/
mutual
def uptoBulk {H : Type} : DataW H → Nat
  | .lit (.string bytes) => bytes.length + 1
  | .lit _ => 1
  | .nil => 1
  | .ptr d => uptoBulk d + 1
  | .slice elems spare => uptoBulkAll elems + uptoBulkAll spare + 1
  | .agg parts => uptoBulkAll parts + 1
  | .iface _ d => uptoBulk d + 1
  | .map entries => uptoBulkEntries entries + 1
  | .held _ => 1
def uptoBulkAll {H : Type} : List (DataW H) → Nat
  | [] => 0
  | d :: r => uptoBulk d + uptoBulkAll r
def uptoBulkEntries {H : Type} : List (Lit × DataW H) → Nat
  | [] => 0
  | x :: r => uptoBulkEntry x + uptoBulkEntries r
def uptoBulkEntry {H : Type} : Lit × DataW H → Nat
  | (.string bytes, d) => bytes.length + uptoBulk d + 1
  | (_, d) => uptoBulk d + 1
 end
def uptoSmall : (H : Type) → List (DataW H) → Bool := fun _ ds => decide (uptoBulkAll ds ≤ 1048576)
def OpenSpec.upto (s : _root_.Go.ChangeSpec) : _root_.Go.OpenSpec := { _root_.Go.OpenSpec.ofChange s with cond := some uptoSmall }

/-- 'cairnlaw5.MsgEncodes', WHERE WHAT IT READS IS OF BULK AT MOST 1048576: true; the input reads as it did. -/
def msgEncodesUptoRow : OpenClaim := { program := "ytgnhcoefocbmpaagreat", sum := "755737385a1cc56343dcb2c53014ab5cd6b3c7ae2e9628c5de501843eeb76a55", func := "cairn/cairnlaw5.MsgEncodes", spec := "msgEncodes", inPlace := ["internal/bytealg.IndexByteString", "internal/bytealg.IndexString"], unfollowed := true, recurses := true, named := ["internal/bytealg.MaxLen"], apart := false, narrowed := true }
def MsgEncodesUptoSaid : Prop := msgEncodesUptoRow.holds Tryz.pinned (OpenSpec.upto msgEncodesSpec)

/-- 'cairnlaw5.MsgDecodes', WHERE WHAT IT READS IS OF BULK AT MOST 1048576: true; the input reads as it did. -/
def msgDecodesUptoRow : OpenClaim := { program := "ytgnhcoefocbmpaagreat", sum := "755737385a1cc56343dcb2c53014ab5cd6b3c7ae2e9628c5de501843eeb76a55", func := "cairn/cairnlaw5.MsgDecodes", spec := "msgDecodes", inPlace := ["internal/bytealg.IndexByteString", "internal/bytealg.IndexString"], unfollowed := true, recurses := true, named := ["internal/bytealg.MaxLen"], apart := false, narrowed := true }
def MsgDecodesUptoSaid : Prop := msgDecodesUptoRow.holds Tryz.pinned (OpenSpec.upto msgDecodesSpec)

/-- 'cairnlaw5.MsgBack', WHERE WHAT IT READS IS OF BULK AT MOST 1048576: true; the input reads as it did. -/
def msgBackUptoRow : OpenClaim := { program := "ytgnhcoefocbmpaagreat", sum := "755737385a1cc56343dcb2c53014ab5cd6b3c7ae2e9628c5de501843eeb76a55", func := "cairn/cairnlaw5.MsgBack", spec := "msgBack", inPlace := ["internal/bytealg.IndexByteString", "internal/bytealg.IndexString"], unfollowed := true, recurses := true, named := ["internal/bytealg.MaxLen"], apart := false, narrowed := true }
def MsgBackUptoSaid : Prop := msgBackUptoRow.holds Tryz.pinned (OpenSpec.upto msgBackSpec)

/-- 'cairnlaw5.MsgValids', WHERE WHAT IT READS IS OF BULK AT MOST 1048576: true; the input reads as it did. -/
def msgValidsUptoRow : OpenClaim := { program := "ytgnhcoefocbmpaagreat", sum := "755737385a1cc56343dcb2c53014ab5cd6b3c7ae2e9628c5de501843eeb76a55", func := "cairn/cairnlaw5.MsgValids", spec := "msgValids", inPlace := ["internal/bytealg.IndexByteString", "internal/bytealg.IndexString"], unfollowed := true, recurses := true, named := ["internal/bytealg.MaxLen"], apart := false, narrowed := true }
def MsgValidsUptoSaid : Prop := msgValidsUptoRow.holds Tryz.pinned (OpenSpec.upto msgValidsSpec)

/-- 'cairnlaw5.MsgPacks', WHERE WHAT IT READS IS OF BULK AT MOST 1048576: true; the input reads as it did. -/
def msgPacksUptoRow : OpenClaim := { program := "ytgnhcoefocbmpaagreat", sum := "755737385a1cc56343dcb2c53014ab5cd6b3c7ae2e9628c5de501843eeb76a55", func := "cairn/cairnlaw5.MsgPacks", spec := "msgPacks", inPlace := ["internal/bytealg.IndexByteString", "internal/bytealg.IndexString"], unfollowed := true, recurses := true, named := ["internal/bytealg.MaxLen"], apart := false, narrowed := true }
def MsgPacksUptoSaid : Prop := msgPacksUptoRow.holds Tryz.pinned (OpenSpec.upto msgPacksSpec)

/-- 'cairnlaw5.MsgOwn', WHERE WHAT IT READS IS OF BULK AT MOST 1048576: true; the input reads as it did. -/
def msgOwnUptoRow : OpenClaim := { program := "ytgnhcoefocbmpaagreat", sum := "755737385a1cc56343dcb2c53014ab5cd6b3c7ae2e9628c5de501843eeb76a55", func := "cairn/cairnlaw5.MsgOwn", spec := "msgOwn", inPlace := ["internal/bytealg.IndexByteString", "internal/bytealg.IndexString"], unfollowed := true, recurses := true, named := ["internal/bytealg.MaxLen"], apart := false, narrowed := true }
def MsgOwnUptoSaid : Prop := msgOwnUptoRow.holds Tryz.pinned (OpenSpec.upto msgOwnSpec)

/-- 'cairnlaw5.MsgReads', WHERE WHAT IT READS IS OF BULK AT MOST 1048576: true; the input reads as it did. -/
def msgReadsUptoRow : OpenClaim := { program := "ytgnhcoefocbmpaagreat", sum := "755737385a1cc56343dcb2c53014ab5cd6b3c7ae2e9628c5de501843eeb76a55", func := "cairn/cairnlaw5.MsgReads", spec := "msgReads", inPlace := ["internal/bytealg.IndexByteString", "internal/bytealg.IndexString"], unfollowed := true, recurses := true, named := ["internal/bytealg.MaxLen"], apart := false, narrowed := true }
def MsgReadsUptoSaid : Prop := msgReadsUptoRow.holds Tryz.pinned (OpenSpec.upto msgReadsSpec)

/-- 'cairnlaw5.MsgStored', WHERE WHAT IT READS IS OF BULK AT MOST 1048576: true; the input reads as it did. -/
def msgStoredUptoRow : OpenClaim := { program := "ytgnhcoefocbmpaagreat", sum := "755737385a1cc56343dcb2c53014ab5cd6b3c7ae2e9628c5de501843eeb76a55", func := "cairn/cairnlaw5.MsgStored", spec := "msgStored", inPlace := ["internal/bytealg.IndexByteString", "internal/bytealg.IndexString"], unfollowed := true, recurses := true, named := ["internal/bytealg.MaxLen"], apart := false, narrowed := true }
def MsgStoredUptoSaid : Prop := msgStoredUptoRow.holds Tryz.pinned (OpenSpec.upto msgStoredSpec)

/-- 'cairnlaw5.MsgConfig', WHERE WHAT IT READS IS OF BULK AT MOST 1048576: true; the input reads as it did. -/
def msgConfigUptoRow : OpenClaim := { program := "ytgnhcoefocbmpaagreat", sum := "755737385a1cc56343dcb2c53014ab5cd6b3c7ae2e9628c5de501843eeb76a55", func := "cairn/cairnlaw5.MsgConfig", spec := "msgConfig", inPlace := ["internal/bytealg.IndexByteString", "internal/bytealg.IndexString"], unfollowed := true, recurses := true, named := ["internal/bytealg.MaxLen"], apart := false, narrowed := true }
def MsgConfigUptoSaid : Prop := msgConfigUptoRow.holds Tryz.pinned (OpenSpec.upto msgConfigSpec)

/-- 'cairnlaw5.MsgAgain', WHERE WHAT IT READS IS OF BULK AT MOST 1048576: true; the input reads as it did. -/
def msgAgainUptoRow : OpenClaim := { program := "ytgnhcoefocbmpaagreat", sum := "755737385a1cc56343dcb2c53014ab5cd6b3c7ae2e9628c5de501843eeb76a55", func := "cairn/cairnlaw5.MsgAgain", spec := "msgAgain", inPlace := ["internal/bytealg.IndexByteString", "internal/bytealg.IndexString"], unfollowed := true, recurses := true, named := ["internal/bytealg.MaxLen"], apart := false, narrowed := true }
def MsgAgainUptoSaid : Prop := msgAgainUptoRow.holds Tryz.pinned (OpenSpec.upto msgAgainSpec)

end Rows
end Go.Proofs.YtgnhcoefocbmpaaGreat
