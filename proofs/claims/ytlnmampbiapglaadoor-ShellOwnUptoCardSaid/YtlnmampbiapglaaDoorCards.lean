/-
  DERIVED. GIVEN WITH THE SEED: THE CARDS: each row of YtlnmampbiapglaaDoorRows.lean that lists a variable, with what it lists TIED to the program's text (the seventh form; the later family's looks); each row that meets fmt, with fmt's text TOLD by the authors' own Lean function (tested against real Go, not proved from fmt's source: count such statements apart). THE CARD IS WHAT COUNTS. Prove the row's statement (the work); the ties are given (YtlnmampbiapglaaDoorTie.lean); close each card by the builder's one call (the guide's Derived/Test/ToyasCard.lean, 'card_holds'). Laid BY PROGRAM, IN A SANDBOX (cutbox-door.mjs). By AI agents, Wed Nov 11 2026. No macro, syntax, notation, axiom, sorry.
-/
import Derived.Test.YtlnmampbiapglaaDoorRows
import GoSem.ClaimSeven
namespace Go.Proofs.YtlnmampbiapglaaDoor
namespace Rows

/-- THE TIED CARD OF 'cairnlaw20.ShellWords'. -/
def shellWordsCard : Claim7 := { stood := { row := shellWordsRow, standIns := [], harness := (true, "4ede418e3f81ffc194334063a6974a228b814127a72245321d6e83e1c084f7f2"), looks := true }, kinds := [], alts := [], laidByText := true, laidKinds := [.data, .data, .data, .data, .sentinel, .sentinel, .pinned, .pinned], laidTests := true, laidLooks := .later }
def ShellWordsCardSaid : Prop := Claim7.holds Tryd.pinned (.plain (OpenSpec.ofChange shellWordsSpec)) shellWordsCard

/-- THE TIED CARD OF 'cairnlaw20.ShellOwn'. -/
def shellOwnCard : Claim7 := { stood := { row := shellOwnRow, standIns := [], harness := (true, "4ede418e3f81ffc194334063a6974a228b814127a72245321d6e83e1c084f7f2"), looks := true }, kinds := [], alts := [], laidByText := true, laidKinds := [.data, .data, .data, .data, .sentinel, .sentinel, .pinned, .pinned], laidTests := true, laidLooks := .later }
def ShellOwnCardSaid : Prop := Claim7.holds Tryd.pinned (.plain (OpenSpec.ofChange shellOwnSpec)) shellOwnCard

/-- THE TIED CARD OF 'cairnlaw20.ShellQuotes'. -/
def shellQuotesCard : Claim7 := { stood := { row := shellQuotesRow, standIns := [], harness := (true, "4ede418e3f81ffc194334063a6974a228b814127a72245321d6e83e1c084f7f2"), looks := true }, kinds := [], alts := [], laidByText := true, laidKinds := [.data, .data, .data, .data, .sentinel, .sentinel, .pinned, .pinned], laidTests := true, laidLooks := .later }
def ShellQuotesCardSaid : Prop := Claim7.holds Tryd.pinned (.plain (OpenSpec.ofChange shellQuotesSpec)) shellQuotesCard

/-- THE TIED CARD OF 'cairnlaw20.ShellJoins'. -/
def shellJoinsCard : Claim7 := { stood := { row := shellJoinsRow, standIns := [], harness := (true, "4ede418e3f81ffc194334063a6974a228b814127a72245321d6e83e1c084f7f2"), looks := true }, kinds := [], alts := [], laidByText := true, laidKinds := [.data, .data, .data, .data, .sentinel, .sentinel, .pinned, .pinned], laidTests := true, laidLooks := .later }
def ShellJoinsCardSaid : Prop := Claim7.holds Tryd.pinned (.plain (OpenSpec.ofChange shellJoinsSpec)) shellJoinsCard

/-- THE SECOND FORM's CARD OF 'cairnlaw20.ShellWords'. -/
def shellWordsUptoCard : Claim7 := { stood := { row := shellWordsUptoRow, standIns := [], harness := (true, "4ede418e3f81ffc194334063a6974a228b814127a72245321d6e83e1c084f7f2"), looks := true }, kinds := [], alts := [], laidByText := true, laidKinds := [.data, .data, .data, .data, .sentinel, .sentinel, .pinned, .pinned], laidTests := true, laidLooks := .later }
def ShellWordsUptoCardSaid : Prop := Claim7.holds Tryd.pinned (.plain (OpenSpec.upto shellWordsSpec)) shellWordsUptoCard

/-- THE SECOND FORM's CARD OF 'cairnlaw20.ShellOwn'. -/
def shellOwnUptoCard : Claim7 := { stood := { row := shellOwnUptoRow, standIns := [], harness := (true, "4ede418e3f81ffc194334063a6974a228b814127a72245321d6e83e1c084f7f2"), looks := true }, kinds := [], alts := [], laidByText := true, laidKinds := [.data, .data, .data, .data, .sentinel, .sentinel, .pinned, .pinned], laidTests := true, laidLooks := .later }
def ShellOwnUptoCardSaid : Prop := Claim7.holds Tryd.pinned (.plain (OpenSpec.upto shellOwnSpec)) shellOwnUptoCard

/-- THE SECOND FORM's CARD OF 'cairnlaw20.ShellQuotes'. -/
def shellQuotesUptoCard : Claim7 := { stood := { row := shellQuotesUptoRow, standIns := [], harness := (true, "4ede418e3f81ffc194334063a6974a228b814127a72245321d6e83e1c084f7f2"), looks := true }, kinds := [], alts := [], laidByText := true, laidKinds := [.data, .data, .data, .data, .sentinel, .sentinel, .pinned, .pinned], laidTests := true, laidLooks := .later }
def ShellQuotesUptoCardSaid : Prop := Claim7.holds Tryd.pinned (.plain (OpenSpec.upto shellQuotesSpec)) shellQuotesUptoCard

/-- THE SECOND FORM's CARD OF 'cairnlaw20.ShellJoins'. -/
def shellJoinsUptoCard : Claim7 := { stood := { row := shellJoinsUptoRow, standIns := [], harness := (true, "4ede418e3f81ffc194334063a6974a228b814127a72245321d6e83e1c084f7f2"), looks := true }, kinds := [], alts := [], laidByText := true, laidKinds := [.data, .data, .data, .data, .sentinel, .sentinel, .pinned, .pinned], laidTests := true, laidLooks := .later }
def ShellJoinsUptoCardSaid : Prop := Claim7.holds Tryd.pinned (.plain (OpenSpec.upto shellJoinsSpec)) shellJoinsUptoCard
end Rows
end Go.Proofs.YtlnmampbiapglaaDoor
