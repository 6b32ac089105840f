/-
  DERIVED. GIVEN WITH THE SEED: THE CARDS: each row of YtjickecdkmljpaaGreatDoorRows.lean that lists a variable, with what it lists TIED to the program's text (the seventh form; the later family's looks); each row that meets fmt, with fmt's text TOLD by the authors' own Lean function (tested against real Go, not proved from fmt's source: count such statements apart). THE CARD IS WHAT COUNTS. Prove the row's statement (the work); the ties are given (YtjickecdkmljpaaGreatDoorTie.lean); close each card by the builder's one call (the guide's Derived/Test/ToyasCard.lean, 'card_holds'). Laid BY PROGRAM, IN A SANDBOX (cutbox-door.mjs). By AI agents, Wed Nov 11 2026. No macro, syntax, notation, axiom, sorry.
-/
import Derived.Test.YtjickecdkmljpaaGreatDoorRows
import GoSem.ClaimSeven
namespace Go.Proofs.YtjickecdkmljpaaGreatDoor
namespace Rows

/-- THE TIED CARD OF 'ravellaw.SyntaxParses'. -/
def syntaxParsesCard : Claim7 := { stood := { row := syntaxParsesRow, standIns := [], harness := (true, "7344719ebecaeb29389fd23fd4cae13104b311066b0768552fb74c81de3acda5"), looks := true }, kinds := [], alts := [], laidByText := true, laidKinds := [.data, .data, .data, .data, .sentinel, .sentinel, .listed, .data, .pinned], laidTests := true, laidLooks := .later }
def SyntaxParsesCardSaid : Prop := Claim7.holds Tryz.pinned (.plain (OpenSpec.ofChange syntaxParsesSpec)) syntaxParsesCard

/-- THE TIED CARD OF 'ravellaw.SyntaxPrints'. -/
def syntaxPrintsCard : Claim7 := { stood := { row := syntaxPrintsRow, standIns := [], harness := (true, "7344719ebecaeb29389fd23fd4cae13104b311066b0768552fb74c81de3acda5"), looks := true }, kinds := [], alts := [], laidByText := true, laidKinds := [.data, .data, .data, .data, .sentinel, .sentinel, .listed, .data, .pinned], laidTests := true, laidLooks := .later }
def SyntaxPrintsCardSaid : Prop := Claim7.holds Tryz.pinned (.plain (OpenSpec.ofChange syntaxPrintsSpec)) syntaxPrintsCard

/-- THE TIED CARD OF 'ravelkeep.SyntaxTwice'. -/
def syntaxTwiceCard : Claim7 := { stood := { row := syntaxTwiceRow, standIns := [], harness := (true, "7344719ebecaeb29389fd23fd4cae13104b311066b0768552fb74c81de3acda5"), looks := true }, kinds := [], alts := [], laidByText := true, laidKinds := [.data, .data, .data, .data, .sentinel, .sentinel, .listed, .data, .pinned], laidTests := true, laidLooks := .later }
def SyntaxTwiceCardSaid : Prop := Claim7.holds Tryz.pinned (.plain (OpenSpec.ofChange syntaxTwiceSpec)) syntaxTwiceCard

/-- THE TIED CARD OF 'ravellaw.TypesTell'. -/
def typesTellCard : Claim7 := { stood := { row := typesTellRow, standIns := [], harness := (true, "7344719ebecaeb29389fd23fd4cae13104b311066b0768552fb74c81de3acda5"), looks := true }, kinds := [], alts := [], laidByText := true, laidKinds := [.data, .data, .data, .data, .sentinel, .sentinel, .listed, .data, .pinned], laidTests := true, laidLooks := .later }
def TypesTellCardSaid : Prop := Claim7.holds Tryz.pinned (.plain (OpenSpec.ofChange typesTellSpec)) typesTellCard

/-- THE TIED CARD OF 'ravellaw.CheckTells'. -/
def checkTellsCard : Claim7 := { stood := { row := checkTellsRow, standIns := [], harness := (true, "7344719ebecaeb29389fd23fd4cae13104b311066b0768552fb74c81de3acda5"), looks := true }, kinds := [], alts := [], laidByText := true, laidKinds := [.data, .data, .data, .data, .sentinel, .sentinel, .listed, .data, .pinned], laidTests := true, laidLooks := .later }
def CheckTellsCardSaid : Prop := Claim7.holds Tryz.pinned (.plain (OpenSpec.ofChange checkTellsSpec)) checkTellsCard

/-- THE SECOND FORM's CARD OF 'ravellaw.SyntaxParses'. -/
def syntaxParsesUptoCard : Claim7 := { stood := { row := syntaxParsesUptoRow, standIns := [], harness := (true, "7344719ebecaeb29389fd23fd4cae13104b311066b0768552fb74c81de3acda5"), looks := true }, kinds := [], alts := [], laidByText := true, laidKinds := [.data, .data, .data, .data, .sentinel, .sentinel, .listed, .data, .pinned], laidTests := true, laidLooks := .later }
def SyntaxParsesUptoCardSaid : Prop := Claim7.holds Tryz.pinned (.plain (OpenSpec.upto syntaxParsesSpec)) syntaxParsesUptoCard

/-- THE SECOND FORM's CARD OF 'ravellaw.SyntaxPrints'. -/
def syntaxPrintsUptoCard : Claim7 := { stood := { row := syntaxPrintsUptoRow, standIns := [], harness := (true, "7344719ebecaeb29389fd23fd4cae13104b311066b0768552fb74c81de3acda5"), looks := true }, kinds := [], alts := [], laidByText := true, laidKinds := [.data, .data, .data, .data, .sentinel, .sentinel, .listed, .data, .pinned], laidTests := true, laidLooks := .later }
def SyntaxPrintsUptoCardSaid : Prop := Claim7.holds Tryz.pinned (.plain (OpenSpec.upto syntaxPrintsSpec)) syntaxPrintsUptoCard

/-- THE SECOND FORM's CARD OF 'ravelkeep.SyntaxTwice'. -/
def syntaxTwiceUptoCard : Claim7 := { stood := { row := syntaxTwiceUptoRow, standIns := [], harness := (true, "7344719ebecaeb29389fd23fd4cae13104b311066b0768552fb74c81de3acda5"), looks := true }, kinds := [], alts := [], laidByText := true, laidKinds := [.data, .data, .data, .data, .sentinel, .sentinel, .listed, .data, .pinned], laidTests := true, laidLooks := .later }
def SyntaxTwiceUptoCardSaid : Prop := Claim7.holds Tryz.pinned (.plain (OpenSpec.upto syntaxTwiceSpec)) syntaxTwiceUptoCard

/-- THE SECOND FORM's CARD OF 'ravellaw.TypesTell'. -/
def typesTellUptoCard : Claim7 := { stood := { row := typesTellUptoRow, standIns := [], harness := (true, "7344719ebecaeb29389fd23fd4cae13104b311066b0768552fb74c81de3acda5"), looks := true }, kinds := [], alts := [], laidByText := true, laidKinds := [.data, .data, .data, .data, .sentinel, .sentinel, .listed, .data, .pinned], laidTests := true, laidLooks := .later }
def TypesTellUptoCardSaid : Prop := Claim7.holds Tryz.pinned (.plain (OpenSpec.upto typesTellSpec)) typesTellUptoCard

/-- THE SECOND FORM's CARD OF 'ravellaw.CheckTells'. -/
def checkTellsUptoCard : Claim7 := { stood := { row := checkTellsUptoRow, standIns := [], harness := (true, "7344719ebecaeb29389fd23fd4cae13104b311066b0768552fb74c81de3acda5"), looks := true }, kinds := [], alts := [], laidByText := true, laidKinds := [.data, .data, .data, .data, .sentinel, .sentinel, .listed, .data, .pinned], laidTests := true, laidLooks := .later }
def CheckTellsUptoCardSaid : Prop := Claim7.holds Tryz.pinned (.plain (OpenSpec.upto checkTellsSpec)) checkTellsUptoCard
end Rows
end Go.Proofs.YtjickecdkmljpaaGreatDoor
