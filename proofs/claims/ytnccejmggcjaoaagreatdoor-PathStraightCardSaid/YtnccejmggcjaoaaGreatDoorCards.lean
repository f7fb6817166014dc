/-
  DERIVED. GIVEN WITH THE SEED: THE CARDS: each row of YtnccejmggcjaoaaGreatDoorRows.lean that lists a variable, with what it lists TIED to the program's text (the seventh form; the later family's looks); each row that meets fmt, with fmt's text TOLD by the authors' own Lean function (tested against real Go, not proved from fmt's source: count such statements apart). THE CARD IS WHAT COUNTS. Prove the row's statement (the work); the ties are given (YtnccejmggcjaoaaGreatDoorTie.lean); close each card by the builder's one call (the guide's Derived/Test/ToyasCard.lean, 'card_holds'). Laid BY PROGRAM, IN A SANDBOX (cutbox-door.mjs). By AI agents, Wed Nov 11 2026. No macro, syntax, notation, axiom, sorry.
-/
import Derived.Test.YtnccejmggcjaoaaGreatDoorRows
import GoSem.ClaimSeven
namespace Go.Proofs.YtnccejmggcjaoaaGreatDoor
namespace Rows

/-- THE TIED CARD OF 'jettisonlaw10.ParseNumbers'. -/
def parseNumbersCard : Claim7 := { stood := { row := parseNumbersRow, standIns := [], harness := (true, "2f59317079064f5533ac15d0e2a0e40c3357ad5b4aa9d3011cc4fcaf32b4841c"), looks := true }, kinds := [], alts := [], laidByText := true, laidKinds := [.data, .data, .data, .data, .sentinel, .sentinel, .listed, .data, .pinned], laidTests := true, laidLooks := .later }
def ParseNumbersCardSaid : Prop := Claim7.holds Tryz.pinned (.plain (OpenSpec.ofChange parseNumbersSpec)) parseNumbersCard

/-- THE TIED CARD OF 'jettisonlaw10.ParseBrackets'. -/
def parseBracketsCard : Claim7 := { stood := { row := parseBracketsRow, standIns := [], harness := (true, "2f59317079064f5533ac15d0e2a0e40c3357ad5b4aa9d3011cc4fcaf32b4841c"), looks := true }, kinds := [], alts := [], laidByText := true, laidKinds := [.data, .data, .data, .data, .sentinel, .sentinel, .listed, .data, .pinned], laidTests := true, laidLooks := .later }
def ParseBracketsCardSaid : Prop := Claim7.holds Tryz.pinned (.plain (OpenSpec.ofChange parseBracketsSpec)) parseBracketsCard

/-- THE TIED CARD OF 'jettisonlaw10.ParseBack'. -/
def parseBackCard : Claim7 := { stood := { row := parseBackRow, standIns := [], harness := (true, "2f59317079064f5533ac15d0e2a0e40c3357ad5b4aa9d3011cc4fcaf32b4841c"), looks := true }, kinds := [], alts := [], laidByText := true, laidKinds := [.data, .data, .data, .data, .sentinel, .sentinel, .listed, .data, .pinned], laidTests := true, laidLooks := .later }
def ParseBackCardSaid : Prop := Claim7.holds Tryz.pinned (.plain (OpenSpec.ofChange parseBackSpec)) parseBackCard

/-- THE TIED CARD OF 'jettisonlaw10.ParseAgain'. -/
def parseAgainCard : Claim7 := { stood := { row := parseAgainRow, standIns := [], harness := (true, "2f59317079064f5533ac15d0e2a0e40c3357ad5b4aa9d3011cc4fcaf32b4841c"), looks := true }, kinds := [], alts := [], laidByText := true, laidKinds := [.data, .data, .data, .data, .sentinel, .sentinel, .listed, .data, .pinned], laidTests := true, laidLooks := .later }
def ParseAgainCardSaid : Prop := Claim7.holds Tryz.pinned (.plain (OpenSpec.ofChange parseAgainSpec)) parseAgainCard

/-- THE TIED CARD OF 'jettisonlaw11.CheckTells'. -/
def checkTellsCard : Claim7 := { stood := { row := checkTellsRow, standIns := [], harness := (true, "2f59317079064f5533ac15d0e2a0e40c3357ad5b4aa9d3011cc4fcaf32b4841c"), looks := true }, kinds := [], alts := [], laidByText := true, laidKinds := [.data, .data, .data, .data, .sentinel, .sentinel, .listed, .data, .pinned], laidTests := true, laidLooks := .later }
def CheckTellsCardSaid : Prop := Claim7.holds Tryz.pinned (.plain (OpenSpec.ofChange checkTellsSpec)) checkTellsCard

/-- THE TIED CARD OF 'jettisonlaw11.CheckCounts'. -/
def checkCountsCard : Claim7 := { stood := { row := checkCountsRow, standIns := [], harness := (true, "2f59317079064f5533ac15d0e2a0e40c3357ad5b4aa9d3011cc4fcaf32b4841c"), looks := true }, kinds := [], alts := [], laidByText := true, laidKinds := [.data, .data, .data, .data, .sentinel, .sentinel, .listed, .data, .pinned], laidTests := true, laidLooks := .later }
def CheckCountsCardSaid : Prop := Claim7.holds Tryz.pinned (.plain (OpenSpec.ofChange checkCountsSpec)) checkCountsCard

/-- THE TIED CARD OF 'jettisonlaw11.CheckBy'. -/
def checkByCard : Claim7 := { stood := { row := checkByRow, standIns := [], harness := (true, "2f59317079064f5533ac15d0e2a0e40c3357ad5b4aa9d3011cc4fcaf32b4841c"), looks := true }, kinds := [], alts := [], laidByText := true, laidKinds := [.data, .data, .data, .data, .sentinel, .sentinel, .listed, .data, .pinned], laidTests := true, laidLooks := .later }
def CheckByCardSaid : Prop := Claim7.holds Tryz.pinned (.plain (OpenSpec.ofChange checkBySpec)) checkByCard

/-- THE TIED CARD OF 'jettisonlaw12.PathCounts'. -/
def pathCountsCard : Claim7 := { stood := { row := pathCountsRow, standIns := [], harness := (true, "2f59317079064f5533ac15d0e2a0e40c3357ad5b4aa9d3011cc4fcaf32b4841c"), looks := true }, kinds := [], alts := [], laidByText := true, laidKinds := [.data, .data, .data, .data, .sentinel, .sentinel, .listed, .data, .pinned], laidTests := true, laidLooks := .later }
def PathCountsCardSaid : Prop := Claim7.holds Tryz.pinned (.plain (OpenSpec.ofChange pathCountsSpec)) pathCountsCard

/-- THE TIED CARD OF 'jettisonlaw12.PathStraight'. -/
def pathStraightCard : Claim7 := { stood := { row := pathStraightRow, standIns := [], harness := (true, "2f59317079064f5533ac15d0e2a0e40c3357ad5b4aa9d3011cc4fcaf32b4841c"), looks := true }, kinds := [], alts := [], laidByText := true, laidKinds := [.data, .data, .data, .data, .sentinel, .sentinel, .listed, .data, .pinned], laidTests := true, laidLooks := .later }
def PathStraightCardSaid : Prop := Claim7.holds Tryz.pinned (.plain (OpenSpec.ofChange pathStraightSpec)) pathStraightCard

/-- THE TIED CARD OF 'jettisonlaw12.PathAlts'. -/
def pathAltsCard : Claim7 := { stood := { row := pathAltsRow, standIns := [], harness := (true, "2f59317079064f5533ac15d0e2a0e40c3357ad5b4aa9d3011cc4fcaf32b4841c"), looks := true }, kinds := [], alts := [], laidByText := true, laidKinds := [.data, .data, .data, .data, .sentinel, .sentinel, .listed, .data, .pinned], laidTests := true, laidLooks := .later }
def PathAltsCardSaid : Prop := Claim7.holds Tryz.pinned (.plain (OpenSpec.ofChange pathAltsSpec)) pathAltsCard

/-- THE TIED CARD OF 'jettisonlaw12.PathTells'. -/
def pathTellsCard : Claim7 := { stood := { row := pathTellsRow, standIns := [], harness := (true, "2f59317079064f5533ac15d0e2a0e40c3357ad5b4aa9d3011cc4fcaf32b4841c"), looks := true }, kinds := [], alts := [], laidByText := true, laidKinds := [.data, .data, .data, .data, .sentinel, .sentinel, .listed, .data, .pinned], laidTests := true, laidLooks := .later }
def PathTellsCardSaid : Prop := Claim7.holds Tryz.pinned (.plain (OpenSpec.ofChange pathTellsSpec)) pathTellsCard

/-- THE TIED CARD OF 'jettisonlaw11.CheckBack'. -/
def checkBackCard : Claim7 := { stood := { row := checkBackRow, standIns := [], harness := (true, "2f59317079064f5533ac15d0e2a0e40c3357ad5b4aa9d3011cc4fcaf32b4841c"), looks := true }, kinds := [], alts := [], laidByText := true, laidKinds := [.data, .data, .data, .data, .sentinel, .sentinel, .listed, .data, .pinned], laidTests := true, laidLooks := .later }
def CheckBackCardSaid : Prop := Claim7.holds Tryz.pinned (.plain (OpenSpec.ofChange checkBackSpec)) checkBackCard

/-- THE SECOND FORM's CARD OF 'jettisonlaw10.ParseNumbers'. -/
def parseNumbersUptoCard : Claim7 := { stood := { row := parseNumbersUptoRow, standIns := [], harness := (true, "2f59317079064f5533ac15d0e2a0e40c3357ad5b4aa9d3011cc4fcaf32b4841c"), looks := true }, kinds := [], alts := [], laidByText := true, laidKinds := [.data, .data, .data, .data, .sentinel, .sentinel, .listed, .data, .pinned], laidTests := true, laidLooks := .later }
def ParseNumbersUptoCardSaid : Prop := Claim7.holds Tryz.pinned (.plain (OpenSpec.upto parseNumbersSpec)) parseNumbersUptoCard

/-- THE SECOND FORM's CARD OF 'jettisonlaw10.ParseBrackets'. -/
def parseBracketsUptoCard : Claim7 := { stood := { row := parseBracketsUptoRow, standIns := [], harness := (true, "2f59317079064f5533ac15d0e2a0e40c3357ad5b4aa9d3011cc4fcaf32b4841c"), looks := true }, kinds := [], alts := [], laidByText := true, laidKinds := [.data, .data, .data, .data, .sentinel, .sentinel, .listed, .data, .pinned], laidTests := true, laidLooks := .later }
def ParseBracketsUptoCardSaid : Prop := Claim7.holds Tryz.pinned (.plain (OpenSpec.upto parseBracketsSpec)) parseBracketsUptoCard

/-- THE SECOND FORM's CARD OF 'jettisonlaw10.ParseBack'. -/
def parseBackUptoCard : Claim7 := { stood := { row := parseBackUptoRow, standIns := [], harness := (true, "2f59317079064f5533ac15d0e2a0e40c3357ad5b4aa9d3011cc4fcaf32b4841c"), looks := true }, kinds := [], alts := [], laidByText := true, laidKinds := [.data, .data, .data, .data, .sentinel, .sentinel, .listed, .data, .pinned], laidTests := true, laidLooks := .later }
def ParseBackUptoCardSaid : Prop := Claim7.holds Tryz.pinned (.plain (OpenSpec.upto parseBackSpec)) parseBackUptoCard

/-- THE SECOND FORM's CARD OF 'jettisonlaw10.ParseAgain'. -/
def parseAgainUptoCard : Claim7 := { stood := { row := parseAgainUptoRow, standIns := [], harness := (true, "2f59317079064f5533ac15d0e2a0e40c3357ad5b4aa9d3011cc4fcaf32b4841c"), looks := true }, kinds := [], alts := [], laidByText := true, laidKinds := [.data, .data, .data, .data, .sentinel, .sentinel, .listed, .data, .pinned], laidTests := true, laidLooks := .later }
def ParseAgainUptoCardSaid : Prop := Claim7.holds Tryz.pinned (.plain (OpenSpec.upto parseAgainSpec)) parseAgainUptoCard

/-- THE SECOND FORM's CARD OF 'jettisonlaw11.CheckTells'. -/
def checkTellsUptoCard : Claim7 := { stood := { row := checkTellsUptoRow, standIns := [], harness := (true, "2f59317079064f5533ac15d0e2a0e40c3357ad5b4aa9d3011cc4fcaf32b4841c"), looks := true }, kinds := [], alts := [], laidByText := true, laidKinds := [.data, .data, .data, .data, .sentinel, .sentinel, .listed, .data, .pinned], laidTests := true, laidLooks := .later }
def CheckTellsUptoCardSaid : Prop := Claim7.holds Tryz.pinned (.plain (OpenSpec.upto checkTellsSpec)) checkTellsUptoCard

/-- THE SECOND FORM's CARD OF 'jettisonlaw11.CheckCounts'. -/
def checkCountsUptoCard : Claim7 := { stood := { row := checkCountsUptoRow, standIns := [], harness := (true, "2f59317079064f5533ac15d0e2a0e40c3357ad5b4aa9d3011cc4fcaf32b4841c"), looks := true }, kinds := [], alts := [], laidByText := true, laidKinds := [.data, .data, .data, .data, .sentinel, .sentinel, .listed, .data, .pinned], laidTests := true, laidLooks := .later }
def CheckCountsUptoCardSaid : Prop := Claim7.holds Tryz.pinned (.plain (OpenSpec.upto checkCountsSpec)) checkCountsUptoCard

/-- THE SECOND FORM's CARD OF 'jettisonlaw11.CheckBy'. -/
def checkByUptoCard : Claim7 := { stood := { row := checkByUptoRow, standIns := [], harness := (true, "2f59317079064f5533ac15d0e2a0e40c3357ad5b4aa9d3011cc4fcaf32b4841c"), looks := true }, kinds := [], alts := [], laidByText := true, laidKinds := [.data, .data, .data, .data, .sentinel, .sentinel, .listed, .data, .pinned], laidTests := true, laidLooks := .later }
def CheckByUptoCardSaid : Prop := Claim7.holds Tryz.pinned (.plain (OpenSpec.upto checkBySpec)) checkByUptoCard

/-- THE SECOND FORM's CARD OF 'jettisonlaw12.PathCounts'. -/
def pathCountsUptoCard : Claim7 := { stood := { row := pathCountsUptoRow, standIns := [], harness := (true, "2f59317079064f5533ac15d0e2a0e40c3357ad5b4aa9d3011cc4fcaf32b4841c"), looks := true }, kinds := [], alts := [], laidByText := true, laidKinds := [.data, .data, .data, .data, .sentinel, .sentinel, .listed, .data, .pinned], laidTests := true, laidLooks := .later }
def PathCountsUptoCardSaid : Prop := Claim7.holds Tryz.pinned (.plain (OpenSpec.upto pathCountsSpec)) pathCountsUptoCard

/-- THE SECOND FORM's CARD OF 'jettisonlaw12.PathStraight'. -/
def pathStraightUptoCard : Claim7 := { stood := { row := pathStraightUptoRow, standIns := [], harness := (true, "2f59317079064f5533ac15d0e2a0e40c3357ad5b4aa9d3011cc4fcaf32b4841c"), looks := true }, kinds := [], alts := [], laidByText := true, laidKinds := [.data, .data, .data, .data, .sentinel, .sentinel, .listed, .data, .pinned], laidTests := true, laidLooks := .later }
def PathStraightUptoCardSaid : Prop := Claim7.holds Tryz.pinned (.plain (OpenSpec.upto pathStraightSpec)) pathStraightUptoCard

/-- THE SECOND FORM's CARD OF 'jettisonlaw12.PathAlts'. -/
def pathAltsUptoCard : Claim7 := { stood := { row := pathAltsUptoRow, standIns := [], harness := (true, "2f59317079064f5533ac15d0e2a0e40c3357ad5b4aa9d3011cc4fcaf32b4841c"), looks := true }, kinds := [], alts := [], laidByText := true, laidKinds := [.data, .data, .data, .data, .sentinel, .sentinel, .listed, .data, .pinned], laidTests := true, laidLooks := .later }
def PathAltsUptoCardSaid : Prop := Claim7.holds Tryz.pinned (.plain (OpenSpec.upto pathAltsSpec)) pathAltsUptoCard

/-- THE SECOND FORM's CARD OF 'jettisonlaw12.PathTells'. -/
def pathTellsUptoCard : Claim7 := { stood := { row := pathTellsUptoRow, standIns := [], harness := (true, "2f59317079064f5533ac15d0e2a0e40c3357ad5b4aa9d3011cc4fcaf32b4841c"), looks := true }, kinds := [], alts := [], laidByText := true, laidKinds := [.data, .data, .data, .data, .sentinel, .sentinel, .listed, .data, .pinned], laidTests := true, laidLooks := .later }
def PathTellsUptoCardSaid : Prop := Claim7.holds Tryz.pinned (.plain (OpenSpec.upto pathTellsSpec)) pathTellsUptoCard

/-- THE SECOND FORM's CARD OF 'jettisonlaw11.CheckBack'. -/
def checkBackUptoCard : Claim7 := { stood := { row := checkBackUptoRow, standIns := [], harness := (true, "2f59317079064f5533ac15d0e2a0e40c3357ad5b4aa9d3011cc4fcaf32b4841c"), looks := true }, kinds := [], alts := [], laidByText := true, laidKinds := [.data, .data, .data, .data, .sentinel, .sentinel, .listed, .data, .pinned], laidTests := true, laidLooks := .later }
def CheckBackUptoCardSaid : Prop := Claim7.holds Tryz.pinned (.plain (OpenSpec.upto checkBackSpec)) checkBackUptoCard
end Rows
end Go.Proofs.YtnccejmggcjaoaaGreatDoor
