/-
  DERIVED. GIVEN WITH THE SEED: THE CARDS: each row of YtjdbcfnlehedmaaGreatDoorRows.lean that lists a variable, with what it lists TIED to the program's text (the seventh form; the later family's looks); each row that meets fmt, with fmt's text TOLD by the authors' own Lean function (tested against real Go, not proved from fmt's source: count such statements apart). THE CARD IS WHAT COUNTS. Prove the row's statement (the work); the ties are given (YtjdbcfnlehedmaaGreatDoorTie.lean); close each card by the builder's one call (the guide's Derived/Test/ToyasCard.lean, 'card_holds'). Laid BY PROGRAM, IN A SANDBOX (cutbox-door.mjs). By AI agents, Wed Nov 11 2026. No macro, syntax, notation, axiom, sorry.
-/
import Derived.Test.YtjdbcfnlehedmaaGreatDoorRows
import GoSem.ClaimSeven
namespace Go.Proofs.YtjdbcfnlehedmaaGreatDoor
namespace Rows

/-- THE TIED CARD OF 'jettisonlaw11.CheckRefs'. -/
def checkRefsCard : Claim7 := { stood := { row := checkRefsRow, standIns := [], harness := (true, "28e4fe5a836d98579c01558466906319a49eba8bf92a43361e14d6b63244245e"), looks := true }, kinds := [], alts := [], laidByText := true, laidKinds := [.data, .data, .data, .data, .sentinel, .sentinel, .listed, .data, .pinned], laidTests := true, laidLooks := .later }
def CheckRefsCardSaid : Prop := Claim7.holds Tryz.pinned (.plain (OpenSpec.ofChange checkRefsSpec)) checkRefsCard

/-- THE TIED CARD OF 'jettisonlaw11.CheckBy'. -/
def checkByCard : Claim7 := { stood := { row := checkByRow, standIns := [], harness := (true, "28e4fe5a836d98579c01558466906319a49eba8bf92a43361e14d6b63244245e"), looks := true }, kinds := [], alts := [], laidByText := true, laidKinds := [.data, .data, .data, .data, .sentinel, .sentinel, .listed, .data, .pinned], laidTests := true, laidLooks := .later }
def CheckByCardSaid : Prop := Claim7.holds Tryz.pinned (.plain (OpenSpec.ofChange checkBySpec)) checkByCard

/-- THE TIED CARD OF 'jettisonlaw11.CheckNots'. -/
def checkNotsCard : Claim7 := { stood := { row := checkNotsRow, standIns := [], harness := (true, "28e4fe5a836d98579c01558466906319a49eba8bf92a43361e14d6b63244245e"), looks := true }, kinds := [], alts := [], laidByText := true, laidKinds := [.data, .data, .data, .data, .sentinel, .sentinel, .listed, .data, .pinned], laidTests := true, laidLooks := .later }
def CheckNotsCardSaid : Prop := Claim7.holds Tryz.pinned (.plain (OpenSpec.ofChange checkNotsSpec)) checkNotsCard

/-- THE SECOND FORM's CARD OF 'jettisonlaw11.CheckRefs'. -/
def checkRefsUptoCard : Claim7 := { stood := { row := checkRefsUptoRow, standIns := [], harness := (true, "28e4fe5a836d98579c01558466906319a49eba8bf92a43361e14d6b63244245e"), looks := true }, kinds := [], alts := [], laidByText := true, laidKinds := [.data, .data, .data, .data, .sentinel, .sentinel, .listed, .data, .pinned], laidTests := true, laidLooks := .later }
def CheckRefsUptoCardSaid : Prop := Claim7.holds Tryz.pinned (.plain (OpenSpec.upto checkRefsSpec)) checkRefsUptoCard

/-- THE SECOND FORM's CARD OF 'jettisonlaw11.CheckBy'. -/
def checkByUptoCard : Claim7 := { stood := { row := checkByUptoRow, standIns := [], harness := (true, "28e4fe5a836d98579c01558466906319a49eba8bf92a43361e14d6b63244245e"), looks := true }, kinds := [], alts := [], laidByText := true, laidKinds := [.data, .data, .data, .data, .sentinel, .sentinel, .listed, .data, .pinned], laidTests := true, laidLooks := .later }
def CheckByUptoCardSaid : Prop := Claim7.holds Tryz.pinned (.plain (OpenSpec.upto checkBySpec)) checkByUptoCard

/-- THE SECOND FORM's CARD OF 'jettisonlaw11.CheckNots'. -/
def checkNotsUptoCard : Claim7 := { stood := { row := checkNotsUptoRow, standIns := [], harness := (true, "28e4fe5a836d98579c01558466906319a49eba8bf92a43361e14d6b63244245e"), looks := true }, kinds := [], alts := [], laidByText := true, laidKinds := [.data, .data, .data, .data, .sentinel, .sentinel, .listed, .data, .pinned], laidTests := true, laidLooks := .later }
def CheckNotsUptoCardSaid : Prop := Claim7.holds Tryz.pinned (.plain (OpenSpec.upto checkNotsSpec)) checkNotsUptoCard
end Rows
end Go.Proofs.YtjdbcfnlehedmaaGreatDoor
