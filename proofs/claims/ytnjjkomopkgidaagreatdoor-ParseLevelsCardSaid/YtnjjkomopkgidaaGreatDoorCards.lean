/-
  DERIVED. GIVEN WITH THE SEED: THE CARDS: each row of YtnjjkomopkgidaaGreatDoorRows.lean that lists a variable, with what it lists TIED to the program's text (the seventh form; the later family's looks); each row that meets fmt, with fmt's text TOLD by the authors' own Lean function (tested against real Go, not proved from fmt's source: count such statements apart). THE CARD IS WHAT COUNTS. Prove the row's statement (the work); the ties are given (YtnjjkomopkgidaaGreatDoorTie.lean); close each card by the builder's one call (the guide's Derived/Test/ToyasCard.lean, 'card_holds'). Laid BY PROGRAM, IN A SANDBOX (cutbox-door.mjs). By AI agents, Wed Nov 11 2026. No macro, syntax, notation, axiom, sorry.
-/
import Derived.Test.YtnjjkomopkgidaaGreatDoorRows
import GoSem.ClaimSeven
namespace Go.Proofs.YtnjjkomopkgidaaGreatDoor
namespace Rows

/-- THE TIED CARD OF 'jettisonlaw10.ParseItems'. -/
def parseItemsCard : Claim7 := { stood := { row := parseItemsRow, standIns := [], harness := (true, "6b6927b444da784facf9ac3daa3bd8294e86e2c4511558f84d844ca79636b282"), looks := true }, kinds := [], alts := [], laidByText := true, laidKinds := [.data, .data, .data, .data, .sentinel, .sentinel, .listed, .data, .pinned], laidTests := true, laidLooks := .later }
def ParseItemsCardSaid : Prop := Claim7.holds Tryz.pinned (.plain (OpenSpec.ofChange parseItemsSpec)) parseItemsCard

/-- THE TIED CARD OF 'jettisonlaw10.ParseNumbers'. -/
def parseNumbersCard : Claim7 := { stood := { row := parseNumbersRow, standIns := [], harness := (true, "6b6927b444da784facf9ac3daa3bd8294e86e2c4511558f84d844ca79636b282"), looks := true }, kinds := [], alts := [], laidByText := true, laidKinds := [.data, .data, .data, .data, .sentinel, .sentinel, .listed, .data, .pinned], laidTests := true, laidLooks := .later }
def ParseNumbersCardSaid : Prop := Claim7.holds Tryz.pinned (.plain (OpenSpec.ofChange parseNumbersSpec)) parseNumbersCard

/-- THE TIED CARD OF 'jettisonlaw10.ParseNames'. -/
def parseNamesCard : Claim7 := { stood := { row := parseNamesRow, standIns := [], harness := (true, "6b6927b444da784facf9ac3daa3bd8294e86e2c4511558f84d844ca79636b282"), looks := true }, kinds := [], alts := [], laidByText := true, laidKinds := [.data, .data, .data, .data, .sentinel, .sentinel, .listed, .data, .pinned], laidTests := true, laidLooks := .later }
def ParseNamesCardSaid : Prop := Claim7.holds Tryz.pinned (.plain (OpenSpec.ofChange parseNamesSpec)) parseNamesCard

/-- THE TIED CARD OF 'jettisonlaw10.ParseDeep'. -/
def parseDeepCard : Claim7 := { stood := { row := parseDeepRow, standIns := [], harness := (true, "6b6927b444da784facf9ac3daa3bd8294e86e2c4511558f84d844ca79636b282"), looks := true }, kinds := [], alts := [], laidByText := true, laidKinds := [.data, .data, .data, .data, .sentinel, .sentinel, .listed, .data, .pinned], laidTests := true, laidLooks := .later }
def ParseDeepCardSaid : Prop := Claim7.holds Tryz.pinned (.plain (OpenSpec.ofChange parseDeepSpec)) parseDeepCard

/-- THE TIED CARD OF 'jettisonlaw10.ParseLevels'. -/
def parseLevelsCard : Claim7 := { stood := { row := parseLevelsRow, standIns := [], harness := (true, "6b6927b444da784facf9ac3daa3bd8294e86e2c4511558f84d844ca79636b282"), looks := true }, kinds := [], alts := [], laidByText := true, laidKinds := [.data, .data, .data, .data, .sentinel, .sentinel, .listed, .data, .pinned], laidTests := true, laidLooks := .later }
def ParseLevelsCardSaid : Prop := Claim7.holds Tryz.pinned (.plain (OpenSpec.ofChange parseLevelsSpec)) parseLevelsCard

/-- THE TIED CARD OF 'jettisonlaw12.PathStraight'. -/
def pathStraightCard : Claim7 := { stood := { row := pathStraightRow, standIns := [], harness := (true, "6b6927b444da784facf9ac3daa3bd8294e86e2c4511558f84d844ca79636b282"), looks := true }, kinds := [], alts := [], laidByText := true, laidKinds := [.data, .data, .data, .data, .sentinel, .sentinel, .listed, .data, .pinned], laidTests := true, laidLooks := .later }
def PathStraightCardSaid : Prop := Claim7.holds Tryz.pinned (.plain (OpenSpec.ofChange pathStraightSpec)) pathStraightCard

/-- THE TIED CARD OF 'jettisonlaw12.PathTimes'. -/
def pathTimesCard : Claim7 := { stood := { row := pathTimesRow, standIns := [], harness := (true, "6b6927b444da784facf9ac3daa3bd8294e86e2c4511558f84d844ca79636b282"), looks := true }, kinds := [], alts := [], laidByText := true, laidKinds := [.data, .data, .data, .data, .sentinel, .sentinel, .listed, .data, .pinned], laidTests := true, laidLooks := .later }
def PathTimesCardSaid : Prop := Claim7.holds Tryz.pinned (.plain (OpenSpec.ofChange pathTimesSpec)) pathTimesCard

/-- THE SECOND FORM's CARD OF 'jettisonlaw10.ParseItems'. -/
def parseItemsUptoCard : Claim7 := { stood := { row := parseItemsUptoRow, standIns := [], harness := (true, "6b6927b444da784facf9ac3daa3bd8294e86e2c4511558f84d844ca79636b282"), looks := true }, kinds := [], alts := [], laidByText := true, laidKinds := [.data, .data, .data, .data, .sentinel, .sentinel, .listed, .data, .pinned], laidTests := true, laidLooks := .later }
def ParseItemsUptoCardSaid : Prop := Claim7.holds Tryz.pinned (.plain (OpenSpec.upto parseItemsSpec)) parseItemsUptoCard

/-- THE SECOND FORM's CARD OF 'jettisonlaw10.ParseNumbers'. -/
def parseNumbersUptoCard : Claim7 := { stood := { row := parseNumbersUptoRow, standIns := [], harness := (true, "6b6927b444da784facf9ac3daa3bd8294e86e2c4511558f84d844ca79636b282"), looks := true }, kinds := [], alts := [], laidByText := true, laidKinds := [.data, .data, .data, .data, .sentinel, .sentinel, .listed, .data, .pinned], laidTests := true, laidLooks := .later }
def ParseNumbersUptoCardSaid : Prop := Claim7.holds Tryz.pinned (.plain (OpenSpec.upto parseNumbersSpec)) parseNumbersUptoCard

/-- THE SECOND FORM's CARD OF 'jettisonlaw10.ParseNames'. -/
def parseNamesUptoCard : Claim7 := { stood := { row := parseNamesUptoRow, standIns := [], harness := (true, "6b6927b444da784facf9ac3daa3bd8294e86e2c4511558f84d844ca79636b282"), looks := true }, kinds := [], alts := [], laidByText := true, laidKinds := [.data, .data, .data, .data, .sentinel, .sentinel, .listed, .data, .pinned], laidTests := true, laidLooks := .later }
def ParseNamesUptoCardSaid : Prop := Claim7.holds Tryz.pinned (.plain (OpenSpec.upto parseNamesSpec)) parseNamesUptoCard

/-- THE SECOND FORM's CARD OF 'jettisonlaw10.ParseDeep'. -/
def parseDeepUptoCard : Claim7 := { stood := { row := parseDeepUptoRow, standIns := [], harness := (true, "6b6927b444da784facf9ac3daa3bd8294e86e2c4511558f84d844ca79636b282"), looks := true }, kinds := [], alts := [], laidByText := true, laidKinds := [.data, .data, .data, .data, .sentinel, .sentinel, .listed, .data, .pinned], laidTests := true, laidLooks := .later }
def ParseDeepUptoCardSaid : Prop := Claim7.holds Tryz.pinned (.plain (OpenSpec.upto parseDeepSpec)) parseDeepUptoCard

/-- THE SECOND FORM's CARD OF 'jettisonlaw10.ParseLevels'. -/
def parseLevelsUptoCard : Claim7 := { stood := { row := parseLevelsUptoRow, standIns := [], harness := (true, "6b6927b444da784facf9ac3daa3bd8294e86e2c4511558f84d844ca79636b282"), looks := true }, kinds := [], alts := [], laidByText := true, laidKinds := [.data, .data, .data, .data, .sentinel, .sentinel, .listed, .data, .pinned], laidTests := true, laidLooks := .later }
def ParseLevelsUptoCardSaid : Prop := Claim7.holds Tryz.pinned (.plain (OpenSpec.upto parseLevelsSpec)) parseLevelsUptoCard

/-- THE SECOND FORM's CARD OF 'jettisonlaw12.PathStraight'. -/
def pathStraightUptoCard : Claim7 := { stood := { row := pathStraightUptoRow, standIns := [], harness := (true, "6b6927b444da784facf9ac3daa3bd8294e86e2c4511558f84d844ca79636b282"), looks := true }, kinds := [], alts := [], laidByText := true, laidKinds := [.data, .data, .data, .data, .sentinel, .sentinel, .listed, .data, .pinned], laidTests := true, laidLooks := .later }
def PathStraightUptoCardSaid : Prop := Claim7.holds Tryz.pinned (.plain (OpenSpec.upto pathStraightSpec)) pathStraightUptoCard

/-- THE SECOND FORM's CARD OF 'jettisonlaw12.PathTimes'. -/
def pathTimesUptoCard : Claim7 := { stood := { row := pathTimesUptoRow, standIns := [], harness := (true, "6b6927b444da784facf9ac3daa3bd8294e86e2c4511558f84d844ca79636b282"), looks := true }, kinds := [], alts := [], laidByText := true, laidKinds := [.data, .data, .data, .data, .sentinel, .sentinel, .listed, .data, .pinned], laidTests := true, laidLooks := .later }
def PathTimesUptoCardSaid : Prop := Claim7.holds Tryz.pinned (.plain (OpenSpec.upto pathTimesSpec)) pathTimesUptoCard
end Rows
end Go.Proofs.YtnjjkomopkgidaaGreatDoor
