/-
  ParseNames: what is to be shown of each residue.
-/
import Derived.Test.YtnjjkomopkgidaaGreatDoorEx10
namespace Go.Proofs.YtnjjkomopkgidaaGreatDoor.Av
set_option linter.unusedVariables false
set_option linter.unusedSimpArgs false
set_option maxRecDepth 1000000
open Go
def row_Names_0 : List (List UInt8) := [[65], [120, 95, 49], [195, 169], [87, 73, 84, 72, 73, 78], [66, 89], [57, 97], [], [97, 98, 99, 100, 101, 102, 103, 104, 105, 106, 107, 108, 109, 110, 111, 112, 113, 114, 115, 116, 117, 118, 119, 120, 121], [255], [65, 57]]
theorem fill_Names_0 (tm : Tr V) : fillV tm [(.str []), (.str []), (.str []), (.str []), (.str []), (.str []), (.str []), (.str []), (.str []), (.str [])] [(0, (1, (.c (.str [65])))), (1, (1, (.c (.str [120, 95, 49])))), (2, (1, (.c (.str [195, 169])))), (3, (1, (.c (.str [87, 73, 84, 72, 73, 78])))), (4, (1, (.c (.str [66, 89])))), (5, (1, (.c (.str [57, 97])))), (6, (1, (.c (.str [])))), (7, (1, (.c (.str [97, 98, 99, 100, 101, 102, 103, 104, 105, 106, 107, 108, 109, 110, 111, 112, 113, 114, 115, 116, 117, 118, 119, 120, 121])))), (8, (1, (.c (.str [255])))), (9, (1, (.c (.str [65, 57]))))] = some (row_Names_0.map V.str) := Eq.trans (Eq.refl _) rfl
theorem row_get_Names (l : List (List UInt8)) (r : Nat) (h : r < l.length) : (l.map V.str)[r]? = some (.str ((l[r]?).getD [])) := by rw [List.getElem?_map, List.getElem?_eq_getElem h]; rfl
noncomputable def rest_Names : CEv := (cSeq c5_7 (cSeq c5_8 (cSeq (cSeq c5_9 c5_10) (cSeq c5_11 cRet))))
noncomputable def tm_Names (n0 n1 r0 r1 : Nat) : Tr V := (((((((((((((((((((((Tr.leaf.to (pa 0) (some (.int 8 (.ofNat n0)))).to (pa 1) (some (.int 8 (.ofNat n1)))).to (pa 4) (some (.bool false))).to (pa 13) (some (.bool true))).to (pa 5) (some (.bool true))).to (pa 14) (some (.bool true))).to (pa 15) (some (.bool false))).to (pa 16) (some (.ref 3 11 0 10 10 true))).to (pa 6) (some (.ref 3 11 0 10 10 true))).to (pa 17) (some (.ref 3 11 0 10 10 true))).to (pa 18) (some (.int 8 (.ofNat n0)))).to (pa 19) (some (.int 8 (.ofNat r0)))).to (pa 20) (some (.ref 1 11 r0 0 0 false))).to (pa 21) (some (.str ((row_Names_0[r0]?).getD [])))).to (pa 7) (some (.str ((row_Names_0[r0]?).getD [])))).to (pa 22) (some (.ref 3 11 0 10 10 true))).to (pa 23) (some (.int 8 (.ofNat n1)))).to (pa 24) (some (.int 8 (.ofNat r1)))).to (pa 25) (some (.ref 1 11 r1 0 0 false))).to (pa 26) (some (.str ((row_Names_0[r1]?).getD [])))).to (pa 8) (some (.str ((row_Names_0[r1]?).getD []))))
noncomputable def st_Names : St := (st0.new (.cells 9 (row_Names_0.map V.str) true))
def Good_Names (r0 r1 : Nat) : Prop := ∀ n0 n1 : Nat, leaveF st0 [.t (pa 4)] (rest_Names (evF tableY 1000) 1000 (tm_Names n0 n1 r0 r1) st_Names) = some (.ret (.bool true), st0)
end Go.Proofs.YtnjjkomopkgidaaGreatDoor.Av
