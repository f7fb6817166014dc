/-
  ParseLevels: what is to be shown of each residue.
-/
import Derived.Test.YtnjjkomopkgidaaGreatDoorEx10
namespace Go.Proofs.YtnjjkomopkgidaaGreatDoor.Av
set_option linter.unusedVariables false
set_option linter.unusedSimpArgs false
set_option maxRecDepth 1000000
open Go
def row_Levels_0 : List (List UInt8) := [[124, 124], [38, 38], [61, 61], [33, 61], [60], [60, 61], [62], [62, 61], [43], [45], [42], [47], [37]]
theorem fill_Levels_0 (tm : Tr V) : fillV tm [(.str []), (.str []), (.str []), (.str []), (.str []), (.str []), (.str []), (.str []), (.str []), (.str []), (.str []), (.str []), (.str [])] [(0, (1, (.c (.str [124, 124])))), (1, (1, (.c (.str [38, 38])))), (2, (1, (.c (.str [61, 61])))), (3, (1, (.c (.str [33, 61])))), (4, (1, (.c (.str [60])))), (5, (1, (.c (.str [60, 61])))), (6, (1, (.c (.str [62])))), (7, (1, (.c (.str [62, 61])))), (8, (1, (.c (.str [43])))), (9, (1, (.c (.str [45])))), (10, (1, (.c (.str [42])))), (11, (1, (.c (.str [47])))), (12, (1, (.c (.str [37]))))] = some (row_Levels_0.map V.str) := Eq.trans (Eq.refl _) rfl
def row_Levels_2 : List V := [.int 63 1, .int 63 2, .int 63 3, .int 63 3, .int 63 4, .int 63 4, .int 63 4, .int 63 4, .int 63 5, .int 63 5, .int 63 6, .int 63 6, .int 63 6]
theorem fill_Levels_2 (tm : Tr V) : fillV tm [(.int 63 0), (.int 63 0), (.int 63 0), (.int 63 0), (.int 63 0), (.int 63 0), (.int 63 0), (.int 63 0), (.int 63 0), (.int 63 0), (.int 63 0), (.int 63 0), (.int 63 0)] [(0, (1, (.c (.int 63 1)))), (1, (1, (.c (.int 63 2)))), (2, (1, (.c (.int 63 3)))), (3, (1, (.c (.int 63 3)))), (4, (1, (.c (.int 63 4)))), (5, (1, (.c (.int 63 4)))), (6, (1, (.c (.int 63 4)))), (7, (1, (.c (.int 63 4)))), (8, (1, (.c (.int 63 5)))), (9, (1, (.c (.int 63 5)))), (10, (1, (.c (.int 63 6)))), (11, (1, (.c (.int 63 6)))), (12, (1, (.c (.int 63 6))))] = some row_Levels_2 := Eq.trans (Eq.refl _) rfl
theorem row_get_Levels (l : List (List UInt8)) (r : Nat) (h : r < l.length) : (l.map V.str)[r]? = some (.str ((l[r]?).getD [])) := by rw [List.getElem?_map, List.getElem?_eq_getElem h]; rfl
noncomputable def rest_Levels : CEv := (cSeq c7_8 (cSeq c7_9 (cSeq c7_10 (cSeq (cSeq c7_11 c7_12) (cSeq c7_13 cRet)))))
noncomputable def tm_Levels (n0 n1 r0 r1 : Nat) : Tr V := (((((((((((((((((((Tr.leaf.to (pa 0) (some (.int 8 (.ofNat n0)))).to (pa 1) (some (.int 8 (.ofNat n1)))).to (pa 4) (some (.bool false))).to (pa 19) (some (.bool true))).to (pa 5) (some (.bool true))).to (pa 20) (some (.bool true))).to (pa 21) (some (.bool false))).to (pa 22) (some (.ref 3 11 0 13 13 true))).to (pa 6) (some (.ref 3 11 0 13 13 true))).to (pa 23) (some (.ref 3 12 0 13 13 true))).to (pa 7) (some (.ref 3 12 0 13 13 true))).to (pa 24) (some (.int 8 (.ofNat n0)))).to (pa 25) (some (.int 8 (.ofNat r0)))).to (pa 26) (some (.int 63 (.ofNat r0)))).to (pa 8) (some (.int 63 (.ofNat r0)))).to (pa 27) (some (.int 8 (.ofNat n1)))).to (pa 28) (some (.int 8 (.ofNat r1)))).to (pa 29) (some (.int 63 (.ofNat r1)))).to (pa 9) (some (.int 63 (.ofNat r1))))
noncomputable def st_Levels : St := ((st0.new (.cells 9 (row_Levels_0.map V.str) true)).new (.cells 3 row_Levels_2 true))
def Good_Levels (r0 r1 : Nat) : Prop := ∀ n0 n1 : Nat, leaveF st0 [.t (pa 4)] (rest_Levels (evF tableX 1000) 1000 (tm_Levels n0 n1 r0 r1) st_Levels) = some (.ret (.bool true), st0)
end Go.Proofs.YtnjjkomopkgidaaGreatDoor.Av
