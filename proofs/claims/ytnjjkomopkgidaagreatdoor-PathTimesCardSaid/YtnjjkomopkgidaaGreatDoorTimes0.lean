/-
  PathTimes: what is to be shown of each residue.
-/
import Derived.Test.YtnjjkomopkgidaaGreatDoorEx12
namespace Go.Proofs.YtnjjkomopkgidaaGreatDoor.Av
set_option linter.unusedVariables false
set_option linter.unusedSimpArgs false
set_option maxRecDepth 1000000
open Go
noncomputable def rest_Times : CEv := (cSeq c9_7 (cSeq (cSeq c9_8 c9_9) (cSeq c9_10 (cSeq c9_11 (cSeq (cSeq c9_12 c9_13) (cSeq (cSeq c9_14 c9_15) (cSeq c9_16 cRet)))))))
noncomputable def tm_Times (n0 n1 n2 r0 r1 r2 : Nat) : Tr V := (((((((((((((((((((((((((Tr.leaf.to (pa 0) (some (.int 8 (.ofNat n0)))).to (pa 1) (some (.int 8 (.ofNat n1)))).to (pa 2) (some (.int 8 (.ofNat n2)))).to (pa 6) (some (.bool false))).to (pa 18) (some (.bool true))).to (pa 7) (some (.bool true))).to (pa 19) (some (.bool true))).to (pa 20) (some (.bool false))).to (pa 21) (some (.int 8 (.ofNat n0)))).to (pa 22) (some (.int 8 (.ofNat r0)))).to (pa 23) (some (.int 63 (.ofNat r0)))).to (pa 24) (some (.int 63 (.ofNat (1 + r0))))).to (pa 8) (some (.int 63 (.ofNat (1 + r0))))).to (pa 25) (some (.int 63 (.ofNat (1 + r0))))).to (pa 26) (some (.int 8 (.ofNat n1)))).to (pa 27) (some (.int 63 (.ofNat n1)))).to (pa 28) (some (.int 63 (.ofNat (1 + r0))))).to (pa 29) (some (.int 63 (.ofNat (4 - r0))))).to (pa 30) (some (.int 63 (.ofNat r1)))).to (pa 31) (some (.int 63 (.ofNat (1 + r0 + r1))))).to (pa 9) (some (.int 63 (.ofNat (1 + r0 + r1))))).to (pa 32) (some (.int 8 (.ofNat n2)))).to (pa 33) (some (.int 8 (.ofNat r2)))).to (pa 34) (some (.int 63 (.ofNat r2)))).to (pa 10) (some (.int 63 (.ofNat r2))))
noncomputable def st_Times : St := st0
def Good_Times (r0 r1 r2 : Nat) : Prop := ∀ n0 n1 n2 : Nat, leaveF st0 [.t (pa 6)] (rest_Times (evF tableX 1000) 1000 (tm_Times n0 n1 n2 r0 r1 r2) st_Times) = some (.ret (.bool true), st0)
end Go.Proofs.YtnjjkomopkgidaaGreatDoor.Av
