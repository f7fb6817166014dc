/-
  ParseItems: what is to be shown of each residue.
-/
import Derived.Test.YtnjjkomopkgidaaGreatDoorEx10
namespace Go.Proofs.YtnjjkomopkgidaaGreatDoor.Av
set_option linter.unusedVariables false
set_option linter.unusedSimpArgs false
set_option maxRecDepth 1000000
open Go
noncomputable def rest_Items : CEv := (cSeq c3_5 (cSeq (cSeq c3_6 c3_7) (cSeq c3_8 (cSeq c3_9 (cSeq (cSeq c3_10 c3_11) (cSeq c3_12 cRet))))))
noncomputable def tm_Items (n0 r0 : Nat) : Tr V := (((((((((((Tr.leaf.to (pa 0) (some (.int 8 (.ofNat n0)))).to (pa 2) (some (.bool false))).to (pa 14) (some (.bool true))).to (pa 3) (some (.bool true))).to (pa 15) (some (.bool true))).to (pa 16) (some (.bool false))).to (pa 17) (some (.int 8 (.ofNat n0)))).to (pa 18) (some (.int 8 (.ofNat r0)))).to (pa 19) (some (.int 63 (.ofNat r0)))).to (pa 20) (some (.int 63 (.ofNat (1 + r0))))).to (pa 4) (some (.int 63 (.ofNat (1 + r0)))))
noncomputable def st_Items : St := st0
def Good_Items (r0 : Nat) : Prop := ∀ n0 : Nat, leaveF st0 [.t (pa 2)] (rest_Items (evF tableX 1000) 1000 (tm_Items n0 r0) st_Items) = some (.ret (.bool true), st0)
end Go.Proofs.YtnjjkomopkgidaaGreatDoor.Av
