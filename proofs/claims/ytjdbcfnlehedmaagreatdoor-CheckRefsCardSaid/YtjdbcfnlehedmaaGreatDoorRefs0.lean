/-
  CheckRefs: its rest, told by what it hangs on.
-/
import Derived.Test.YtjdbcfnlehedmaaGreatDoorEx
namespace Go.Proofs.YtjdbcfnlehedmaaGreatDoor.Av
set_option linter.unusedVariables false
set_option linter.unusedSimpArgs false
set_option maxRecDepth 1000000
open Go

def names4 : List V := [.str [65], .str [66], .str [67], .str [65]]
def vars5 : List V := [.str [97], .str [98], .str [99], .str [100], .str [101]]
def fields4 : List V := [.str [107], .str [120], .str [121], .str [122]]
noncomputable def stR : St := ((st0.new (.cells 9 names4 true)).new (.cells 9 vars5 true)).new (.cells 9 fields4 true)
noncomputable def restC : CEv := (cSeq c3_9 (cSeq (cSeq c3_10 c3_11) (cSeq c3_12 (cSeq c3_13 (cSeq c3_14 (cSeq (cSeq c3_15 c3_16) (cSeq c3_17 cRet)))))))
noncomputable def tmR (y0 y1 y2 y26 y27 y29 y30 y33 y34 y35 : V) (b : Bool) (r1 r2 : Nat) (f : List UInt8) : Tr V :=
  (((((((((((((((((((((((((((Tr.leaf.to (pa 0) (some (y0))).to (pa 1) (some (y1))).to (pa 2) (some (y2))).to (pa 3) (some (.bool b))).to (pa 8) (some (.bool false))).to (pa 21) (some (.bool true))).to (pa 9) (some (.bool true))).to (pa 22) (some (.bool true))).to (pa 23) (some (.bool false))).to (pa 24) (some (.ref 3 11 0 4 4 true))).to (pa 10) (some (.ref 3 11 0 4 4 true))).to (pa 25) (some (.ref 3 (11 + 1) 0 5 5 true))).to (pa 11) (some (.ref 3 (11 + 1) 0 5 5 true))).to (pa 26) (some (y26))).to (pa 27) (some (y27))).to (pa 28) (some (.int 63 (.ofNat r1)))).to (pa 12) (some (.int 63 (.ofNat r1)))).to (pa 29) (some (y29))).to (pa 30) (some (y30))).to (pa 31) (some (.int 63 (.ofNat r2)))).to (pa 13) (some (.int 63 (.ofNat r2)))).to (pa 32) (some (.ref 3 (11 + 2) 0 4 4 true))).to (pa 33) (some (y33))).to (pa 34) (some (y34))).to (pa 35) (some (y35))).to (pa 36) (some (.str f))).to (pa 14) (some (.str f)))
def Good (b : Bool) (r1 r2 : Nat) (f : List UInt8) : Prop := ∀ y0 y1 y2 y26 y27 y29 y30 y33 y34 y35 : V, leaveF st0 [.t (pa 8)] (restC (evF tableA 1000) 1000 (tmR y0 y1 y2 y26 y27 y29 y30 y33 y34 y35 b r1 r2 f) stR) = some (.ret (.bool true), st0)
end Go.Proofs.YtjdbcfnlehedmaaGreatDoor.Av
