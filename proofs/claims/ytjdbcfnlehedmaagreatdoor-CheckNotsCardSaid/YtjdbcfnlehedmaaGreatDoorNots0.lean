/-
  CheckNots: its first state, and what is to be shown of it.
-/
import Derived.Test.YtjdbcfnlehedmaaGreatDoorExs
import Derived.Test.YtjdbcfnlehedmaaGreatDoorArgs
namespace Go.Proofs.YtjdbcfnlehedmaaGreatDoor.Av
set_option linter.unusedVariables false
set_option maxRecDepth 1000000
open Go
noncomputable def stN (bs : List Bool) : St := { next := 11 + 1, low := 11 + 1, mem := mem0.set 11 (some (.cells 4 (bs.map .bool) false)) }
def NotsOk (bs : List Bool) : Prop := ∀ (cap : Nat) (alt : Bool), evF tableC 1001 5 [.ref 3 11 0 bs.length cap true, .bool alt] (stN bs) = some (.ret (.bool true), stN bs)
end Go.Proofs.YtjdbcfnlehedmaaGreatDoor.Av
