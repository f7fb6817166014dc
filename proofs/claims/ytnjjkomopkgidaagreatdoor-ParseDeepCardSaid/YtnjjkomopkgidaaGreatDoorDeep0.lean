/-
  ParseDeep: what is to be shown of each text.
-/
import Derived.Test.YtnjjkomopkgidaaGreatDoorEx10
namespace Go.Proofs.YtnjjkomopkgidaaGreatDoor.Av
set_option linter.unusedVariables false
set_option maxRecDepth 1000000
open Go
def opens : List (List UInt8) := [[40], [45], [33]]
noncomputable def openOf (w : Nat) : UInt8 := Nat.rec 40 (fun w _ => Nat.rec 45 (fun _ _ => 33) w) w
noncomputable def stD : St := st0.new (.cells 9 (opens.map V.str) true)
noncomputable def repL (o : UInt8) (k : Nat) : List UInt8 := Nat.rec [] (fun _ ih => o :: ih) k
noncomputable def deepS (r w : Nat) : List UInt8 := appL (appL (repL (openOf w) r) [97, 46, 120]) (Nat.rec (repL 41 r) (fun _ _ => []) w)
def zeroE : List V := [.int 63 0, .str [], .int 63 0, .str [], .str [], .ref 2 0 0 0 0 false]
/-- Behind the expression's making. -/
noncomputable def stE (ST : St) (X : List V) : St := (ST.new (.cells 43 zeroE true)).put ST.next (some (.cells 43 (splice zeroE 0 X) true))
noncomputable def sizeOk (X : List V) (ST : St) (m : Nat) : Bool := match evF tableX 1000 15 [.agg X] (stE ST X) with
  | some (.ret (.int 63 (.ofNat k)), ST') => Nat.beq k m && Nat.ble 11 ST'.low
  | _ => false
noncomputable def deepC (r w : Nat) : Bool := match evF tableX 1000 14 [.str (deepS r w)] stD with
  | some (.ret (.cmp 3 0 [.cmp 2 0 X, .int 63 (.ofNat A), .int 63 (.ofNat E)]), ST) =>
    Nat.beq (lenL X) 6 && (Nat.ble 11 ST.low && (Nat.ble 11 ST.next && (bif Nat.ble r 16 then Nat.beq E 0 && (Nat.beq A (lenL (deepS r w)) && sizeOk X ST (Nat.rec 1 (fun _ _ => Nat.succ r) w)) else Nat.beq E 4 && Nat.beq A 16)))
  | _ => false
end Go.Proofs.YtnjjkomopkgidaaGreatDoor.Av
