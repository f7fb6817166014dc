/-
  CHAPTER 12's EXAMPLES COME OUT TRUE: evaluated by the kernel, once; then known.
-/
import Derived.Test.YtnccejmggcjaoaaGreatDoorKnow
namespace Go.Proofs.YtnccejmggcjaoaaGreatDoor.Av
set_option linter.unusedVariables false
set_option maxRecDepth 1000000
open Go
theorem examples12_at : evF tableF 1000 46 [] stS = some (.ret (.bool true), stS) := by kernel_rfl
noncomputable def exG (args : List V) (st : St) : Option V := List.rec (bif sameTab tab6 (st.mem.get 6) then some (.bool true) else none) (fun _ _ _ => none) args
theorem get_ex12 : tableF.get 46 = some sh46 := by kernel_rfl
theorem ex12_spec : SpecOk Tryz.prog 46 exG := by
  refine spec_of mixed tabF get_ex12 (mem := memS) (G := 11) globals.symm (fun g b hb => by rw [(memS_get hb).1]; decide) fun args st v h => ?_
  match args, h with
  | [], h =>
    obtain ⟨h1, h2⟩ := bif_none (show (bif sameTab tab6 (st.mem.get 6) then some (V.bool true) else none) = some v from h)
    obtain rfl := Option.some.inj h2
    exact ⟨hasS h1, rfl, rfl, 1000, stS, examples12_at⟩
noncomputable def tableX : Tr Fs := tableF.set 46 (some (.spec exG))
theorem tabX : TableOk Tryz.prog tableX := tableSpec tabF ex12_spec
noncomputable def tableY : Tr Fs := tableC.set 46 (some (.spec exG))
theorem tabY : TableOk Tryz.prog tableY := tableSpec tabC ex12_spec
theorem examples12_true : evF tableX 1000 46 [] st0 = some (.ret (.bool true), st0) := by kernel_rfl
theorem examples12_trueY : evF tableY 1000 46 [] st0 = some (.ret (.bool true), st0) := by kernel_rfl
end Go.Proofs.YtnccejmggcjaoaaGreatDoor.Av
