/-
  CHAPTER 10's EXAMPLES COME OUT TRUE: evaluated by the kernel, once; then known.
-/
import Derived.Test.YtnjjkomopkgidaaGreatDoorKnow
namespace Go.Proofs.YtnjjkomopkgidaaGreatDoor.Av
set_option linter.unusedVariables false
set_option maxRecDepth 1000000
open Go
theorem examples10_at : evF tableF 1000 10 [] stS = some (.ret (.bool true), stS) := by kernel_rfl
noncomputable def exG (args : List V) (st : St) : Option V := List.rec (bif sameTab tab6 (st.mem.get 6) then some (.bool true) else none) (fun _ _ _ => none) args
theorem get_ex10 : tableF.get 10 = some sh10 := by kernel_rfl
theorem ex10_spec : SpecOk Tryz.prog 10 exG := by
  refine spec_of mixed tabF get_ex10 (mem := memS) (G := 11) globals.symm (fun g b hb => by rw [(memS_get hb).1]; decide) fun args st v h => ?_
  match args, h with
  | [], h =>
    obtain ⟨h1, h2⟩ := bif_none (show (bif sameTab tab6 (st.mem.get 6) then some (V.bool true) else none) = some v from h)
    obtain rfl := Option.some.inj h2
    exact ⟨hasS h1, rfl, rfl, 1000, stS, examples10_at⟩
noncomputable def tableX : Tr Fs := tableF.set 10 (some (.spec exG))
theorem tabX : TableOk Tryz.prog tableX := tableSpec tabF ex10_spec
/-- The same, without what is known of single runes. -/
noncomputable def tableY : Tr Fs := tableC.set 10 (some (.spec exG))
theorem tabY : TableOk Tryz.prog tableY := tableSpec tabC ex10_spec
theorem examples10_true : evF tableX 1000 10 [] st0 = some (.ret (.bool true), st0) := by kernel_rfl
theorem examples10_trueY : evF tableY 1000 10 [] st0 = some (.ret (.bool true), st0) := by kernel_rfl
end Go.Proofs.YtnjjkomopkgidaaGreatDoor.Av
