/-
  CHAPTER 11's EXAMPLES COME OUT TRUE: evaluated by the kernel, once; then known.
-/
import Derived.Test.YtnccejmggcjaoaaGreatDoorKnow
namespace Go.Proofs.YtnccejmggcjaoaaGreatDoor.Av
set_option linter.unusedVariables false
set_option maxRecDepth 1000000
open Go
theorem examples11_at : evF tableF 1000 29 [] stS = some (.ret (.bool true), stS) := by kernel_rfl
noncomputable def exG (args : List V) (st : St) : Option V := List.rec (bif sameTab tab6 (st.mem.get 6) then some (.bool true) else none) (fun _ _ _ => none) args
theorem get_ex11 : tableF.get 29 = some sh29 := by kernel_rfl
theorem ex11_spec : SpecOk Tryz.prog 29 exG := by
  refine spec_of mixed tabF get_ex11 (mem := memS) (G := 11) globals.symm (fun g b hb => by rw [(memS_get hb).1]; decide) fun args st v h => ?_
  match args, h with
  | [], h =>
    obtain ⟨h1, h2⟩ := bif_none (show (bif sameTab tab6 (st.mem.get 6) then some (V.bool true) else none) = some v from h)
    obtain rfl := Option.some.inj h2
    exact ⟨hasS h1, rfl, rfl, 1000, stS, examples11_at⟩
end Go.Proofs.YtnccejmggcjaoaaGreatDoor.Av
