/-
  CHAPTER 6's EXAMPLES COME OUT TRUE: evaluated by the kernel, once; then known.
-/
import Derived.Test.YtnjjkomopkgidaaDoorNextB
namespace Go.Proofs.YtnjjkomopkgidaaDoor.Av
set_option linter.unusedVariables false
set_option maxRecDepth 1000000
open Go
theorem examples06_at : evF tableA 1000 8 [] st0 = some (.ret (.bool true), st0) := by kernel_rfl
noncomputable def exG (args : List V) (st : St) : Option V := List.rec (bif hasW st then some (.bool true) else none) (fun _ _ _ => none) args
theorem get_ex06 : tableA.get 8 = some sh8 := by kernel_rfl
theorem ex06_spec : SpecOk Tryd.prog 8 exG := by
  refine spec_of mixed tabA get_ex06 (mem := mem0) (G := 11) globals.symm (fun g b hb => mem0_lt g b hb) fun args st v h => ?_
  match args, h with
  | [], h =>
    obtain ⟨h1, h2⟩ := bif_none (show (bif hasW st then some (V.bool true) else none) = some v from h)
    obtain rfl := Option.some.inj h2
    exact ⟨hasW_tabs h1, rfl, rfl, 1000, st0, examples06_at⟩
noncomputable def tableZ : Tr Fs := tableX.set 8 (some (.spec exG))
theorem tabZ : TableOk Tryd.prog tableZ := tableSpec tabX ex06_spec
theorem get_exZ : tableZ.get 8 = some (.spec exG) := by kernel_rfl
theorem exZ_ev (n : Nat) (st : St) (h : hasW st = true) : evF tableZ (n + 1) 8 [] st = some (.ret (.bool true), st) := by
  refine ev_spec get_exZ ?_
  show (bif hasW st then some (V.bool true) else none) = _
  rw [h]; rfl
end Go.Proofs.YtnjjkomopkgidaaDoor.Av
