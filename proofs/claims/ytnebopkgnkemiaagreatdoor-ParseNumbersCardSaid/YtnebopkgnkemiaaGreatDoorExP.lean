/-
  CHAPTER 10's EXAMPLES COME OUT TRUE, where lex.next and strings.Join are known: evaluated by the kernel, once; then known.
-/
import Derived.Test.YtnebopkgnkemiaaGreatDoorAllC
import Derived.Test.YtnebopkgnkemiaaGreatDoorLib
namespace Go.Proofs.YtnebopkgnkemiaaGreatDoor.Av
set_option linter.unusedVariables false
set_option maxRecDepth 1000000
open Go
noncomputable def tableM : Tr Fs := tableL.set 19 (some (.spec joinG))
theorem tabM : TableOk Tryz.prog tableM := tableSpec tabL join_spec
theorem examples10_at : evF tableM 1000 4 [] st0 = some (.ret (.bool true), st0) := by kernel_rfl
noncomputable def exG (args : List V) (st : St) : Option V := List.rec (bif hasW st then some (.bool true) else none) (fun _ _ _ => none) args
theorem get_ex10 : tableM.get 4 = some sh4 := by kernel_rfl
theorem ex10_spec : SpecOk Tryz.prog 4 exG := by
  refine spec_of mixed tabM get_ex10 (mem := mem0) (G := 11) globals.symm (fun g b hb => mem0_lt g b hb) fun args st v h => ?_
  match args, h with
  | [], h =>
    obtain ⟨h1, h2⟩ := bif_none (show (bif hasW st then some (V.bool true) else none) = some v from h)
    obtain rfl := Option.some.inj h2
    exact ⟨hasW_tabs h1, rfl, rfl, 1000, st0, examples10_at⟩
end Go.Proofs.YtnebopkgnkemiaaGreatDoor.Av
