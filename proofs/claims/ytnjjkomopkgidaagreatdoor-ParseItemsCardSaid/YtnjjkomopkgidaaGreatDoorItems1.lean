/-
  ParseItems: its cases, part 1, each evaluated by the kernel.
-/
import Derived.Test.YtnjjkomopkgidaaGreatDoorItems0
namespace Go.Proofs.YtnjjkomopkgidaaGreatDoor.Av
set_option linter.unusedVariables false
set_option linter.unusedSimpArgs false
set_option maxRecDepth 1000000
open Go
theorem items_1 : Good_Items 1 := fun n0 => by kernel_rfl
theorem items_2 : Good_Items 2 := fun n0 => by kernel_rfl
theorem items_7 : Good_Items 7 := fun n0 => by kernel_rfl
theorem items_8 : Good_Items 8 := fun n0 => by kernel_rfl
theorem items_13 : Good_Items 13 := fun n0 => by kernel_rfl
theorem items_14 : Good_Items 14 := fun n0 => by kernel_rfl
theorem items_19 : Good_Items 19 := fun n0 => by kernel_rfl
end Go.Proofs.YtnjjkomopkgidaaGreatDoor.Av
