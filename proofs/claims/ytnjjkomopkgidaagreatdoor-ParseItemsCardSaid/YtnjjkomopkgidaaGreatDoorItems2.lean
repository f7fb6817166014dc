/-
  ParseItems: its cases, part 2, each evaluated by the kernel.
-/
import Derived.Test.YtnjjkomopkgidaaGreatDoorItems0
namespace Go.Proofs.YtnjjkomopkgidaaGreatDoor.Av
set_option linter.unusedVariables false
set_option linter.unusedSimpArgs false
set_option maxRecDepth 1000000
open Go
theorem items_0 : Good_Items 0 := fun n0 => by kernel_rfl
theorem items_3 : Good_Items 3 := fun n0 => by kernel_rfl
theorem items_6 : Good_Items 6 := fun n0 => by kernel_rfl
theorem items_9 : Good_Items 9 := fun n0 => by kernel_rfl
theorem items_12 : Good_Items 12 := fun n0 => by kernel_rfl
theorem items_15 : Good_Items 15 := fun n0 => by kernel_rfl
theorem items_18 : Good_Items 18 := fun n0 => by kernel_rfl
end Go.Proofs.YtnjjkomopkgidaaGreatDoor.Av
