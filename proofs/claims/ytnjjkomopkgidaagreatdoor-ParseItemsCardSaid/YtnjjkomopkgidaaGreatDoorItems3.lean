/-
  ParseItems: its cases, part 3, each evaluated by the kernel.
-/
import Derived.Test.YtnjjkomopkgidaaGreatDoorItems0
namespace Go.Proofs.YtnjjkomopkgidaaGreatDoor.Av
set_option linter.unusedVariables false
set_option linter.unusedSimpArgs false
set_option maxRecDepth 1000000
open Go
theorem items_4 : Good_Items 4 := fun n0 => by kernel_rfl
theorem items_5 : Good_Items 5 := fun n0 => by kernel_rfl
theorem items_10 : Good_Items 10 := fun n0 => by kernel_rfl
theorem items_11 : Good_Items 11 := fun n0 => by kernel_rfl
theorem items_16 : Good_Items 16 := fun n0 => by kernel_rfl
theorem items_17 : Good_Items 17 := fun n0 => by kernel_rfl
end Go.Proofs.YtnjjkomopkgidaaGreatDoor.Av
