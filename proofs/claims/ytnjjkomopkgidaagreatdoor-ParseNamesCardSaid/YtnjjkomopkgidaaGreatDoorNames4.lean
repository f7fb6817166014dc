/-
  ParseNames: its cases, part 4, each evaluated by the kernel.
-/
import Derived.Test.YtnjjkomopkgidaaGreatDoorNames0
namespace Go.Proofs.YtnjjkomopkgidaaGreatDoor.Av
set_option linter.unusedVariables false
set_option linter.unusedSimpArgs false
set_option maxRecDepth 1000000
open Go
theorem names_0_1 : Good_Names 0 1 := fun n0 n1 => by kernel_rfl
theorem names_1_0 : Good_Names 1 0 := fun n0 n1 => by kernel_rfl
theorem names_1_4 : Good_Names 1 4 := fun n0 n1 => by kernel_rfl
theorem names_1_6 : Good_Names 1 6 := fun n0 n1 => by kernel_rfl
theorem names_1_7 : Good_Names 1 7 := fun n0 n1 => by kernel_rfl
theorem names_2_0 : Good_Names 2 0 := fun n0 n1 => by kernel_rfl
theorem names_2_5 : Good_Names 2 5 := fun n0 n1 => by kernel_rfl
theorem names_2_7 : Good_Names 2 7 := fun n0 n1 => by kernel_rfl
theorem names_3_0 : Good_Names 3 0 := fun n0 n1 => by kernel_rfl
theorem names_3_1 : Good_Names 3 1 := fun n0 n1 => by kernel_rfl
theorem names_3_9 : Good_Names 3 9 := fun n0 n1 => by kernel_rfl
theorem names_4_0 : Good_Names 4 0 := fun n0 n1 => by kernel_rfl
theorem names_4_2 : Good_Names 4 2 := fun n0 n1 => by kernel_rfl
theorem names_4_3 : Good_Names 4 3 := fun n0 n1 => by kernel_rfl
theorem names_6_0 : Good_Names 6 0 := fun n0 n1 => by kernel_rfl
theorem names_6_1 : Good_Names 6 1 := fun n0 n1 => by kernel_rfl
theorem names_6_4 : Good_Names 6 4 := fun n0 n1 => by kernel_rfl
theorem names_6_7 : Good_Names 6 7 := fun n0 n1 => by kernel_rfl
theorem names_7_3 : Good_Names 7 3 := fun n0 n1 => by kernel_rfl
theorem names_7_7 : Good_Names 7 7 := fun n0 n1 => by kernel_rfl
theorem names_8_0 : Good_Names 8 0 := fun n0 n1 => by kernel_rfl
theorem names_8_1 : Good_Names 8 1 := fun n0 n1 => by kernel_rfl
theorem names_8_5 : Good_Names 8 5 := fun n0 n1 => by kernel_rfl
theorem names_8_9 : Good_Names 8 9 := fun n0 n1 => by kernel_rfl
theorem names_9_9 : Good_Names 9 9 := fun n0 n1 => by kernel_rfl
end Go.Proofs.YtnjjkomopkgidaaGreatDoor.Av
