/-
  ParseNames: its cases, part 3, each evaluated by the kernel.
-/
import Derived.Test.YtnjjkomopkgidaaGreatDoorNames0
namespace Go.Proofs.YtnjjkomopkgidaaGreatDoor.Av
set_option linter.unusedVariables false
set_option linter.unusedSimpArgs false
set_option maxRecDepth 1000000
open Go
theorem names_0_0 : Good_Names 0 0 := fun n0 n1 => by kernel_rfl
theorem names_0_3 : Good_Names 0 3 := fun n0 n1 => by kernel_rfl
theorem names_0_9 : Good_Names 0 9 := fun n0 n1 => by kernel_rfl
theorem names_1_2 : Good_Names 1 2 := fun n0 n1 => by kernel_rfl
theorem names_2_1 : Good_Names 2 1 := fun n0 n1 => by kernel_rfl
theorem names_2_8 : Good_Names 2 8 := fun n0 n1 => by kernel_rfl
theorem names_3_5 : Good_Names 3 5 := fun n0 n1 => by kernel_rfl
theorem names_3_8 : Good_Names 3 8 := fun n0 n1 => by kernel_rfl
theorem names_4_1 : Good_Names 4 1 := fun n0 n1 => by kernel_rfl
theorem names_4_6 : Good_Names 4 6 := fun n0 n1 => by kernel_rfl
theorem names_4_9 : Good_Names 4 9 := fun n0 n1 => by kernel_rfl
theorem names_5_0 : Good_Names 5 0 := fun n0 n1 => by kernel_rfl
theorem names_5_1 : Good_Names 5 1 := fun n0 n1 => by kernel_rfl
theorem names_5_3 : Good_Names 5 3 := fun n0 n1 => by kernel_rfl
theorem names_5_7 : Good_Names 5 7 := fun n0 n1 => by kernel_rfl
theorem names_6_8 : Good_Names 6 8 := fun n0 n1 => by kernel_rfl
theorem names_6_9 : Good_Names 6 9 := fun n0 n1 => by kernel_rfl
theorem names_7_1 : Good_Names 7 1 := fun n0 n1 => by kernel_rfl
theorem names_7_5 : Good_Names 7 5 := fun n0 n1 => by kernel_rfl
theorem names_7_9 : Good_Names 7 9 := fun n0 n1 => by kernel_rfl
theorem names_8_2 : Good_Names 8 2 := fun n0 n1 => by kernel_rfl
theorem names_8_6 : Good_Names 8 6 := fun n0 n1 => by kernel_rfl
theorem names_9_1 : Good_Names 9 1 := fun n0 n1 => by kernel_rfl
theorem names_9_6 : Good_Names 9 6 := fun n0 n1 => by kernel_rfl
theorem names_9_7 : Good_Names 9 7 := fun n0 n1 => by kernel_rfl
theorem names_9_8 : Good_Names 9 8 := fun n0 n1 => by kernel_rfl
end Go.Proofs.YtnjjkomopkgidaaGreatDoor.Av
