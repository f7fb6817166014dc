/-
  ParseNames: its cases, part 1, each evaluated by the kernel.
-/
import Derived.Test.YtnjjkomopkgidaaGreatDoorNames0
namespace Go.Proofs.YtnjjkomopkgidaaGreatDoor.Av
set_option linter.unusedVariables false
set_option linter.unusedSimpArgs false
set_option maxRecDepth 1000000
open Go
theorem names_0_2 : Good_Names 0 2 := fun n0 n1 => by kernel_rfl
theorem names_0_6 : Good_Names 0 6 := fun n0 n1 => by kernel_rfl
theorem names_0_8 : Good_Names 0 8 := fun n0 n1 => by kernel_rfl
theorem names_1_3 : Good_Names 1 3 := fun n0 n1 => by kernel_rfl
theorem names_1_5 : Good_Names 1 5 := fun n0 n1 => by kernel_rfl
theorem names_1_8 : Good_Names 1 8 := fun n0 n1 => by kernel_rfl
theorem names_2_2 : Good_Names 2 2 := fun n0 n1 => by kernel_rfl
theorem names_2_6 : Good_Names 2 6 := fun n0 n1 => by kernel_rfl
theorem names_2_9 : Good_Names 2 9 := fun n0 n1 => by kernel_rfl
theorem names_3_2 : Good_Names 3 2 := fun n0 n1 => by kernel_rfl
theorem names_3_3 : Good_Names 3 3 := fun n0 n1 => by kernel_rfl
theorem names_3_6 : Good_Names 3 6 := fun n0 n1 => by kernel_rfl
theorem names_4_4 : Good_Names 4 4 := fun n0 n1 => by kernel_rfl
theorem names_4_5 : Good_Names 4 5 := fun n0 n1 => by kernel_rfl
theorem names_5_2 : Good_Names 5 2 := fun n0 n1 => by kernel_rfl
theorem names_5_5 : Good_Names 5 5 := fun n0 n1 => by kernel_rfl
theorem names_5_8 : Good_Names 5 8 := fun n0 n1 => by kernel_rfl
theorem names_6_3 : Good_Names 6 3 := fun n0 n1 => by kernel_rfl
theorem names_7_2 : Good_Names 7 2 := fun n0 n1 => by kernel_rfl
theorem names_7_6 : Good_Names 7 6 := fun n0 n1 => by kernel_rfl
theorem names_8_4 : Good_Names 8 4 := fun n0 n1 => by kernel_rfl
theorem names_8_8 : Good_Names 8 8 := fun n0 n1 => by kernel_rfl
theorem names_9_0 : Good_Names 9 0 := fun n0 n1 => by kernel_rfl
theorem names_9_3 : Good_Names 9 3 := fun n0 n1 => by kernel_rfl
theorem names_9_5 : Good_Names 9 5 := fun n0 n1 => by kernel_rfl
end Go.Proofs.YtnjjkomopkgidaaGreatDoor.Av
