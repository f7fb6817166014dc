/-
  ParseNames: its cases, part 2, each evaluated by the kernel.
-/
import Derived.Test.YtnjjkomopkgidaaGreatDoorNames0
namespace Go.Proofs.YtnjjkomopkgidaaGreatDoor.Av
set_option linter.unusedVariables false
set_option linter.unusedSimpArgs false
set_option maxRecDepth 1000000
open Go
theorem names_0_4 : Good_Names 0 4 := fun n0 n1 => by kernel_rfl
theorem names_0_5 : Good_Names 0 5 := fun n0 n1 => by kernel_rfl
theorem names_0_7 : Good_Names 0 7 := fun n0 n1 => by kernel_rfl
theorem names_1_1 : Good_Names 1 1 := fun n0 n1 => by kernel_rfl
theorem names_1_9 : Good_Names 1 9 := fun n0 n1 => by kernel_rfl
theorem names_2_3 : Good_Names 2 3 := fun n0 n1 => by kernel_rfl
theorem names_2_4 : Good_Names 2 4 := fun n0 n1 => by kernel_rfl
theorem names_3_4 : Good_Names 3 4 := fun n0 n1 => by kernel_rfl
theorem names_3_7 : Good_Names 3 7 := fun n0 n1 => by kernel_rfl
theorem names_4_7 : Good_Names 4 7 := fun n0 n1 => by kernel_rfl
theorem names_4_8 : Good_Names 4 8 := fun n0 n1 => by kernel_rfl
theorem names_5_4 : Good_Names 5 4 := fun n0 n1 => by kernel_rfl
theorem names_5_6 : Good_Names 5 6 := fun n0 n1 => by kernel_rfl
theorem names_5_9 : Good_Names 5 9 := fun n0 n1 => by kernel_rfl
theorem names_6_2 : Good_Names 6 2 := fun n0 n1 => by kernel_rfl
theorem names_6_5 : Good_Names 6 5 := fun n0 n1 => by kernel_rfl
theorem names_6_6 : Good_Names 6 6 := fun n0 n1 => by kernel_rfl
theorem names_7_0 : Good_Names 7 0 := fun n0 n1 => by kernel_rfl
theorem names_7_4 : Good_Names 7 4 := fun n0 n1 => by kernel_rfl
theorem names_7_8 : Good_Names 7 8 := fun n0 n1 => by kernel_rfl
theorem names_8_3 : Good_Names 8 3 := fun n0 n1 => by kernel_rfl
theorem names_8_7 : Good_Names 8 7 := fun n0 n1 => by kernel_rfl
theorem names_9_2 : Good_Names 9 2 := fun n0 n1 => by kernel_rfl
theorem names_9_4 : Good_Names 9 4 := fun n0 n1 => by kernel_rfl
end Go.Proofs.YtnjjkomopkgidaaGreatDoor.Av
