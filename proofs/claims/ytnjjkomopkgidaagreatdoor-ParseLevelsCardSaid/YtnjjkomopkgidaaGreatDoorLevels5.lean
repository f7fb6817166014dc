/-
  ParseLevels: its cases, part 5, each evaluated by the kernel.
-/
import Derived.Test.YtnjjkomopkgidaaGreatDoorLevels0
namespace Go.Proofs.YtnjjkomopkgidaaGreatDoor.Av
set_option linter.unusedVariables false
set_option linter.unusedSimpArgs false
set_option maxRecDepth 1000000
open Go
theorem levels_0_9 : Good_Levels 0 9 := fun n0 n1 => by kernel_rfl
theorem levels_1_6 : Good_Levels 1 6 := fun n0 n1 => by kernel_rfl
theorem levels_2_1 : Good_Levels 2 1 := fun n0 n1 => by kernel_rfl
theorem levels_2_5 : Good_Levels 2 5 := fun n0 n1 => by kernel_rfl
theorem levels_3_4 : Good_Levels 3 4 := fun n0 n1 => by kernel_rfl
theorem levels_3_12 : Good_Levels 3 12 := fun n0 n1 => by kernel_rfl
theorem levels_4_1 : Good_Levels 4 1 := fun n0 n1 => by kernel_rfl
theorem levels_5_1 : Good_Levels 5 1 := fun n0 n1 => by kernel_rfl
theorem levels_5_10 : Good_Levels 5 10 := fun n0 n1 => by kernel_rfl
theorem levels_6_1 : Good_Levels 6 1 := fun n0 n1 => by kernel_rfl
theorem levels_7_1 : Good_Levels 7 1 := fun n0 n1 => by kernel_rfl
theorem levels_7_8 : Good_Levels 7 8 := fun n0 n1 => by kernel_rfl
theorem levels_8_1 : Good_Levels 8 1 := fun n0 n1 => by kernel_rfl
theorem levels_8_9 : Good_Levels 8 9 := fun n0 n1 => by kernel_rfl
theorem levels_9_7 : Good_Levels 9 7 := fun n0 n1 => by kernel_rfl
theorem levels_9_10 : Good_Levels 9 10 := fun n0 n1 => by kernel_rfl
theorem levels_10_5 : Good_Levels 10 5 := fun n0 n1 => by kernel_rfl
theorem levels_11_0 : Good_Levels 11 0 := fun n0 n1 => by kernel_rfl
theorem levels_11_8 : Good_Levels 11 8 := fun n0 n1 => by kernel_rfl
theorem levels_12_3 : Good_Levels 12 3 := fun n0 n1 => by kernel_rfl
theorem levels_12_11 : Good_Levels 12 11 := fun n0 n1 => by kernel_rfl
end Go.Proofs.YtnjjkomopkgidaaGreatDoor.Av
