/-
  ParseLevels: its cases, part 7, each evaluated by the kernel.
-/
import Derived.Test.YtnjjkomopkgidaaGreatDoorLevels0
namespace Go.Proofs.YtnjjkomopkgidaaGreatDoor.Av
set_option linter.unusedVariables false
set_option linter.unusedSimpArgs false
set_option maxRecDepth 1000000
open Go
theorem levels_0_1 : Good_Levels 0 1 := fun n0 n1 => by kernel_rfl
theorem levels_0_3 : Good_Levels 0 3 := fun n0 n1 => by kernel_rfl
theorem levels_0_11 : Good_Levels 0 11 := fun n0 n1 => by kernel_rfl
theorem levels_1_8 : Good_Levels 1 8 := fun n0 n1 => by kernel_rfl
theorem levels_2_3 : Good_Levels 2 3 := fun n0 n1 => by kernel_rfl
theorem levels_2_7 : Good_Levels 2 7 := fun n0 n1 => by kernel_rfl
theorem levels_3_6 : Good_Levels 3 6 := fun n0 n1 => by kernel_rfl
theorem levels_4_3 : Good_Levels 4 3 := fun n0 n1 => by kernel_rfl
theorem levels_4_9 : Good_Levels 4 9 := fun n0 n1 => by kernel_rfl
theorem levels_5_3 : Good_Levels 5 3 := fun n0 n1 => by kernel_rfl
theorem levels_5_12 : Good_Levels 5 12 := fun n0 n1 => by kernel_rfl
theorem levels_6_3 : Good_Levels 6 3 := fun n0 n1 => by kernel_rfl
theorem levels_7_3 : Good_Levels 7 3 := fun n0 n1 => by kernel_rfl
theorem levels_7_10 : Good_Levels 7 10 := fun n0 n1 => by kernel_rfl
theorem levels_8_3 : Good_Levels 8 3 := fun n0 n1 => by kernel_rfl
theorem levels_9_1 : Good_Levels 9 1 := fun n0 n1 => by kernel_rfl
theorem levels_9_9 : Good_Levels 9 9 := fun n0 n1 => by kernel_rfl
theorem levels_9_12 : Good_Levels 9 12 := fun n0 n1 => by kernel_rfl
theorem levels_10_7 : Good_Levels 10 7 := fun n0 n1 => by kernel_rfl
theorem levels_11_2 : Good_Levels 11 2 := fun n0 n1 => by kernel_rfl
theorem levels_11_10 : Good_Levels 11 10 := fun n0 n1 => by kernel_rfl
theorem levels_12_5 : Good_Levels 12 5 := fun n0 n1 => by kernel_rfl
end Go.Proofs.YtnjjkomopkgidaaGreatDoor.Av
