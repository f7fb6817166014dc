/-
  ParseLevels: its cases, part 3, each evaluated by the kernel.
-/
import Derived.Test.YtnjjkomopkgidaaGreatDoorLevels0
namespace Go.Proofs.YtnjjkomopkgidaaGreatDoor.Av
set_option linter.unusedVariables false
set_option linter.unusedSimpArgs false
set_option maxRecDepth 1000000
open Go
theorem levels_0_7 : Good_Levels 0 7 := fun n0 n1 => by kernel_rfl
theorem levels_1_1 : Good_Levels 1 1 := fun n0 n1 => by kernel_rfl
theorem levels_1_4 : Good_Levels 1 4 := fun n0 n1 => by kernel_rfl
theorem levels_1_12 : Good_Levels 1 12 := fun n0 n1 => by kernel_rfl
theorem levels_2_11 : Good_Levels 2 11 := fun n0 n1 => by kernel_rfl
theorem levels_3_3 : Good_Levels 3 3 := fun n0 n1 => by kernel_rfl
theorem levels_3_10 : Good_Levels 3 10 := fun n0 n1 => by kernel_rfl
theorem levels_4_7 : Good_Levels 4 7 := fun n0 n1 => by kernel_rfl
theorem levels_5_7 : Good_Levels 5 7 := fun n0 n1 => by kernel_rfl
theorem levels_5_8 : Good_Levels 5 8 := fun n0 n1 => by kernel_rfl
theorem levels_6_7 : Good_Levels 6 7 := fun n0 n1 => by kernel_rfl
theorem levels_6_11 : Good_Levels 6 11 := fun n0 n1 => by kernel_rfl
theorem levels_7_7 : Good_Levels 7 7 := fun n0 n1 => by kernel_rfl
theorem levels_8_7 : Good_Levels 8 7 := fun n0 n1 => by kernel_rfl
theorem levels_8_11 : Good_Levels 8 11 := fun n0 n1 => by kernel_rfl
theorem levels_9_5 : Good_Levels 9 5 := fun n0 n1 => by kernel_rfl
theorem levels_10_3 : Good_Levels 10 3 := fun n0 n1 => by kernel_rfl
theorem levels_10_11 : Good_Levels 10 11 := fun n0 n1 => by kernel_rfl
theorem levels_11_6 : Good_Levels 11 6 := fun n0 n1 => by kernel_rfl
theorem levels_12_1 : Good_Levels 12 1 := fun n0 n1 => by kernel_rfl
theorem levels_12_9 : Good_Levels 12 9 := fun n0 n1 => by kernel_rfl
end Go.Proofs.YtnjjkomopkgidaaGreatDoor.Av
