/-
  ParseLevels: its cases, part 4, each evaluated by the kernel.
-/
import Derived.Test.YtnjjkomopkgidaaGreatDoorLevels0
namespace Go.Proofs.YtnjjkomopkgidaaGreatDoor.Av
set_option linter.unusedVariables false
set_option linter.unusedSimpArgs false
set_option maxRecDepth 1000000
open Go
theorem levels_0_8 : Good_Levels 0 8 := fun n0 n1 => by kernel_rfl
theorem levels_1_5 : Good_Levels 1 5 := fun n0 n1 => by kernel_rfl
theorem levels_2_0 : Good_Levels 2 0 := fun n0 n1 => by kernel_rfl
theorem levels_2_4 : Good_Levels 2 4 := fun n0 n1 => by kernel_rfl
theorem levels_2_12 : Good_Levels 2 12 := fun n0 n1 => by kernel_rfl
theorem levels_3_11 : Good_Levels 3 11 := fun n0 n1 => by kernel_rfl
theorem levels_4_0 : Good_Levels 4 0 := fun n0 n1 => by kernel_rfl
theorem levels_5_0 : Good_Levels 5 0 := fun n0 n1 => by kernel_rfl
theorem levels_5_9 : Good_Levels 5 9 := fun n0 n1 => by kernel_rfl
theorem levels_6_0 : Good_Levels 6 0 := fun n0 n1 => by kernel_rfl
theorem levels_6_12 : Good_Levels 6 12 := fun n0 n1 => by kernel_rfl
theorem levels_7_0 : Good_Levels 7 0 := fun n0 n1 => by kernel_rfl
theorem levels_8_0 : Good_Levels 8 0 := fun n0 n1 => by kernel_rfl
theorem levels_8_8 : Good_Levels 8 8 := fun n0 n1 => by kernel_rfl
theorem levels_8_12 : Good_Levels 8 12 := fun n0 n1 => by kernel_rfl
theorem levels_9_6 : Good_Levels 9 6 := fun n0 n1 => by kernel_rfl
theorem levels_10_4 : Good_Levels 10 4 := fun n0 n1 => by kernel_rfl
theorem levels_10_12 : Good_Levels 10 12 := fun n0 n1 => by kernel_rfl
theorem levels_11_7 : Good_Levels 11 7 := fun n0 n1 => by kernel_rfl
theorem levels_12_2 : Good_Levels 12 2 := fun n0 n1 => by kernel_rfl
theorem levels_12_10 : Good_Levels 12 10 := fun n0 n1 => by kernel_rfl
end Go.Proofs.YtnjjkomopkgidaaGreatDoor.Av
