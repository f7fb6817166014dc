/-
  ParseLevels: its cases, part 6, each evaluated by the kernel.
-/
import Derived.Test.YtnjjkomopkgidaaGreatDoorLevels0
namespace Go.Proofs.YtnjjkomopkgidaaGreatDoor.Av
set_option linter.unusedVariables false
set_option linter.unusedSimpArgs false
set_option maxRecDepth 1000000
open Go
theorem levels_0_10 : Good_Levels 0 10 := fun n0 n1 => by kernel_rfl
theorem levels_1_7 : Good_Levels 1 7 := fun n0 n1 => by kernel_rfl
theorem levels_2_2 : Good_Levels 2 2 := fun n0 n1 => by kernel_rfl
theorem levels_2_6 : Good_Levels 2 6 := fun n0 n1 => by kernel_rfl
theorem levels_3_5 : Good_Levels 3 5 := fun n0 n1 => by kernel_rfl
theorem levels_4_2 : Good_Levels 4 2 := fun n0 n1 => by kernel_rfl
theorem levels_4_8 : Good_Levels 4 8 := fun n0 n1 => by kernel_rfl
theorem levels_5_2 : Good_Levels 5 2 := fun n0 n1 => by kernel_rfl
theorem levels_5_11 : Good_Levels 5 11 := fun n0 n1 => by kernel_rfl
theorem levels_6_2 : Good_Levels 6 2 := fun n0 n1 => by kernel_rfl
theorem levels_7_2 : Good_Levels 7 2 := fun n0 n1 => by kernel_rfl
theorem levels_7_9 : Good_Levels 7 9 := fun n0 n1 => by kernel_rfl
theorem levels_8_2 : Good_Levels 8 2 := fun n0 n1 => by kernel_rfl
theorem levels_9_0 : Good_Levels 9 0 := fun n0 n1 => by kernel_rfl
theorem levels_9_8 : Good_Levels 9 8 := fun n0 n1 => by kernel_rfl
theorem levels_9_11 : Good_Levels 9 11 := fun n0 n1 => by kernel_rfl
theorem levels_10_6 : Good_Levels 10 6 := fun n0 n1 => by kernel_rfl
theorem levels_11_1 : Good_Levels 11 1 := fun n0 n1 => by kernel_rfl
theorem levels_11_9 : Good_Levels 11 9 := fun n0 n1 => by kernel_rfl
theorem levels_12_4 : Good_Levels 12 4 := fun n0 n1 => by kernel_rfl
theorem levels_12_12 : Good_Levels 12 12 := fun n0 n1 => by kernel_rfl
end Go.Proofs.YtnjjkomopkgidaaGreatDoor.Av
