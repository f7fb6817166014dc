/-
  ParseLevels: its cases, part 1, each evaluated by the kernel.
-/
import Derived.Test.YtnjjkomopkgidaaGreatDoorLevels0
namespace Go.Proofs.YtnjjkomopkgidaaGreatDoor.Av
set_option linter.unusedVariables false
set_option linter.unusedSimpArgs false
set_option maxRecDepth 1000000
open Go
theorem levels_0_0 : Good_Levels 0 0 := fun n0 n1 => by kernel_rfl
theorem levels_0_5 : Good_Levels 0 5 := fun n0 n1 => by kernel_rfl
theorem levels_1_2 : Good_Levels 1 2 := fun n0 n1 => by kernel_rfl
theorem levels_1_10 : Good_Levels 1 10 := fun n0 n1 => by kernel_rfl
theorem levels_2_9 : Good_Levels 2 9 := fun n0 n1 => by kernel_rfl
theorem levels_3_1 : Good_Levels 3 1 := fun n0 n1 => by kernel_rfl
theorem levels_3_8 : Good_Levels 3 8 := fun n0 n1 => by kernel_rfl
theorem levels_4_5 : Good_Levels 4 5 := fun n0 n1 => by kernel_rfl
theorem levels_4_11 : Good_Levels 4 11 := fun n0 n1 => by kernel_rfl
theorem levels_5_5 : Good_Levels 5 5 := fun n0 n1 => by kernel_rfl
theorem levels_6_5 : Good_Levels 6 5 := fun n0 n1 => by kernel_rfl
theorem levels_6_9 : Good_Levels 6 9 := fun n0 n1 => by kernel_rfl
theorem levels_7_5 : Good_Levels 7 5 := fun n0 n1 => by kernel_rfl
theorem levels_7_12 : Good_Levels 7 12 := fun n0 n1 => by kernel_rfl
theorem levels_8_5 : Good_Levels 8 5 := fun n0 n1 => by kernel_rfl
theorem levels_9_3 : Good_Levels 9 3 := fun n0 n1 => by kernel_rfl
theorem levels_10_1 : Good_Levels 10 1 := fun n0 n1 => by kernel_rfl
theorem levels_10_9 : Good_Levels 10 9 := fun n0 n1 => by kernel_rfl
theorem levels_11_4 : Good_Levels 11 4 := fun n0 n1 => by kernel_rfl
theorem levels_11_12 : Good_Levels 11 12 := fun n0 n1 => by kernel_rfl
theorem levels_12_7 : Good_Levels 12 7 := fun n0 n1 => by kernel_rfl
end Go.Proofs.YtnjjkomopkgidaaGreatDoor.Av
