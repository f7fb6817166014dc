/-
  ParseLevels: its cases, part 8, each evaluated by the kernel.
-/
import Derived.Test.YtnjjkomopkgidaaGreatDoorLevels0
namespace Go.Proofs.YtnjjkomopkgidaaGreatDoor.Av
set_option linter.unusedVariables false
set_option linter.unusedSimpArgs false
set_option maxRecDepth 1000000
open Go
theorem levels_0_2 : Good_Levels 0 2 := fun n0 n1 => by kernel_rfl
theorem levels_0_4 : Good_Levels 0 4 := fun n0 n1 => by kernel_rfl
theorem levels_0_12 : Good_Levels 0 12 := fun n0 n1 => by kernel_rfl
theorem levels_1_9 : Good_Levels 1 9 := fun n0 n1 => by kernel_rfl
theorem levels_2_8 : Good_Levels 2 8 := fun n0 n1 => by kernel_rfl
theorem levels_3_0 : Good_Levels 3 0 := fun n0 n1 => by kernel_rfl
theorem levels_3_7 : Good_Levels 3 7 := fun n0 n1 => by kernel_rfl
theorem levels_4_4 : Good_Levels 4 4 := fun n0 n1 => by kernel_rfl
theorem levels_4_10 : Good_Levels 4 10 := fun n0 n1 => by kernel_rfl
theorem levels_5_4 : Good_Levels 5 4 := fun n0 n1 => by kernel_rfl
theorem levels_6_4 : Good_Levels 6 4 := fun n0 n1 => by kernel_rfl
theorem levels_6_8 : Good_Levels 6 8 := fun n0 n1 => by kernel_rfl
theorem levels_7_4 : Good_Levels 7 4 := fun n0 n1 => by kernel_rfl
theorem levels_7_11 : Good_Levels 7 11 := fun n0 n1 => by kernel_rfl
theorem levels_8_4 : Good_Levels 8 4 := fun n0 n1 => by kernel_rfl
theorem levels_9_2 : Good_Levels 9 2 := fun n0 n1 => by kernel_rfl
theorem levels_10_0 : Good_Levels 10 0 := fun n0 n1 => by kernel_rfl
theorem levels_10_8 : Good_Levels 10 8 := fun n0 n1 => by kernel_rfl
theorem levels_11_3 : Good_Levels 11 3 := fun n0 n1 => by kernel_rfl
theorem levels_11_11 : Good_Levels 11 11 := fun n0 n1 => by kernel_rfl
theorem levels_12_6 : Good_Levels 12 6 := fun n0 n1 => by kernel_rfl
end Go.Proofs.YtnjjkomopkgidaaGreatDoor.Av
