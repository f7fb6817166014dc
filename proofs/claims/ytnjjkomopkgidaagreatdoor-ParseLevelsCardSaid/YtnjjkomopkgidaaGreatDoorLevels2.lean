/-
  ParseLevels: its cases, part 2, each evaluated by the kernel.
-/
import Derived.Test.YtnjjkomopkgidaaGreatDoorLevels0
namespace Go.Proofs.YtnjjkomopkgidaaGreatDoor.Av
set_option linter.unusedVariables false
set_option linter.unusedSimpArgs false
set_option maxRecDepth 1000000
open Go
theorem levels_0_6 : Good_Levels 0 6 := fun n0 n1 => by kernel_rfl
theorem levels_1_0 : Good_Levels 1 0 := fun n0 n1 => by kernel_rfl
theorem levels_1_3 : Good_Levels 1 3 := fun n0 n1 => by kernel_rfl
theorem levels_1_11 : Good_Levels 1 11 := fun n0 n1 => by kernel_rfl
theorem levels_2_10 : Good_Levels 2 10 := fun n0 n1 => by kernel_rfl
theorem levels_3_2 : Good_Levels 3 2 := fun n0 n1 => by kernel_rfl
theorem levels_3_9 : Good_Levels 3 9 := fun n0 n1 => by kernel_rfl
theorem levels_4_6 : Good_Levels 4 6 := fun n0 n1 => by kernel_rfl
theorem levels_4_12 : Good_Levels 4 12 := fun n0 n1 => by kernel_rfl
theorem levels_5_6 : Good_Levels 5 6 := fun n0 n1 => by kernel_rfl
theorem levels_6_6 : Good_Levels 6 6 := fun n0 n1 => by kernel_rfl
theorem levels_6_10 : Good_Levels 6 10 := fun n0 n1 => by kernel_rfl
theorem levels_7_6 : Good_Levels 7 6 := fun n0 n1 => by kernel_rfl
theorem levels_8_6 : Good_Levels 8 6 := fun n0 n1 => by kernel_rfl
theorem levels_8_10 : Good_Levels 8 10 := fun n0 n1 => by kernel_rfl
theorem levels_9_4 : Good_Levels 9 4 := fun n0 n1 => by kernel_rfl
theorem levels_10_2 : Good_Levels 10 2 := fun n0 n1 => by kernel_rfl
theorem levels_10_10 : Good_Levels 10 10 := fun n0 n1 => by kernel_rfl
theorem levels_11_5 : Good_Levels 11 5 := fun n0 n1 => by kernel_rfl
theorem levels_12_0 : Good_Levels 12 0 := fun n0 n1 => by kernel_rfl
theorem levels_12_8 : Good_Levels 12 8 := fun n0 n1 => by kernel_rfl
end Go.Proofs.YtnjjkomopkgidaaGreatDoor.Av
