/-
  PathTimes: its cases, part 1, each evaluated by the kernel.
-/
import Derived.Test.YtnjjkomopkgidaaGreatDoorTimes0
namespace Go.Proofs.YtnjjkomopkgidaaGreatDoor.Av
set_option linter.unusedVariables false
set_option linter.unusedSimpArgs false
set_option maxRecDepth 1000000
open Go
theorem times_0_0_1 : Good_Times 0 0 1 := fun n0 n1 n2 => by kernel_rfl
theorem times_0_1_1 : Good_Times 0 1 1 := fun n0 n1 n2 => by kernel_rfl
theorem times_0_1_3 : Good_Times 0 1 3 := fun n0 n1 n2 => by kernel_rfl
theorem times_0_3_0 : Good_Times 0 3 0 := fun n0 n1 n2 => by kernel_rfl
theorem times_0_3_1 : Good_Times 0 3 1 := fun n0 n1 n2 => by kernel_rfl
theorem times_0_3_2 : Good_Times 0 3 2 := fun n0 n1 n2 => by kernel_rfl
theorem times_0_3_3 : Good_Times 0 3 3 := fun n0 n1 n2 => by kernel_rfl
theorem times_1_0_3 : Good_Times 1 0 3 := fun n0 n1 n2 => by kernel_rfl
theorem times_1_1_2 : Good_Times 1 1 2 := fun n0 n1 n2 => by kernel_rfl
theorem times_1_2_1 : Good_Times 1 2 1 := fun n0 n1 n2 => by kernel_rfl
theorem times_2_0_0 : Good_Times 2 0 0 := fun n0 n1 n2 => by kernel_rfl
theorem times_3_0_0 : Good_Times 3 0 0 := fun n0 n1 n2 => by kernel_rfl
theorem times_3_0_2 : Good_Times 3 0 2 := fun n0 n1 n2 => by kernel_rfl
end Go.Proofs.YtnjjkomopkgidaaGreatDoor.Av
