/-
  ParseDeep: its cases, part 2, each evaluated by the kernel.
-/
import Derived.Test.YtnjjkomopkgidaaGreatDoorDeep0
namespace Go.Proofs.YtnjjkomopkgidaaGreatDoor.Av
set_option linter.unusedVariables false
set_option maxRecDepth 1000000
open Go
theorem deep_0_1 : deepC 0 1 = true := by kernel_rfl
theorem deep_1_1 : deepC 1 1 = true := by kernel_rfl
theorem deep_2_1 : deepC 2 1 = true := by kernel_rfl
theorem deep_3_1 : deepC 3 1 = true := by kernel_rfl
theorem deep_4_1 : deepC 4 1 = true := by kernel_rfl
theorem deep_5_1 : deepC 5 1 = true := by kernel_rfl
theorem deep_6_1 : deepC 6 1 = true := by kernel_rfl
theorem deep_7_1 : deepC 7 1 = true := by kernel_rfl
theorem deep_8_1 : deepC 8 1 = true := by kernel_rfl
theorem deep_9_1 : deepC 9 1 = true := by kernel_rfl
theorem deep_10_1 : deepC 10 1 = true := by kernel_rfl
theorem deep_11_1 : deepC 11 1 = true := by kernel_rfl
theorem deep_12_1 : deepC 12 1 = true := by kernel_rfl
theorem deep_13_1 : deepC 13 1 = true := by kernel_rfl
theorem deep_14_1 : deepC 14 1 = true := by kernel_rfl
theorem deep_15_1 : deepC 15 1 = true := by kernel_rfl
theorem deep_16_1 : deepC 16 1 = true := by kernel_rfl
theorem deep_17_1 : deepC 17 1 = true := by kernel_rfl
theorem deep_18_1 : deepC 18 1 = true := by kernel_rfl
theorem deep_19_1 : deepC 19 1 = true := by kernel_rfl
theorem deep_20_1 : deepC 20 1 = true := by kernel_rfl
theorem deep_21_1 : deepC 21 1 = true := by kernel_rfl
theorem deep_22_1 : deepC 22 1 = true := by kernel_rfl
theorem deep_23_1 : deepC 23 1 = true := by kernel_rfl
theorem deep_24_1 : deepC 24 1 = true := by kernel_rfl
theorem deep_25_1 : deepC 25 1 = true := by kernel_rfl
theorem deep_26_1 : deepC 26 1 = true := by kernel_rfl
theorem deep_27_1 : deepC 27 1 = true := by kernel_rfl
theorem deep_28_1 : deepC 28 1 = true := by kernel_rfl
theorem deep_29_1 : deepC 29 1 = true := by kernel_rfl
theorem deepAll_1 : ∀ r : Nat, r < 30 → deepC r 1 = true
  | 0, _ => deep_0_1
  | 1, _ => deep_1_1
  | 2, _ => deep_2_1
  | 3, _ => deep_3_1
  | 4, _ => deep_4_1
  | 5, _ => deep_5_1
  | 6, _ => deep_6_1
  | 7, _ => deep_7_1
  | 8, _ => deep_8_1
  | 9, _ => deep_9_1
  | 10, _ => deep_10_1
  | 11, _ => deep_11_1
  | 12, _ => deep_12_1
  | 13, _ => deep_13_1
  | 14, _ => deep_14_1
  | 15, _ => deep_15_1
  | 16, _ => deep_16_1
  | 17, _ => deep_17_1
  | 18, _ => deep_18_1
  | 19, _ => deep_19_1
  | 20, _ => deep_20_1
  | 21, _ => deep_21_1
  | 22, _ => deep_22_1
  | 23, _ => deep_23_1
  | 24, _ => deep_24_1
  | 25, _ => deep_25_1
  | 26, _ => deep_26_1
  | 27, _ => deep_27_1
  | 28, _ => deep_28_1
  | 29, _ => deep_29_1
  | r + 30, h => absurd h (by omega)
end Go.Proofs.YtnjjkomopkgidaaGreatDoor.Av
