/-
  ParseDeep: its cases, part 3, each evaluated by the kernel.
-/
import Derived.Test.YtnjjkomopkgidaaGreatDoorDeep0
namespace Go.Proofs.YtnjjkomopkgidaaGreatDoor.Av
set_option linter.unusedVariables false
set_option maxRecDepth 1000000
open Go
theorem deep_0_2 : deepC 0 2 = true := by kernel_rfl
theorem deep_1_2 : deepC 1 2 = true := by kernel_rfl
theorem deep_2_2 : deepC 2 2 = true := by kernel_rfl
theorem deep_3_2 : deepC 3 2 = true := by kernel_rfl
theorem deep_4_2 : deepC 4 2 = true := by kernel_rfl
theorem deep_5_2 : deepC 5 2 = true := by kernel_rfl
theorem deep_6_2 : deepC 6 2 = true := by kernel_rfl
theorem deep_7_2 : deepC 7 2 = true := by kernel_rfl
theorem deep_8_2 : deepC 8 2 = true := by kernel_rfl
theorem deep_9_2 : deepC 9 2 = true := by kernel_rfl
theorem deep_10_2 : deepC 10 2 = true := by kernel_rfl
theorem deep_11_2 : deepC 11 2 = true := by kernel_rfl
theorem deep_12_2 : deepC 12 2 = true := by kernel_rfl
theorem deep_13_2 : deepC 13 2 = true := by kernel_rfl
theorem deep_14_2 : deepC 14 2 = true := by kernel_rfl
theorem deep_15_2 : deepC 15 2 = true := by kernel_rfl
theorem deep_16_2 : deepC 16 2 = true := by kernel_rfl
theorem deep_17_2 : deepC 17 2 = true := by kernel_rfl
theorem deep_18_2 : deepC 18 2 = true := by kernel_rfl
theorem deep_19_2 : deepC 19 2 = true := by kernel_rfl
theorem deep_20_2 : deepC 20 2 = true := by kernel_rfl
theorem deep_21_2 : deepC 21 2 = true := by kernel_rfl
theorem deep_22_2 : deepC 22 2 = true := by kernel_rfl
theorem deep_23_2 : deepC 23 2 = true := by kernel_rfl
theorem deep_24_2 : deepC 24 2 = true := by kernel_rfl
theorem deep_25_2 : deepC 25 2 = true := by kernel_rfl
theorem deep_26_2 : deepC 26 2 = true := by kernel_rfl
theorem deep_27_2 : deepC 27 2 = true := by kernel_rfl
theorem deep_28_2 : deepC 28 2 = true := by kernel_rfl
theorem deep_29_2 : deepC 29 2 = true := by kernel_rfl
theorem deepAll_2 : ∀ r : Nat, r < 30 → deepC r 2 = true
  | 0, _ => deep_0_2
  | 1, _ => deep_1_2
  | 2, _ => deep_2_2
  | 3, _ => deep_3_2
  | 4, _ => deep_4_2
  | 5, _ => deep_5_2
  | 6, _ => deep_6_2
  | 7, _ => deep_7_2
  | 8, _ => deep_8_2
  | 9, _ => deep_9_2
  | 10, _ => deep_10_2
  | 11, _ => deep_11_2
  | 12, _ => deep_12_2
  | 13, _ => deep_13_2
  | 14, _ => deep_14_2
  | 15, _ => deep_15_2
  | 16, _ => deep_16_2
  | 17, _ => deep_17_2
  | 18, _ => deep_18_2
  | 19, _ => deep_19_2
  | 20, _ => deep_20_2
  | 21, _ => deep_21_2
  | 22, _ => deep_22_2
  | 23, _ => deep_23_2
  | 24, _ => deep_24_2
  | 25, _ => deep_25_2
  | 26, _ => deep_26_2
  | 27, _ => deep_27_2
  | 28, _ => deep_28_2
  | 29, _ => deep_29_2
  | r + 30, h => absurd h (by omega)
end Go.Proofs.YtnjjkomopkgidaaGreatDoor.Av
