/-
  ParseDeep: its cases, part 1, each evaluated by the kernel.
-/
import Derived.Test.YtnjjkomopkgidaaGreatDoorDeep0
namespace Go.Proofs.YtnjjkomopkgidaaGreatDoor.Av
set_option linter.unusedVariables false
set_option maxRecDepth 1000000
open Go
theorem deep_0_0 : deepC 0 0 = true := by kernel_rfl
theorem deep_1_0 : deepC 1 0 = true := by kernel_rfl
theorem deep_2_0 : deepC 2 0 = true := by kernel_rfl
theorem deep_3_0 : deepC 3 0 = true := by kernel_rfl
theorem deep_4_0 : deepC 4 0 = true := by kernel_rfl
theorem deep_5_0 : deepC 5 0 = true := by kernel_rfl
theorem deep_6_0 : deepC 6 0 = true := by kernel_rfl
theorem deep_7_0 : deepC 7 0 = true := by kernel_rfl
theorem deep_8_0 : deepC 8 0 = true := by kernel_rfl
theorem deep_9_0 : deepC 9 0 = true := by kernel_rfl
theorem deep_10_0 : deepC 10 0 = true := by kernel_rfl
theorem deep_11_0 : deepC 11 0 = true := by kernel_rfl
theorem deep_12_0 : deepC 12 0 = true := by kernel_rfl
theorem deep_13_0 : deepC 13 0 = true := by kernel_rfl
theorem deep_14_0 : deepC 14 0 = true := by kernel_rfl
theorem deep_15_0 : deepC 15 0 = true := by kernel_rfl
theorem deep_16_0 : deepC 16 0 = true := by kernel_rfl
theorem deep_17_0 : deepC 17 0 = true := by kernel_rfl
theorem deep_18_0 : deepC 18 0 = true := by kernel_rfl
theorem deep_19_0 : deepC 19 0 = true := by kernel_rfl
theorem deep_20_0 : deepC 20 0 = true := by kernel_rfl
theorem deep_21_0 : deepC 21 0 = true := by kernel_rfl
theorem deep_22_0 : deepC 22 0 = true := by kernel_rfl
theorem deep_23_0 : deepC 23 0 = true := by kernel_rfl
theorem deep_24_0 : deepC 24 0 = true := by kernel_rfl
theorem deep_25_0 : deepC 25 0 = true := by kernel_rfl
theorem deep_26_0 : deepC 26 0 = true := by kernel_rfl
theorem deep_27_0 : deepC 27 0 = true := by kernel_rfl
theorem deep_28_0 : deepC 28 0 = true := by kernel_rfl
theorem deep_29_0 : deepC 29 0 = true := by kernel_rfl
theorem deepAll_0 : ∀ r : Nat, r < 30 → deepC r 0 = true
  | 0, _ => deep_0_0
  | 1, _ => deep_1_0
  | 2, _ => deep_2_0
  | 3, _ => deep_3_0
  | 4, _ => deep_4_0
  | 5, _ => deep_5_0
  | 6, _ => deep_6_0
  | 7, _ => deep_7_0
  | 8, _ => deep_8_0
  | 9, _ => deep_9_0
  | 10, _ => deep_10_0
  | 11, _ => deep_11_0
  | 12, _ => deep_12_0
  | 13, _ => deep_13_0
  | 14, _ => deep_14_0
  | 15, _ => deep_15_0
  | 16, _ => deep_16_0
  | 17, _ => deep_17_0
  | 18, _ => deep_18_0
  | 19, _ => deep_19_0
  | 20, _ => deep_20_0
  | 21, _ => deep_21_0
  | 22, _ => deep_22_0
  | 23, _ => deep_23_0
  | 24, _ => deep_24_0
  | 25, _ => deep_25_0
  | 26, _ => deep_26_0
  | 27, _ => deep_27_0
  | 28, _ => deep_28_0
  | 29, _ => deep_29_0
  | r + 30, h => absurd h (by omega)
end Go.Proofs.YtnjjkomopkgidaaGreatDoor.Av
