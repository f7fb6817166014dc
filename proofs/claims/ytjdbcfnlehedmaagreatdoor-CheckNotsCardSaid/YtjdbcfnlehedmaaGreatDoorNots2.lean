/-
  CheckNots: its cases, part 2.
-/
import Derived.Test.YtjdbcfnlehedmaaGreatDoorNots0
namespace Go.Proofs.YtjdbcfnlehedmaaGreatDoor.Av
set_option linter.unusedVariables false
set_option maxRecDepth 1000000
open Go
theorem nots1_0 : NotsOk ([false]) := by intro cap alt; cases alt <;> kernel_rfl
theorem nots2_10 : NotsOk ([true, false]) := by intro cap alt; cases alt <;> kernel_rfl
theorem nots3_010 : NotsOk ([false, true, false]) := by intro cap alt; cases alt <;> kernel_rfl
theorem nots3_110 : NotsOk ([true, true, false]) := by intro cap alt; cases alt <;> kernel_rfl
theorem nots4_0010 : NotsOk ([false, false, true, false]) := by intro cap alt; cases alt <;> kernel_rfl
theorem nots4_0110 : NotsOk ([false, true, true, false]) := by intro cap alt; cases alt <;> kernel_rfl
theorem nots4_1010 : NotsOk ([true, false, true, false]) := by intro cap alt; cases alt <;> kernel_rfl
theorem nots4_1110 : NotsOk ([true, true, true, false]) := by intro cap alt; cases alt <;> kernel_rfl
theorem nots5_00010 : NotsOk ([false, false, false, true, false]) := by intro cap alt; cases alt <;> kernel_rfl
theorem nots5_00110 : NotsOk ([false, false, true, true, false]) := by intro cap alt; cases alt <;> kernel_rfl
theorem nots5_01010 : NotsOk ([false, true, false, true, false]) := by intro cap alt; cases alt <;> kernel_rfl
theorem nots5_01110 : NotsOk ([false, true, true, true, false]) := by intro cap alt; cases alt <;> kernel_rfl
theorem nots5_10010 : NotsOk ([true, false, false, true, false]) := by intro cap alt; cases alt <;> kernel_rfl
theorem nots5_10110 : NotsOk ([true, false, true, true, false]) := by intro cap alt; cases alt <;> kernel_rfl
theorem nots5_11010 : NotsOk ([true, true, false, true, false]) := by intro cap alt; cases alt <;> kernel_rfl
theorem nots5_11110 : NotsOk ([true, true, true, true, false]) := by intro cap alt; cases alt <;> kernel_rfl
theorem nots6_000010 : NotsOk ([false, false, false, false, true, false]) := by intro cap alt; cases alt <;> kernel_rfl
theorem nots6_000110 : NotsOk ([false, false, false, true, true, false]) := by intro cap alt; cases alt <;> kernel_rfl
theorem nots6_001010 : NotsOk ([false, false, true, false, true, false]) := by intro cap alt; cases alt <;> kernel_rfl
theorem nots6_001110 : NotsOk ([false, false, true, true, true, false]) := by intro cap alt; cases alt <;> kernel_rfl
theorem nots6_010010 : NotsOk ([false, true, false, false, true, false]) := by intro cap alt; cases alt <;> kernel_rfl
theorem nots6_010110 : NotsOk ([false, true, false, true, true, false]) := by intro cap alt; cases alt <;> kernel_rfl
theorem nots6_011010 : NotsOk ([false, true, true, false, true, false]) := by intro cap alt; cases alt <;> kernel_rfl
theorem nots6_011110 : NotsOk ([false, true, true, true, true, false]) := by intro cap alt; cases alt <;> kernel_rfl
theorem nots6_100010 : NotsOk ([true, false, false, false, true, false]) := by intro cap alt; cases alt <;> kernel_rfl
theorem nots6_100110 : NotsOk ([true, false, false, true, true, false]) := by intro cap alt; cases alt <;> kernel_rfl
theorem nots6_101010 : NotsOk ([true, false, true, false, true, false]) := by intro cap alt; cases alt <;> kernel_rfl
theorem nots6_101110 : NotsOk ([true, false, true, true, true, false]) := by intro cap alt; cases alt <;> kernel_rfl
theorem nots6_110010 : NotsOk ([true, true, false, false, true, false]) := by intro cap alt; cases alt <;> kernel_rfl
theorem nots6_110110 : NotsOk ([true, true, false, true, true, false]) := by intro cap alt; cases alt <;> kernel_rfl
theorem nots6_111010 : NotsOk ([true, true, true, false, true, false]) := by intro cap alt; cases alt <;> kernel_rfl
theorem nots6_111110 : NotsOk ([true, true, true, true, true, false]) := by intro cap alt; cases alt <;> kernel_rfl
theorem nots7_0000010 (r : List Bool) : NotsOk (false :: false :: false :: false :: false :: true :: false :: r) := by intro cap alt; cases alt <;> kernel_rfl
theorem nots7_0000110 (r : List Bool) : NotsOk (false :: false :: false :: false :: true :: true :: false :: r) := by intro cap alt; cases alt <;> kernel_rfl
theorem nots7_0001010 (r : List Bool) : NotsOk (false :: false :: false :: true :: false :: true :: false :: r) := by intro cap alt; cases alt <;> kernel_rfl
theorem nots7_0001110 (r : List Bool) : NotsOk (false :: false :: false :: true :: true :: true :: false :: r) := by intro cap alt; cases alt <;> kernel_rfl
theorem nots7_0010010 (r : List Bool) : NotsOk (false :: false :: true :: false :: false :: true :: false :: r) := by intro cap alt; cases alt <;> kernel_rfl
theorem nots7_0010110 (r : List Bool) : NotsOk (false :: false :: true :: false :: true :: true :: false :: r) := by intro cap alt; cases alt <;> kernel_rfl
theorem nots7_0011010 (r : List Bool) : NotsOk (false :: false :: true :: true :: false :: true :: false :: r) := by intro cap alt; cases alt <;> kernel_rfl
theorem nots7_0011110 (r : List Bool) : NotsOk (false :: false :: true :: true :: true :: true :: false :: r) := by intro cap alt; cases alt <;> kernel_rfl
theorem nots7_0100010 (r : List Bool) : NotsOk (false :: true :: false :: false :: false :: true :: false :: r) := by intro cap alt; cases alt <;> kernel_rfl
theorem nots7_0100110 (r : List Bool) : NotsOk (false :: true :: false :: false :: true :: true :: false :: r) := by intro cap alt; cases alt <;> kernel_rfl
theorem nots7_0101010 (r : List Bool) : NotsOk (false :: true :: false :: true :: false :: true :: false :: r) := by intro cap alt; cases alt <;> kernel_rfl
theorem nots7_0101110 (r : List Bool) : NotsOk (false :: true :: false :: true :: true :: true :: false :: r) := by intro cap alt; cases alt <;> kernel_rfl
theorem nots7_0110010 (r : List Bool) : NotsOk (false :: true :: true :: false :: false :: true :: false :: r) := by intro cap alt; cases alt <;> kernel_rfl
theorem nots7_0110110 (r : List Bool) : NotsOk (false :: true :: true :: false :: true :: true :: false :: r) := by intro cap alt; cases alt <;> kernel_rfl
theorem nots7_0111010 (r : List Bool) : NotsOk (false :: true :: true :: true :: false :: true :: false :: r) := by intro cap alt; cases alt <;> kernel_rfl
theorem nots7_0111110 (r : List Bool) : NotsOk (false :: true :: true :: true :: true :: true :: false :: r) := by intro cap alt; cases alt <;> kernel_rfl
theorem nots7_1000010 (r : List Bool) : NotsOk (true :: false :: false :: false :: false :: true :: false :: r) := by intro cap alt; cases alt <;> kernel_rfl
theorem nots7_1000110 (r : List Bool) : NotsOk (true :: false :: false :: false :: true :: true :: false :: r) := by intro cap alt; cases alt <;> kernel_rfl
theorem nots7_1001010 (r : List Bool) : NotsOk (true :: false :: false :: true :: false :: true :: false :: r) := by intro cap alt; cases alt <;> kernel_rfl
theorem nots7_1001110 (r : List Bool) : NotsOk (true :: false :: false :: true :: true :: true :: false :: r) := by intro cap alt; cases alt <;> kernel_rfl
theorem nots7_1010010 (r : List Bool) : NotsOk (true :: false :: true :: false :: false :: true :: false :: r) := by intro cap alt; cases alt <;> kernel_rfl
theorem nots7_1010110 (r : List Bool) : NotsOk (true :: false :: true :: false :: true :: true :: false :: r) := by intro cap alt; cases alt <;> kernel_rfl
theorem nots7_1011010 (r : List Bool) : NotsOk (true :: false :: true :: true :: false :: true :: false :: r) := by intro cap alt; cases alt <;> kernel_rfl
theorem nots7_1011110 (r : List Bool) : NotsOk (true :: false :: true :: true :: true :: true :: false :: r) := by intro cap alt; cases alt <;> kernel_rfl
theorem nots7_1100010 (r : List Bool) : NotsOk (true :: true :: false :: false :: false :: true :: false :: r) := by intro cap alt; cases alt <;> kernel_rfl
theorem nots7_1100110 (r : List Bool) : NotsOk (true :: true :: false :: false :: true :: true :: false :: r) := by intro cap alt; cases alt <;> kernel_rfl
theorem nots7_1101010 (r : List Bool) : NotsOk (true :: true :: false :: true :: false :: true :: false :: r) := by intro cap alt; cases alt <;> kernel_rfl
theorem nots7_1101110 (r : List Bool) : NotsOk (true :: true :: false :: true :: true :: true :: false :: r) := by intro cap alt; cases alt <;> kernel_rfl
theorem nots7_1110010 (r : List Bool) : NotsOk (true :: true :: true :: false :: false :: true :: false :: r) := by intro cap alt; cases alt <;> kernel_rfl
theorem nots7_1110110 (r : List Bool) : NotsOk (true :: true :: true :: false :: true :: true :: false :: r) := by intro cap alt; cases alt <;> kernel_rfl
theorem nots7_1111010 (r : List Bool) : NotsOk (true :: true :: true :: true :: false :: true :: false :: r) := by intro cap alt; cases alt <;> kernel_rfl
theorem nots7_1111110 (r : List Bool) : NotsOk (true :: true :: true :: true :: true :: true :: false :: r) := by intro cap alt; cases alt <;> kernel_rfl
end Go.Proofs.YtjdbcfnlehedmaaGreatDoor.Av
