/-
  CheckNots: its cases, part 4.
-/
import Derived.Test.YtjdbcfnlehedmaaGreatDoorNots0
namespace Go.Proofs.YtjdbcfnlehedmaaGreatDoor.Av
set_option linter.unusedVariables false
set_option maxRecDepth 1000000
open Go
theorem nots2_00 : NotsOk ([false, false]) := by intro cap alt; cases alt <;> kernel_rfl
theorem nots3_000 : NotsOk ([false, false, false]) := by intro cap alt; cases alt <;> kernel_rfl
theorem nots3_100 : NotsOk ([true, false, false]) := by intro cap alt; cases alt <;> kernel_rfl
theorem nots4_0000 : NotsOk ([false, false, false, false]) := by intro cap alt; cases alt <;> kernel_rfl
theorem nots4_0100 : NotsOk ([false, true, false, false]) := by intro cap alt; cases alt <;> kernel_rfl
theorem nots4_1000 : NotsOk ([true, false, false, false]) := by intro cap alt; cases alt <;> kernel_rfl
theorem nots4_1100 : NotsOk ([true, true, false, false]) := by intro cap alt; cases alt <;> kernel_rfl
theorem nots5_00000 : NotsOk ([false, false, false, false, false]) := by intro cap alt; cases alt <;> kernel_rfl
theorem nots5_00100 : NotsOk ([false, false, true, false, false]) := by intro cap alt; cases alt <;> kernel_rfl
theorem nots5_01000 : NotsOk ([false, true, false, false, false]) := by intro cap alt; cases alt <;> kernel_rfl
theorem nots5_01100 : NotsOk ([false, true, true, false, false]) := by intro cap alt; cases alt <;> kernel_rfl
theorem nots5_10000 : NotsOk ([true, false, false, false, false]) := by intro cap alt; cases alt <;> kernel_rfl
theorem nots5_10100 : NotsOk ([true, false, true, false, false]) := by intro cap alt; cases alt <;> kernel_rfl
theorem nots5_11000 : NotsOk ([true, true, false, false, false]) := by intro cap alt; cases alt <;> kernel_rfl
theorem nots5_11100 : NotsOk ([true, true, true, false, false]) := by intro cap alt; cases alt <;> kernel_rfl
theorem nots6_000000 : NotsOk ([false, false, false, false, false, false]) := by intro cap alt; cases alt <;> kernel_rfl
theorem nots6_000100 : NotsOk ([false, false, false, true, false, false]) := by intro cap alt; cases alt <;> kernel_rfl
theorem nots6_001000 : NotsOk ([false, false, true, false, false, false]) := by intro cap alt; cases alt <;> kernel_rfl
theorem nots6_001100 : NotsOk ([false, false, true, true, false, false]) := by intro cap alt; cases alt <;> kernel_rfl
theorem nots6_010000 : NotsOk ([false, true, false, false, false, false]) := by intro cap alt; cases alt <;> kernel_rfl
theorem nots6_010100 : NotsOk ([false, true, false, true, false, false]) := by intro cap alt; cases alt <;> kernel_rfl
theorem nots6_011000 : NotsOk ([false, true, true, false, false, false]) := by intro cap alt; cases alt <;> kernel_rfl
theorem nots6_011100 : NotsOk ([false, true, true, true, false, false]) := by intro cap alt; cases alt <;> kernel_rfl
theorem nots6_100000 : NotsOk ([true, false, false, false, false, false]) := by intro cap alt; cases alt <;> kernel_rfl
theorem nots6_100100 : NotsOk ([true, false, false, true, false, false]) := by intro cap alt; cases alt <;> kernel_rfl
theorem nots6_101000 : NotsOk ([true, false, true, false, false, false]) := by intro cap alt; cases alt <;> kernel_rfl
theorem nots6_101100 : NotsOk ([true, false, true, true, false, false]) := by intro cap alt; cases alt <;> kernel_rfl
theorem nots6_110000 : NotsOk ([true, true, false, false, false, false]) := by intro cap alt; cases alt <;> kernel_rfl
theorem nots6_110100 : NotsOk ([true, true, false, true, false, false]) := by intro cap alt; cases alt <;> kernel_rfl
theorem nots6_111000 : NotsOk ([true, true, true, false, false, false]) := by intro cap alt; cases alt <;> kernel_rfl
theorem nots6_111100 : NotsOk ([true, true, true, true, false, false]) := by intro cap alt; cases alt <;> kernel_rfl
theorem nots7_0000000 (r : List Bool) : NotsOk (false :: false :: false :: false :: false :: false :: false :: r) := by intro cap alt; cases alt <;> kernel_rfl
theorem nots7_0000100 (r : List Bool) : NotsOk (false :: false :: false :: false :: true :: false :: false :: r) := by intro cap alt; cases alt <;> kernel_rfl
theorem nots7_0001000 (r : List Bool) : NotsOk (false :: false :: false :: true :: false :: false :: false :: r) := by intro cap alt; cases alt <;> kernel_rfl
theorem nots7_0001100 (r : List Bool) : NotsOk (false :: false :: false :: true :: true :: false :: false :: r) := by intro cap alt; cases alt <;> kernel_rfl
theorem nots7_0010000 (r : List Bool) : NotsOk (false :: false :: true :: false :: false :: false :: false :: r) := by intro cap alt; cases alt <;> kernel_rfl
theorem nots7_0010100 (r : List Bool) : NotsOk (false :: false :: true :: false :: true :: false :: false :: r) := by intro cap alt; cases alt <;> kernel_rfl
theorem nots7_0011000 (r : List Bool) : NotsOk (false :: false :: true :: true :: false :: false :: false :: r) := by intro cap alt; cases alt <;> kernel_rfl
theorem nots7_0011100 (r : List Bool) : NotsOk (false :: false :: true :: true :: true :: false :: false :: r) := by intro cap alt; cases alt <;> kernel_rfl
theorem nots7_0100000 (r : List Bool) : NotsOk (false :: true :: false :: false :: false :: false :: false :: r) := by intro cap alt; cases alt <;> kernel_rfl
theorem nots7_0100100 (r : List Bool) : NotsOk (false :: true :: false :: false :: true :: false :: false :: r) := by intro cap alt; cases alt <;> kernel_rfl
theorem nots7_0101000 (r : List Bool) : NotsOk (false :: true :: false :: true :: false :: false :: false :: r) := by intro cap alt; cases alt <;> kernel_rfl
theorem nots7_0101100 (r : List Bool) : NotsOk (false :: true :: false :: true :: true :: false :: false :: r) := by intro cap alt; cases alt <;> kernel_rfl
theorem nots7_0110000 (r : List Bool) : NotsOk (false :: true :: true :: false :: false :: false :: false :: r) := by intro cap alt; cases alt <;> kernel_rfl
theorem nots7_0110100 (r : List Bool) : NotsOk (false :: true :: true :: false :: true :: false :: false :: r) := by intro cap alt; cases alt <;> kernel_rfl
theorem nots7_0111000 (r : List Bool) : NotsOk (false :: true :: true :: true :: false :: false :: false :: r) := by intro cap alt; cases alt <;> kernel_rfl
theorem nots7_0111100 (r : List Bool) : NotsOk (false :: true :: true :: true :: true :: false :: false :: r) := by intro cap alt; cases alt <;> kernel_rfl
theorem nots7_1000000 (r : List Bool) : NotsOk (true :: false :: false :: false :: false :: false :: false :: r) := by intro cap alt; cases alt <;> kernel_rfl
theorem nots7_1000100 (r : List Bool) : NotsOk (true :: false :: false :: false :: true :: false :: false :: r) := by intro cap alt; cases alt <;> kernel_rfl
theorem nots7_1001000 (r : List Bool) : NotsOk (true :: false :: false :: true :: false :: false :: false :: r) := by intro cap alt; cases alt <;> kernel_rfl
theorem nots7_1001100 (r : List Bool) : NotsOk (true :: false :: false :: true :: true :: false :: false :: r) := by intro cap alt; cases alt <;> kernel_rfl
theorem nots7_1010000 (r : List Bool) : NotsOk (true :: false :: true :: false :: false :: false :: false :: r) := by intro cap alt; cases alt <;> kernel_rfl
theorem nots7_1010100 (r : List Bool) : NotsOk (true :: false :: true :: false :: true :: false :: false :: r) := by intro cap alt; cases alt <;> kernel_rfl
theorem nots7_1011000 (r : List Bool) : NotsOk (true :: false :: true :: true :: false :: false :: false :: r) := by intro cap alt; cases alt <;> kernel_rfl
theorem nots7_1011100 (r : List Bool) : NotsOk (true :: false :: true :: true :: true :: false :: false :: r) := by intro cap alt; cases alt <;> kernel_rfl
theorem nots7_1100000 (r : List Bool) : NotsOk (true :: true :: false :: false :: false :: false :: false :: r) := by intro cap alt; cases alt <;> kernel_rfl
theorem nots7_1100100 (r : List Bool) : NotsOk (true :: true :: false :: false :: true :: false :: false :: r) := by intro cap alt; cases alt <;> kernel_rfl
theorem nots7_1101000 (r : List Bool) : NotsOk (true :: true :: false :: true :: false :: false :: false :: r) := by intro cap alt; cases alt <;> kernel_rfl
theorem nots7_1101100 (r : List Bool) : NotsOk (true :: true :: false :: true :: true :: false :: false :: r) := by intro cap alt; cases alt <;> kernel_rfl
theorem nots7_1110000 (r : List Bool) : NotsOk (true :: true :: true :: false :: false :: false :: false :: r) := by intro cap alt; cases alt <;> kernel_rfl
theorem nots7_1110100 (r : List Bool) : NotsOk (true :: true :: true :: false :: true :: false :: false :: r) := by intro cap alt; cases alt <;> kernel_rfl
theorem nots7_1111000 (r : List Bool) : NotsOk (true :: true :: true :: true :: false :: false :: false :: r) := by intro cap alt; cases alt <;> kernel_rfl
theorem nots7_1111100 (r : List Bool) : NotsOk (true :: true :: true :: true :: true :: false :: false :: r) := by intro cap alt; cases alt <;> kernel_rfl
end Go.Proofs.YtjdbcfnlehedmaaGreatDoor.Av
