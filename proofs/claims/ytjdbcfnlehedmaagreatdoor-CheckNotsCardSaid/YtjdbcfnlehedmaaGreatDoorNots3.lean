/-
  CheckNots: its cases, part 3.
-/
import Derived.Test.YtjdbcfnlehedmaaGreatDoorNots0
namespace Go.Proofs.YtjdbcfnlehedmaaGreatDoor.Av
set_option linter.unusedVariables false
set_option maxRecDepth 1000000
open Go
theorem nots1_1 : NotsOk ([true]) := by intro cap alt; cases alt <;> kernel_rfl
theorem nots2_11 : NotsOk ([true, true]) := by intro cap alt; cases alt <;> kernel_rfl
theorem nots3_011 : NotsOk ([false, true, true]) := by intro cap alt; cases alt <;> kernel_rfl
theorem nots3_111 : NotsOk ([true, true, true]) := by intro cap alt; cases alt <;> kernel_rfl
theorem nots4_0011 : NotsOk ([false, false, true, true]) := by intro cap alt; cases alt <;> kernel_rfl
theorem nots4_0111 : NotsOk ([false, true, true, true]) := by intro cap alt; cases alt <;> kernel_rfl
theorem nots4_1011 : NotsOk ([true, false, true, true]) := by intro cap alt; cases alt <;> kernel_rfl
theorem nots4_1111 : NotsOk ([true, true, true, true]) := by intro cap alt; cases alt <;> kernel_rfl
theorem nots5_00011 : NotsOk ([false, false, false, true, true]) := by intro cap alt; cases alt <;> kernel_rfl
theorem nots5_00111 : NotsOk ([false, false, true, true, true]) := by intro cap alt; cases alt <;> kernel_rfl
theorem nots5_01011 : NotsOk ([false, true, false, true, true]) := by intro cap alt; cases alt <;> kernel_rfl
theorem nots5_01111 : NotsOk ([false, true, true, true, true]) := by intro cap alt; cases alt <;> kernel_rfl
theorem nots5_10011 : NotsOk ([true, false, false, true, true]) := by intro cap alt; cases alt <;> kernel_rfl
theorem nots5_10111 : NotsOk ([true, false, true, true, true]) := by intro cap alt; cases alt <;> kernel_rfl
theorem nots5_11011 : NotsOk ([true, true, false, true, true]) := by intro cap alt; cases alt <;> kernel_rfl
theorem nots5_11111 : NotsOk ([true, true, true, true, true]) := by intro cap alt; cases alt <;> kernel_rfl
theorem nots6_000011 : NotsOk ([false, false, false, false, true, true]) := by intro cap alt; cases alt <;> kernel_rfl
theorem nots6_000111 : NotsOk ([false, false, false, true, true, true]) := by intro cap alt; cases alt <;> kernel_rfl
theorem nots6_001011 : NotsOk ([false, false, true, false, true, true]) := by intro cap alt; cases alt <;> kernel_rfl
theorem nots6_001111 : NotsOk ([false, false, true, true, true, true]) := by intro cap alt; cases alt <;> kernel_rfl
theorem nots6_010011 : NotsOk ([false, true, false, false, true, true]) := by intro cap alt; cases alt <;> kernel_rfl
theorem nots6_010111 : NotsOk ([false, true, false, true, true, true]) := by intro cap alt; cases alt <;> kernel_rfl
theorem nots6_011011 : NotsOk ([false, true, true, false, true, true]) := by intro cap alt; cases alt <;> kernel_rfl
theorem nots6_011111 : NotsOk ([false, true, true, true, true, true]) := by intro cap alt; cases alt <;> kernel_rfl
theorem nots6_100011 : NotsOk ([true, false, false, false, true, true]) := by intro cap alt; cases alt <;> kernel_rfl
theorem nots6_100111 : NotsOk ([true, false, false, true, true, true]) := by intro cap alt; cases alt <;> kernel_rfl
theorem nots6_101011 : NotsOk ([true, false, true, false, true, true]) := by intro cap alt; cases alt <;> kernel_rfl
theorem nots6_101111 : NotsOk ([true, false, true, true, true, true]) := by intro cap alt; cases alt <;> kernel_rfl
theorem nots6_110011 : NotsOk ([true, true, false, false, true, true]) := by intro cap alt; cases alt <;> kernel_rfl
theorem nots6_110111 : NotsOk ([true, true, false, true, true, true]) := by intro cap alt; cases alt <;> kernel_rfl
theorem nots6_111011 : NotsOk ([true, true, true, false, true, true]) := by intro cap alt; cases alt <;> kernel_rfl
theorem nots6_111111 : NotsOk ([true, true, true, true, true, true]) := by intro cap alt; cases alt <;> kernel_rfl
theorem nots7_0000011 (r : List Bool) : NotsOk (false :: false :: false :: false :: false :: true :: true :: r) := by intro cap alt; cases alt <;> kernel_rfl
theorem nots7_0000111 (r : List Bool) : NotsOk (false :: false :: false :: false :: true :: true :: true :: r) := by intro cap alt; cases alt <;> kernel_rfl
theorem nots7_0001011 (r : List Bool) : NotsOk (false :: false :: false :: true :: false :: true :: true :: r) := by intro cap alt; cases alt <;> kernel_rfl
theorem nots7_0001111 (r : List Bool) : NotsOk (false :: false :: false :: true :: true :: true :: true :: r) := by intro cap alt; cases alt <;> kernel_rfl
theorem nots7_0010011 (r : List Bool) : NotsOk (false :: false :: true :: false :: false :: true :: true :: r) := by intro cap alt; cases alt <;> kernel_rfl
theorem nots7_0010111 (r : List Bool) : NotsOk (false :: false :: true :: false :: true :: true :: true :: r) := by intro cap alt; cases alt <;> kernel_rfl
theorem nots7_0011011 (r : List Bool) : NotsOk (false :: false :: true :: true :: false :: true :: true :: r) := by intro cap alt; cases alt <;> kernel_rfl
theorem nots7_0011111 (r : List Bool) : NotsOk (false :: false :: true :: true :: true :: true :: true :: r) := by intro cap alt; cases alt <;> kernel_rfl
theorem nots7_0100011 (r : List Bool) : NotsOk (false :: true :: false :: false :: false :: true :: true :: r) := by intro cap alt; cases alt <;> kernel_rfl
theorem nots7_0100111 (r : List Bool) : NotsOk (false :: true :: false :: false :: true :: true :: true :: r) := by intro cap alt; cases alt <;> kernel_rfl
theorem nots7_0101011 (r : List Bool) : NotsOk (false :: true :: false :: true :: false :: true :: true :: r) := by intro cap alt; cases alt <;> kernel_rfl
theorem nots7_0101111 (r : List Bool) : NotsOk (false :: true :: false :: true :: true :: true :: true :: r) := by intro cap alt; cases alt <;> kernel_rfl
theorem nots7_0110011 (r : List Bool) : NotsOk (false :: true :: true :: false :: false :: true :: true :: r) := by intro cap alt; cases alt <;> kernel_rfl
theorem nots7_0110111 (r : List Bool) : NotsOk (false :: true :: true :: false :: true :: true :: true :: r) := by intro cap alt; cases alt <;> kernel_rfl
theorem nots7_0111011 (r : List Bool) : NotsOk (false :: true :: true :: true :: false :: true :: true :: r) := by intro cap alt; cases alt <;> kernel_rfl
theorem nots7_0111111 (r : List Bool) : NotsOk (false :: true :: true :: true :: true :: true :: true :: r) := by intro cap alt; cases alt <;> kernel_rfl
theorem nots7_1000011 (r : List Bool) : NotsOk (true :: false :: false :: false :: false :: true :: true :: r) := by intro cap alt; cases alt <;> kernel_rfl
theorem nots7_1000111 (r : List Bool) : NotsOk (true :: false :: false :: false :: true :: true :: true :: r) := by intro cap alt; cases alt <;> kernel_rfl
theorem nots7_1001011 (r : List Bool) : NotsOk (true :: false :: false :: true :: false :: true :: true :: r) := by intro cap alt; cases alt <;> kernel_rfl
theorem nots7_1001111 (r : List Bool) : NotsOk (true :: false :: false :: true :: true :: true :: true :: r) := by intro cap alt; cases alt <;> kernel_rfl
theorem nots7_1010011 (r : List Bool) : NotsOk (true :: false :: true :: false :: false :: true :: true :: r) := by intro cap alt; cases alt <;> kernel_rfl
theorem nots7_1010111 (r : List Bool) : NotsOk (true :: false :: true :: false :: true :: true :: true :: r) := by intro cap alt; cases alt <;> kernel_rfl
theorem nots7_1011011 (r : List Bool) : NotsOk (true :: false :: true :: true :: false :: true :: true :: r) := by intro cap alt; cases alt <;> kernel_rfl
theorem nots7_1011111 (r : List Bool) : NotsOk (true :: false :: true :: true :: true :: true :: true :: r) := by intro cap alt; cases alt <;> kernel_rfl
theorem nots7_1100011 (r : List Bool) : NotsOk (true :: true :: false :: false :: false :: true :: true :: r) := by intro cap alt; cases alt <;> kernel_rfl
theorem nots7_1100111 (r : List Bool) : NotsOk (true :: true :: false :: false :: true :: true :: true :: r) := by intro cap alt; cases alt <;> kernel_rfl
theorem nots7_1101011 (r : List Bool) : NotsOk (true :: true :: false :: true :: false :: true :: true :: r) := by intro cap alt; cases alt <;> kernel_rfl
theorem nots7_1101111 (r : List Bool) : NotsOk (true :: true :: false :: true :: true :: true :: true :: r) := by intro cap alt; cases alt <;> kernel_rfl
theorem nots7_1110011 (r : List Bool) : NotsOk (true :: true :: true :: false :: false :: true :: true :: r) := by intro cap alt; cases alt <;> kernel_rfl
theorem nots7_1110111 (r : List Bool) : NotsOk (true :: true :: true :: false :: true :: true :: true :: r) := by intro cap alt; cases alt <;> kernel_rfl
theorem nots7_1111011 (r : List Bool) : NotsOk (true :: true :: true :: true :: false :: true :: true :: r) := by intro cap alt; cases alt <;> kernel_rfl
theorem nots7_1111111 (r : List Bool) : NotsOk (true :: true :: true :: true :: true :: true :: true :: r) := by intro cap alt; cases alt <;> kernel_rfl
end Go.Proofs.YtjdbcfnlehedmaaGreatDoor.Av
