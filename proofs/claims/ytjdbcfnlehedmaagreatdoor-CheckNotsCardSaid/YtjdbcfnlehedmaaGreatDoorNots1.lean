/-
  CheckNots: its cases, part 1.
-/
import Derived.Test.YtjdbcfnlehedmaaGreatDoorNots0
namespace Go.Proofs.YtjdbcfnlehedmaaGreatDoor.Av
set_option linter.unusedVariables false
set_option maxRecDepth 1000000
open Go
theorem nots0_ : NotsOk ([]) := by intro cap alt; cases alt <;> kernel_rfl
theorem nots2_01 : NotsOk ([false, true]) := by intro cap alt; cases alt <;> kernel_rfl
theorem nots3_001 : NotsOk ([false, false, true]) := by intro cap alt; cases alt <;> kernel_rfl
theorem nots3_101 : NotsOk ([true, false, true]) := by intro cap alt; cases alt <;> kernel_rfl
theorem nots4_0001 : NotsOk ([false, false, false, true]) := by intro cap alt; cases alt <;> kernel_rfl
theorem nots4_0101 : NotsOk ([false, true, false, true]) := by intro cap alt; cases alt <;> kernel_rfl
theorem nots4_1001 : NotsOk ([true, false, false, true]) := by intro cap alt; cases alt <;> kernel_rfl
theorem nots4_1101 : NotsOk ([true, true, false, true]) := by intro cap alt; cases alt <;> kernel_rfl
theorem nots5_00001 : NotsOk ([false, false, false, false, true]) := by intro cap alt; cases alt <;> kernel_rfl
theorem nots5_00101 : NotsOk ([false, false, true, false, true]) := by intro cap alt; cases alt <;> kernel_rfl
theorem nots5_01001 : NotsOk ([false, true, false, false, true]) := by intro cap alt; cases alt <;> kernel_rfl
theorem nots5_01101 : NotsOk ([false, true, true, false, true]) := by intro cap alt; cases alt <;> kernel_rfl
theorem nots5_10001 : NotsOk ([true, false, false, false, true]) := by intro cap alt; cases alt <;> kernel_rfl
theorem nots5_10101 : NotsOk ([true, false, true, false, true]) := by intro cap alt; cases alt <;> kernel_rfl
theorem nots5_11001 : NotsOk ([true, true, false, false, true]) := by intro cap alt; cases alt <;> kernel_rfl
theorem nots5_11101 : NotsOk ([true, true, true, false, true]) := by intro cap alt; cases alt <;> kernel_rfl
theorem nots6_000001 : NotsOk ([false, false, false, false, false, true]) := by intro cap alt; cases alt <;> kernel_rfl
theorem nots6_000101 : NotsOk ([false, false, false, true, false, true]) := by intro cap alt; cases alt <;> kernel_rfl
theorem nots6_001001 : NotsOk ([false, false, true, false, false, true]) := by intro cap alt; cases alt <;> kernel_rfl
theorem nots6_001101 : NotsOk ([false, false, true, true, false, true]) := by intro cap alt; cases alt <;> kernel_rfl
theorem nots6_010001 : NotsOk ([false, true, false, false, false, true]) := by intro cap alt; cases alt <;> kernel_rfl
theorem nots6_010101 : NotsOk ([false, true, false, true, false, true]) := by intro cap alt; cases alt <;> kernel_rfl
theorem nots6_011001 : NotsOk ([false, true, true, false, false, true]) := by intro cap alt; cases alt <;> kernel_rfl
theorem nots6_011101 : NotsOk ([false, true, true, true, false, true]) := by intro cap alt; cases alt <;> kernel_rfl
theorem nots6_100001 : NotsOk ([true, false, false, false, false, true]) := by intro cap alt; cases alt <;> kernel_rfl
theorem nots6_100101 : NotsOk ([true, false, false, true, false, true]) := by intro cap alt; cases alt <;> kernel_rfl
theorem nots6_101001 : NotsOk ([true, false, true, false, false, true]) := by intro cap alt; cases alt <;> kernel_rfl
theorem nots6_101101 : NotsOk ([true, false, true, true, false, true]) := by intro cap alt; cases alt <;> kernel_rfl
theorem nots6_110001 : NotsOk ([true, true, false, false, false, true]) := by intro cap alt; cases alt <;> kernel_rfl
theorem nots6_110101 : NotsOk ([true, true, false, true, false, true]) := by intro cap alt; cases alt <;> kernel_rfl
theorem nots6_111001 : NotsOk ([true, true, true, false, false, true]) := by intro cap alt; cases alt <;> kernel_rfl
theorem nots6_111101 : NotsOk ([true, true, true, true, false, true]) := by intro cap alt; cases alt <;> kernel_rfl
theorem nots7_0000001 (r : List Bool) : NotsOk (false :: false :: false :: false :: false :: false :: true :: r) := by intro cap alt; cases alt <;> kernel_rfl
theorem nots7_0000101 (r : List Bool) : NotsOk (false :: false :: false :: false :: true :: false :: true :: r) := by intro cap alt; cases alt <;> kernel_rfl
theorem nots7_0001001 (r : List Bool) : NotsOk (false :: false :: false :: true :: false :: false :: true :: r) := by intro cap alt; cases alt <;> kernel_rfl
theorem nots7_0001101 (r : List Bool) : NotsOk (false :: false :: false :: true :: true :: false :: true :: r) := by intro cap alt; cases alt <;> kernel_rfl
theorem nots7_0010001 (r : List Bool) : NotsOk (false :: false :: true :: false :: false :: false :: true :: r) := by intro cap alt; cases alt <;> kernel_rfl
theorem nots7_0010101 (r : List Bool) : NotsOk (false :: false :: true :: false :: true :: false :: true :: r) := by intro cap alt; cases alt <;> kernel_rfl
theorem nots7_0011001 (r : List Bool) : NotsOk (false :: false :: true :: true :: false :: false :: true :: r) := by intro cap alt; cases alt <;> kernel_rfl
theorem nots7_0011101 (r : List Bool) : NotsOk (false :: false :: true :: true :: true :: false :: true :: r) := by intro cap alt; cases alt <;> kernel_rfl
theorem nots7_0100001 (r : List Bool) : NotsOk (false :: true :: false :: false :: false :: false :: true :: r) := by intro cap alt; cases alt <;> kernel_rfl
theorem nots7_0100101 (r : List Bool) : NotsOk (false :: true :: false :: false :: true :: false :: true :: r) := by intro cap alt; cases alt <;> kernel_rfl
theorem nots7_0101001 (r : List Bool) : NotsOk (false :: true :: false :: true :: false :: false :: true :: r) := by intro cap alt; cases alt <;> kernel_rfl
theorem nots7_0101101 (r : List Bool) : NotsOk (false :: true :: false :: true :: true :: false :: true :: r) := by intro cap alt; cases alt <;> kernel_rfl
theorem nots7_0110001 (r : List Bool) : NotsOk (false :: true :: true :: false :: false :: false :: true :: r) := by intro cap alt; cases alt <;> kernel_rfl
theorem nots7_0110101 (r : List Bool) : NotsOk (false :: true :: true :: false :: true :: false :: true :: r) := by intro cap alt; cases alt <;> kernel_rfl
theorem nots7_0111001 (r : List Bool) : NotsOk (false :: true :: true :: true :: false :: false :: true :: r) := by intro cap alt; cases alt <;> kernel_rfl
theorem nots7_0111101 (r : List Bool) : NotsOk (false :: true :: true :: true :: true :: false :: true :: r) := by intro cap alt; cases alt <;> kernel_rfl
theorem nots7_1000001 (r : List Bool) : NotsOk (true :: false :: false :: false :: false :: false :: true :: r) := by intro cap alt; cases alt <;> kernel_rfl
theorem nots7_1000101 (r : List Bool) : NotsOk (true :: false :: false :: false :: true :: false :: true :: r) := by intro cap alt; cases alt <;> kernel_rfl
theorem nots7_1001001 (r : List Bool) : NotsOk (true :: false :: false :: true :: false :: false :: true :: r) := by intro cap alt; cases alt <;> kernel_rfl
theorem nots7_1001101 (r : List Bool) : NotsOk (true :: false :: false :: true :: true :: false :: true :: r) := by intro cap alt; cases alt <;> kernel_rfl
theorem nots7_1010001 (r : List Bool) : NotsOk (true :: false :: true :: false :: false :: false :: true :: r) := by intro cap alt; cases alt <;> kernel_rfl
theorem nots7_1010101 (r : List Bool) : NotsOk (true :: false :: true :: false :: true :: false :: true :: r) := by intro cap alt; cases alt <;> kernel_rfl
theorem nots7_1011001 (r : List Bool) : NotsOk (true :: false :: true :: true :: false :: false :: true :: r) := by intro cap alt; cases alt <;> kernel_rfl
theorem nots7_1011101 (r : List Bool) : NotsOk (true :: false :: true :: true :: true :: false :: true :: r) := by intro cap alt; cases alt <;> kernel_rfl
theorem nots7_1100001 (r : List Bool) : NotsOk (true :: true :: false :: false :: false :: false :: true :: r) := by intro cap alt; cases alt <;> kernel_rfl
theorem nots7_1100101 (r : List Bool) : NotsOk (true :: true :: false :: false :: true :: false :: true :: r) := by intro cap alt; cases alt <;> kernel_rfl
theorem nots7_1101001 (r : List Bool) : NotsOk (true :: true :: false :: true :: false :: false :: true :: r) := by intro cap alt; cases alt <;> kernel_rfl
theorem nots7_1101101 (r : List Bool) : NotsOk (true :: true :: false :: true :: true :: false :: true :: r) := by intro cap alt; cases alt <;> kernel_rfl
theorem nots7_1110001 (r : List Bool) : NotsOk (true :: true :: true :: false :: false :: false :: true :: r) := by intro cap alt; cases alt <;> kernel_rfl
theorem nots7_1110101 (r : List Bool) : NotsOk (true :: true :: true :: false :: true :: false :: true :: r) := by intro cap alt; cases alt <;> kernel_rfl
theorem nots7_1111001 (r : List Bool) : NotsOk (true :: true :: true :: true :: false :: false :: true :: r) := by intro cap alt; cases alt <;> kernel_rfl
theorem nots7_1111101 (r : List Bool) : NotsOk (true :: true :: true :: true :: true :: false :: true :: r) := by intro cap alt; cases alt <;> kernel_rfl
end Go.Proofs.YtjdbcfnlehedmaaGreatDoor.Av
