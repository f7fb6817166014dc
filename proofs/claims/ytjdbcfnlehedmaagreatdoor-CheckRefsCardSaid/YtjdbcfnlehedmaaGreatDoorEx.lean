/-
  THE CHAPTER's EXAMPLES COME OUT TRUE: evaluated by the kernel.
-/
import Derived.Test.YtjdbcfnlehedmaaGreatDoorSign
namespace Go.Proofs.YtjdbcfnlehedmaaGreatDoor.Av
set_option maxRecDepth 1000000
theorem examples_true : evF tableA 1000 6 [] st0 = some (.ret (.bool true), st0) := by kernel_rfl
end Go.Proofs.YtjdbcfnlehedmaaGreatDoor.Av
