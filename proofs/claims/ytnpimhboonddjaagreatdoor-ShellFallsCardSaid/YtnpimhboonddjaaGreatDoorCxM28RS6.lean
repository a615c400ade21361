/-
  Runs of the first script. Conditions: none.
-/
import Derived.Test.YtnpimhboonddjaaGreatDoorC7
namespace Go.AM
open Go
set_option maxHeartbeats 0
set_option maxRecDepth 1000000
theorem rv6 : gS dg0 dg0 dg0 dg0 oS0 ksV6 = true := by kernel_rfl
end Go.AM
