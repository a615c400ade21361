/-
  Runs of the second script. Conditions: none.
-/
import Derived.Test.YtnpimhboonddjaaGreatDoorC7
namespace Go.AM
open Go
set_option maxHeartbeats 0
set_option maxRecDepth 1000000
theorem rtb_2_0 : gT (hiB 1 255) (loB 1 255) 2 none none none none oT = true := by kernel_rfl
theorem rtz_1_0 : gT dg0 dg0 1 none none none none oT = true := by kernel_rfl
theorem rtz_9_0 : gT dg0 dg0 9 (some false) (some false) (some false) (some false) oT = true := by kernel_rfl
theorem rtz_8_1 : gT dg0 dg0 8 (some true) (some false) (some false) none oT = true := by kernel_rfl
end Go.AM
