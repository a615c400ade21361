/-
  Runs of the second script. Conditions: none.
-/
import Derived.Test.YtnpimhboonddjaaGreatDoorC7
namespace Go.AM
open Go
set_option maxHeartbeats 0
set_option maxRecDepth 1000000
theorem rtb_8_0 : gT (hiB 1 255) (loB 1 255) 8 (some false) (some false) (some false) none oT = true := by kernel_rfl
theorem rtz_7_0 : gT dg0 dg0 7 (some false) (some false) none none oT = true := by kernel_rfl
theorem rtb_8_3 : gT (hiB 1 255) (loB 1 255) 8 none none (some true) none oT = true := by kernel_rfl
theorem rtz_7_1 : gT dg0 dg0 7 (some true) (some false) none none oT = true := by kernel_rfl
theorem rtz_9_4 : gT dg0 dg0 9 none none none (some true) oT = true := by kernel_rfl
end Go.AM
