/-
  Runs of the second script. Conditions: none.
-/
import Derived.Test.YtnpimhboonddjaaGreatDoorC7
namespace Go.AM
open Go
set_option maxHeartbeats 0
set_option maxRecDepth 1000000
theorem rtb_7_0 : gT (hiB 1 255) (loB 1 255) 7 (some false) (some false) none none oT = true := by kernel_rfl
theorem rtz_6_0 : gT dg0 dg0 6 (some false) none none none oT = true := by kernel_rfl
theorem rtb_8_2 : gT (hiB 1 255) (loB 1 255) 8 none (some true) (some false) none oT = true := by kernel_rfl
theorem rtz_6_1 : gT dg0 dg0 6 (some true) none none none oT = true := by kernel_rfl
theorem rtz_9_3 : gT dg0 dg0 9 none none (some true) (some false) oT = true := by kernel_rfl
end Go.AM
