/-
  Runs of the second script. Conditions: none.
-/
import Derived.Test.YtnpimhboonddjaaGreatDoorC7
namespace Go.AM
open Go
set_option maxHeartbeats 0
set_option maxRecDepth 1000000
theorem rtb_3_0 : gT (hiB 1 255) (loB 1 255) 3 none none none none oT = true := by kernel_rfl
theorem rtz_2_0 : gT dg0 dg0 2 none none none none oT = true := by kernel_rfl
theorem rtb_6_1 : gT (hiB 1 255) (loB 1 255) 6 (some true) none none none oT = true := by kernel_rfl
theorem rtb_9_1 : gT (hiB 1 255) (loB 1 255) 9 (some true) (some false) (some false) (some false) oT = true := by kernel_rfl
theorem rtz_8_2 : gT dg0 dg0 8 none (some true) (some false) none oT = true := by kernel_rfl
end Go.AM
