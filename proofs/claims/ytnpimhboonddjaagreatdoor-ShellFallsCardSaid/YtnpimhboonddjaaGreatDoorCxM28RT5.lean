/-
  Runs of the second script. Conditions: none.
-/
import Derived.Test.YtnpimhboonddjaaGreatDoorC7
namespace Go.AM
open Go
set_option maxHeartbeats 0
set_option maxRecDepth 1000000
theorem rtb_6_0 : gT (hiB 1 255) (loB 1 255) 6 (some false) none none none oT = true := by kernel_rfl
theorem rtz_5_0 : gT dg0 dg0 5 none none none none oT = true := by kernel_rfl
theorem rtb_8_1 : gT (hiB 1 255) (loB 1 255) 8 (some true) (some false) (some false) none oT = true := by kernel_rfl
theorem rtb_9_4 : gT (hiB 1 255) (loB 1 255) 9 none none none (some true) oT = true := by kernel_rfl
theorem rtz_9_2 : gT dg0 dg0 9 none (some true) (some false) (some false) oT = true := by kernel_rfl
end Go.AM
