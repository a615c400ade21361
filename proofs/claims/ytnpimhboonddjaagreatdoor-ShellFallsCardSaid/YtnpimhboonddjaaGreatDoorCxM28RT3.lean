/-
  Runs of the second script. Conditions: none.
-/
import Derived.Test.YtnpimhboonddjaaGreatDoorC7
namespace Go.AM
open Go
set_option maxHeartbeats 0
set_option maxRecDepth 1000000
theorem rtb_4_0 : gT (hiB 1 255) (loB 1 255) 4 none none none none oT = true := by kernel_rfl
theorem rtz_3_0 : gT dg0 dg0 3 none none none none oT = true := by kernel_rfl
theorem rtb_7_1 : gT (hiB 1 255) (loB 1 255) 7 (some true) (some false) none none oT = true := by kernel_rfl
theorem rtb_9_2 : gT (hiB 1 255) (loB 1 255) 9 none (some true) (some false) (some false) oT = true := by kernel_rfl
theorem rtz_8_3 : gT dg0 dg0 8 none none (some true) none oT = true := by kernel_rfl
end Go.AM
