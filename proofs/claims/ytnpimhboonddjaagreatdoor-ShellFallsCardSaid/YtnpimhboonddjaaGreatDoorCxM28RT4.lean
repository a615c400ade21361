/-
  Runs of the second script. Conditions: none.
-/
import Derived.Test.YtnpimhboonddjaaGreatDoorC7
namespace Go.AM
open Go
set_option maxHeartbeats 0
set_option maxRecDepth 1000000
theorem rtb_5_0 : gT (hiB 1 255) (loB 1 255) 5 none none none none oT = true := by kernel_rfl
theorem rtz_4_0 : gT dg0 dg0 4 none none none none oT = true := by kernel_rfl
theorem rtb_7_2 : gT (hiB 1 255) (loB 1 255) 7 none (some true) none none oT = true := by kernel_rfl
theorem rtb_9_3 : gT (hiB 1 255) (loB 1 255) 9 none none (some true) (some false) oT = true := by kernel_rfl
theorem rtz_9_1 : gT dg0 dg0 9 (some true) (some false) (some false) (some false) oT = true := by kernel_rfl
end Go.AM
