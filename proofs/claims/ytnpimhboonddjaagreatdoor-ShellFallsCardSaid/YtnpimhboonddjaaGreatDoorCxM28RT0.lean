/-
  Runs of the second script. Conditions: none.
-/
import Derived.Test.YtnpimhboonddjaaGreatDoorC7
namespace Go.AM
open Go
set_option maxHeartbeats 0
set_option maxRecDepth 1000000
theorem rtb_1_0 : gT (hiB 1 255) (loB 1 255) 1 none none none none oT1 = true := by kernel_rfl
theorem rtb_9_0 : gT (hiB 1 255) (loB 1 255) 9 (some false) (some false) (some false) (some false) oT = true := by kernel_rfl
theorem rtz_8_0 : gT dg0 dg0 8 (some false) (some false) (some false) none oT = true := by kernel_rfl
theorem rtz_7_2 : gT dg0 dg0 7 none (some true) none none oT = true := by kernel_rfl
end Go.AM
