/-
  Runs of the first script. Conditions: none.
-/
import Derived.Test.YtnpimhboonddjaaGreatDoorC7
namespace Go.AM
open Go
set_option maxHeartbeats 0
set_option maxRecDepth 1000000
theorem rv1_100_9 : gS (hiB 100 156) (loB 100 156) (hiC 100 156 9) (loC 100 156 9) (oS (hiB 100 156) (loB 100 156)) ksV1 = true := by kernel_rfl
theorem rv3_100 : gS (hiB 100 156) (loB 100 156) dg0 dg0 (oS (hiB 100 156) (loB 100 156)) ksV3 = true := by kernel_rfl
theorem rv4_100 : gS (hiB 100 156) (loB 100 156) (hiB 100 156) (loB 100 156) (oS (hiB 100 156) (loB 100 156)) ksV4 = true := by kernel_rfl
theorem rv5 : gS dg0 dg0 (hiC 0 1 0) (loC 0 1 0) oS0 ksV5 = true := by kernel_rfl
end Go.AM
