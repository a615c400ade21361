/-
  Runs of the first script. Conditions: none.
-/
import Derived.Test.YtnpimhboonddjaaGreatDoorC7
namespace Go.AM
open Go
set_option maxHeartbeats 0
set_option maxRecDepth 1000000
theorem rv1_1_0 : gS (hiB 1 15) (loB 1 15) (hiC 1 15 0) (loC 1 15 0) (oS dg0 (loB 1 15)) ksV1 = true := by kernel_rfl
theorem rv3_1 : gS (hiB 1 15) (loB 1 15) dg0 dg0 (oS dg0 (loB 1 15)) ksV3 = true := by kernel_rfl
theorem rv4_1 : gS (hiB 1 15) (loB 1 15) (hiB 1 15) (loB 1 15) (oS dg0 (loB 1 15)) ksV4 = true := by kernel_rfl
theorem rv1_16_0 : gS (hiB 16 84) (loB 16 84) (hiC 16 84 0) (loC 16 84 0) (oS (hiB 16 84) (loB 16 84)) ksV1 = true := by kernel_rfl
end Go.AM
