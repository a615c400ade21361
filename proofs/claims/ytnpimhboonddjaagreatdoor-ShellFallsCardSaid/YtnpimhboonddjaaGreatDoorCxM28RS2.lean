/-
  Runs of the first script. Conditions: none.
-/
import Derived.Test.YtnpimhboonddjaaGreatDoorC7
namespace Go.AM
open Go
set_option maxHeartbeats 0
set_option maxRecDepth 1000000
theorem rv1_16_5 : gS (hiB 16 84) (loB 16 84) (hiC 16 84 5) (loC 16 84 5) (oS (hiB 16 84) (loB 16 84)) ksV1 = true := by kernel_rfl
theorem rv3_16 : gS (hiB 16 84) (loB 16 84) dg0 dg0 (oS (hiB 16 84) (loB 16 84)) ksV3 = true := by kernel_rfl
theorem rv4_16 : gS (hiB 16 84) (loB 16 84) (hiB 16 84) (loB 16 84) (oS (hiB 16 84) (loB 16 84)) ksV4 = true := by kernel_rfl
theorem rv1_100_0 : gS (hiB 100 156) (loB 100 156) (hiC 100 156 0) (loC 100 156 0) (oS (hiB 100 156) (loB 100 156)) ksV1 = true := by kernel_rfl
end Go.AM
