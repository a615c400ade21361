/-
  Runs of the first script. Conditions: none.
-/
import Derived.Test.YtnpimhboonddjaaGreatDoorC7
namespace Go.AM
open Go
set_option maxHeartbeats 0
set_option maxRecDepth 1000000
theorem rv1_16_1 : gS (hiB 16 84) (loB 16 84) (hiC 16 84 1) (loC 16 84 1) (oS (hiB 16 84) (loB 16 84)) ksV1 = true := by kernel_rfl
theorem rv1_16_2 : gS (hiB 16 84) (loB 16 84) (hiC 16 84 2) (loC 16 84 2) (oS (hiB 16 84) (loB 16 84)) ksV1 = true := by kernel_rfl
theorem rv1_16_3 : gS (hiB 16 84) (loB 16 84) (hiC 16 84 3) (loC 16 84 3) (oS (hiB 16 84) (loB 16 84)) ksV1 = true := by kernel_rfl
theorem rv1_16_4 : gS (hiB 16 84) (loB 16 84) (hiC 16 84 4) (loC 16 84 4) (oS (hiB 16 84) (loB 16 84)) ksV1 = true := by kernel_rfl
end Go.AM
