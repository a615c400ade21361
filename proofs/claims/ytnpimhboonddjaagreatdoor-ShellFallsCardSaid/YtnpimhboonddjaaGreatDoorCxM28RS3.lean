/-
  Runs of the first script. Conditions: none.
-/
import Derived.Test.YtnpimhboonddjaaGreatDoorC7
namespace Go.AM
open Go
set_option maxHeartbeats 0
set_option maxRecDepth 1000000
theorem rv1_100_1 : gS (hiB 100 156) (loB 100 156) (hiC 100 156 1) (loC 100 156 1) (oS (hiB 100 156) (loB 100 156)) ksV1 = true := by kernel_rfl
theorem rv1_100_2 : gS (hiB 100 156) (loB 100 156) (hiC 100 156 2) (loC 100 156 2) (oS (hiB 100 156) (loB 100 156)) ksV1 = true := by kernel_rfl
theorem rv1_100_3 : gS (hiB 100 156) (loB 100 156) (hiC 100 156 3) (loC 100 156 3) (oS (hiB 100 156) (loB 100 156)) ksV1 = true := by kernel_rfl
theorem rv1_100_4 : gS (hiB 100 156) (loB 100 156) (hiC 100 156 4) (loC 100 156 4) (oS (hiB 100 156) (loB 100 156)) ksV1 = true := by kernel_rfl
end Go.AM
