/-
  Runs of the first script. Conditions: none.
-/
import Derived.Test.YtnpimhboonddjaaGreatDoorC7
namespace Go.AM
open Go
set_option maxHeartbeats 0
set_option maxRecDepth 1000000
theorem rv1_100_5 : gS (hiB 100 156) (loB 100 156) (hiC 100 156 5) (loC 100 156 5) (oS (hiB 100 156) (loB 100 156)) ksV1 = true := by kernel_rfl
theorem rv1_100_6 : gS (hiB 100 156) (loB 100 156) (hiC 100 156 6) (loC 100 156 6) (oS (hiB 100 156) (loB 100 156)) ksV1 = true := by kernel_rfl
theorem rv1_100_7 : gS (hiB 100 156) (loB 100 156) (hiC 100 156 7) (loC 100 156 7) (oS (hiB 100 156) (loB 100 156)) ksV1 = true := by kernel_rfl
theorem rv1_100_8 : gS (hiB 100 156) (loB 100 156) (hiC 100 156 8) (loC 100 156 8) (oS (hiB 100 156) (loB 100 156)) ksV1 = true := by kernel_rfl
end Go.AM
