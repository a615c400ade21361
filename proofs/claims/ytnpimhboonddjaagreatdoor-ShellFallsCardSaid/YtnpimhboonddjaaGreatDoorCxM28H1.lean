/-
  Runs of the law. Conditions: none.
-/
import Derived.Test.YtnpimhboonddjaaGreatDoorC7
namespace Go.AM
open Go
set_option maxHeartbeats 0
set_option maxRecDepth 1000000
theorem lv3_16 : lwG (.l 4 (laB 16 84)) (.i 4 (.ofNat 0)) (sS (hiB 16 84) (loB 16 84) dg0 dg0 (oS (hiB 16 84) (loB 16 84))) (sTs (hiB 16 84) (loB 16 84) oT1) = true := by kernel_rfl
theorem lv4_16 : lwG (.l 4 (laB 16 84)) (.l 4 (laB 16 84)) (sS (hiB 16 84) (loB 16 84) (hiB 16 84) (loB 16 84) (oS (hiB 16 84) (loB 16 84))) (sTs (hiB 16 84) (loB 16 84) oT1) = true := by kernel_rfl
theorem lv1_100_0 : lwG (.l 4 (laB 100 156)) (.l 4 (laD 100 156 0)) (sS (hiB 100 156) (loB 100 156) (hiC 100 156 0) (loC 100 156 0) (oS (hiB 100 156) (loB 100 156))) (sTs (hiB 100 156) (loB 100 156) oT1) = true := by kernel_rfl
theorem lv1_100_1 : lwG (.l 4 (laB 100 156)) (.l 4 (laD 100 156 1)) (sS (hiB 100 156) (loB 100 156) (hiC 100 156 1) (loC 100 156 1) (oS (hiB 100 156) (loB 100 156))) (sTs (hiB 100 156) (loB 100 156) oT1) = true := by kernel_rfl
theorem lv1_100_2 : lwG (.l 4 (laB 100 156)) (.l 4 (laD 100 156 2)) (sS (hiB 100 156) (loB 100 156) (hiC 100 156 2) (loC 100 156 2) (oS (hiB 100 156) (loB 100 156))) (sTs (hiB 100 156) (loB 100 156) oT1) = true := by kernel_rfl
theorem lv1_100_3 : lwG (.l 4 (laB 100 156)) (.l 4 (laD 100 156 3)) (sS (hiB 100 156) (loB 100 156) (hiC 100 156 3) (loC 100 156 3) (oS (hiB 100 156) (loB 100 156))) (sTs (hiB 100 156) (loB 100 156) oT1) = true := by kernel_rfl
theorem lv1_100_4 : lwG (.l 4 (laB 100 156)) (.l 4 (laD 100 156 4)) (sS (hiB 100 156) (loB 100 156) (hiC 100 156 4) (loC 100 156 4) (oS (hiB 100 156) (loB 100 156))) (sTs (hiB 100 156) (loB 100 156) oT1) = true := by kernel_rfl
theorem lv1_100_5 : lwG (.l 4 (laB 100 156)) (.l 4 (laD 100 156 5)) (sS (hiB 100 156) (loB 100 156) (hiC 100 156 5) (loC 100 156 5) (oS (hiB 100 156) (loB 100 156))) (sTs (hiB 100 156) (loB 100 156) oT1) = true := by kernel_rfl
theorem lv1_100_6 : lwG (.l 4 (laB 100 156)) (.l 4 (laD 100 156 6)) (sS (hiB 100 156) (loB 100 156) (hiC 100 156 6) (loC 100 156 6) (oS (hiB 100 156) (loB 100 156))) (sTs (hiB 100 156) (loB 100 156) oT1) = true := by kernel_rfl
end Go.AM
