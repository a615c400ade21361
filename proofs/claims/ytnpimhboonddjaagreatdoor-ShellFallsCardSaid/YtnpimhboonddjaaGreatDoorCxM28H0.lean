/-
  Runs of the law. Conditions: none.
-/
import Derived.Test.YtnpimhboonddjaaGreatDoorC7
namespace Go.AM
open Go
set_option maxHeartbeats 0
set_option maxRecDepth 1000000
theorem lv1_1_0 : lwG (.l 4 (laB 1 15)) (.l 4 (laD 1 15 0)) (sS (hiB 1 15) (loB 1 15) (hiC 1 15 0) (loC 1 15 0) (oS dg0 (loB 1 15))) (sTs (hiB 1 15) (loB 1 15) oT1) = true := by kernel_rfl
theorem lv3_1 : lwG (.l 4 (laB 1 15)) (.i 4 (.ofNat 0)) (sS (hiB 1 15) (loB 1 15) dg0 dg0 (oS dg0 (loB 1 15))) (sTs (hiB 1 15) (loB 1 15) oT1) = true := by kernel_rfl
theorem lv4_1 : lwG (.l 4 (laB 1 15)) (.l 4 (laB 1 15)) (sS (hiB 1 15) (loB 1 15) (hiB 1 15) (loB 1 15) (oS dg0 (loB 1 15))) (sTs (hiB 1 15) (loB 1 15) oT1) = true := by kernel_rfl
theorem lv1_16_0 : lwG (.l 4 (laB 16 84)) (.l 4 (laD 16 84 0)) (sS (hiB 16 84) (loB 16 84) (hiC 16 84 0) (loC 16 84 0) (oS (hiB 16 84) (loB 16 84))) (sTs (hiB 16 84) (loB 16 84) oT1) = true := by kernel_rfl
theorem lv1_16_1 : lwG (.l 4 (laB 16 84)) (.l 4 (laD 16 84 1)) (sS (hiB 16 84) (loB 16 84) (hiC 16 84 1) (loC 16 84 1) (oS (hiB 16 84) (loB 16 84))) (sTs (hiB 16 84) (loB 16 84) oT1) = true := by kernel_rfl
theorem lv1_16_2 : lwG (.l 4 (laB 16 84)) (.l 4 (laD 16 84 2)) (sS (hiB 16 84) (loB 16 84) (hiC 16 84 2) (loC 16 84 2) (oS (hiB 16 84) (loB 16 84))) (sTs (hiB 16 84) (loB 16 84) oT1) = true := by kernel_rfl
theorem lv1_16_3 : lwG (.l 4 (laB 16 84)) (.l 4 (laD 16 84 3)) (sS (hiB 16 84) (loB 16 84) (hiC 16 84 3) (loC 16 84 3) (oS (hiB 16 84) (loB 16 84))) (sTs (hiB 16 84) (loB 16 84) oT1) = true := by kernel_rfl
theorem lv1_16_4 : lwG (.l 4 (laB 16 84)) (.l 4 (laD 16 84 4)) (sS (hiB 16 84) (loB 16 84) (hiC 16 84 4) (loC 16 84 4) (oS (hiB 16 84) (loB 16 84))) (sTs (hiB 16 84) (loB 16 84) oT1) = true := by kernel_rfl
theorem lv1_16_5 : lwG (.l 4 (laB 16 84)) (.l 4 (laD 16 84 5)) (sS (hiB 16 84) (loB 16 84) (hiC 16 84 5) (loC 16 84 5) (oS (hiB 16 84) (loB 16 84))) (sTs (hiB 16 84) (loB 16 84) oT1) = true := by kernel_rfl
end Go.AM
