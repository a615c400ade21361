/-
  Runs of the law. Conditions: none.
-/
import Derived.Test.YtnpimhboonddjaaGreatDoorC7
namespace Go.AM
open Go
set_option maxHeartbeats 0
set_option maxRecDepth 1000000
theorem lv1_100_7 : lwG (.l 4 (laB 100 156)) (.l 4 (laD 100 156 7)) (sS (hiB 100 156) (loB 100 156) (hiC 100 156 7) (loC 100 156 7) (oS (hiB 100 156) (loB 100 156))) (sTs (hiB 100 156) (loB 100 156) oT1) = true := by kernel_rfl
theorem lv1_100_8 : lwG (.l 4 (laB 100 156)) (.l 4 (laD 100 156 8)) (sS (hiB 100 156) (loB 100 156) (hiC 100 156 8) (loC 100 156 8) (oS (hiB 100 156) (loB 100 156))) (sTs (hiB 100 156) (loB 100 156) oT1) = true := by kernel_rfl
theorem lv1_100_9 : lwG (.l 4 (laB 100 156)) (.l 4 (laD 100 156 9)) (sS (hiB 100 156) (loB 100 156) (hiC 100 156 9) (loC 100 156 9) (oS (hiB 100 156) (loB 100 156))) (sTs (hiB 100 156) (loB 100 156) oT1) = true := by kernel_rfl
theorem lv3_100 : lwG (.l 4 (laB 100 156)) (.i 4 (.ofNat 0)) (sS (hiB 100 156) (loB 100 156) dg0 dg0 (oS (hiB 100 156) (loB 100 156))) (sTs (hiB 100 156) (loB 100 156) oT1) = true := by kernel_rfl
theorem lv4_100 : lwG (.l 4 (laB 100 156)) (.l 4 (laB 100 156)) (sS (hiB 100 156) (loB 100 156) (hiB 100 156) (loB 100 156) (oS (hiB 100 156) (loB 100 156))) (sTs (hiB 100 156) (loB 100 156) oT1) = true := by kernel_rfl
theorem lv5 : lwG (.i 4 (.ofNat 0)) (.l 4 (laD 0 1 0)) (sS dg0 dg0 (hiC 0 1 0) (loC 0 1 0) oS0) (sTs dg0 dg0 oT) = true := by kernel_rfl
theorem lv6 : lwG (.i 4 (.ofNat 0)) (.i 4 (.ofNat 0)) (sS dg0 dg0 dg0 dg0 oS0) (sTs dg0 dg0 oT) = true := by kernel_rfl
end Go.AM
