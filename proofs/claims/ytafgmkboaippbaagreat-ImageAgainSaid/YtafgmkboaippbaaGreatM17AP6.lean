/-
  A piece of the run of ImageAgain. Conditions: none.
-/
import Derived.Test.YtafgmkboaippbaaGreatM17AS
namespace Go.AM
open Go
set_option maxHeartbeats 0
set_option maxRecDepth 1000000
theorem apT6 (κ : List T → Fr → R) : runM iaT2 1000000 8 sT55 (fun s => isoF piT laI 15 sL64n sL64h s κ) = κ TD (.mk 3 [] false none) := by kernel_rfl
end Go.AM
namespace Go.AM
open Go
set_option maxHeartbeats 0
set_option maxRecDepth 1000000
theorem apL0 (κ : List T → Fr → R) : runM iaT2 1000000 9 sL64 (fun s => isoF piT laS 15 sL74n sL74h s κ) = κ TD (.mk 3 [] false none) := by kernel_rfl
end Go.AM
namespace Go.AM
open Go
set_option maxHeartbeats 0
set_option maxRecDepth 1000000
theorem apL1 (κ : List T → Fr → R) : runM iaT2 1000000 9 sL74 (fun s => isoF piT laD 15 sL64n sL64h s κ) = κ TD (.mk 3 [] false none) := by kernel_rfl
end Go.AM
namespace Go.AM
open Go
set_option maxHeartbeats 0
set_option maxRecDepth 1000000
theorem apX0 (κ : List T → Fr → R) : isoF piT laE 15 sXn sXh sL64 κ = κ TD (.mk 3 [] false none) := by kernel_rfl
theorem apX1 : runM iaT2 1000000 1000000 sX (fun _ => false) = true := by kernel_rfl
end Go.AM
