/-
  A piece of the run of ImageAgain. Conditions: none.
-/
import Derived.Test.YtafgmkboaippbaaGreatM17AS
namespace Go.AM
open Go
set_option maxHeartbeats 0
set_option maxRecDepth 1000000
theorem apT3 (κ : List T → Fr → R) : runM iaT2 1000000 8 sT28 (fun s => isoF piT laN 15 sT37n sT37h s κ) = κ TD (.mk 3 [] false none) := by kernel_rfl
end Go.AM
namespace Go.AM
open Go
set_option maxHeartbeats 0
set_option maxRecDepth 1000000
theorem apT4 (κ : List T → Fr → R) : runM iaT2 1000000 8 sT37 (fun s => isoF piT laN 15 sT46n sT46h s κ) = κ TD (.mk 3 [] false none) := by kernel_rfl
end Go.AM
namespace Go.AM
open Go
set_option maxHeartbeats 0
set_option maxRecDepth 1000000
theorem apT5 (κ : List T → Fr → R) : runM iaT2 1000000 8 sT46 (fun s => isoF piT laN 15 sT55n sT55h s κ) = κ TD (.mk 3 [] false none) := by kernel_rfl
end Go.AM
