/-
  A piece of the run of ImageAgain. Conditions: none.
-/
import Derived.Test.YtafgmkboaippbaaGreatM17AS
namespace Go.AM
open Go
set_option maxHeartbeats 0
set_option maxRecDepth 1000000
theorem apT0 (κ : List T → Fr → R) : enterK iaT2 3 [.xi 0 14 0 1, .b true] false [] h0 0 (fun s => runM iaT2 1000000 9 s fun s => isoF piT laN 15 sT10n sT10h s κ) = κ TD (.mk 3 [] false none) := by kernel_rfl
end Go.AM
namespace Go.AM
open Go
set_option maxHeartbeats 0
set_option maxRecDepth 1000000
theorem apT1 (κ : List T → Fr → R) : runM iaT2 1000000 8 sT10 (fun s => isoF piT laN 15 sT19n sT19h s κ) = κ TD (.mk 3 [] false none) := by kernel_rfl
end Go.AM
namespace Go.AM
open Go
set_option maxHeartbeats 0
set_option maxRecDepth 1000000
theorem apT2 (κ : List T → Fr → R) : runM iaT2 1000000 8 sT19 (fun s => isoF piT laN 15 sT28n sT28h s κ) = κ TD (.mk 3 [] false none) := by kernel_rfl
end Go.AM
