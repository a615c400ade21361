/-
  A piece of the run of ImageAgain. Conditions: none.
-/
import Derived.Test.YtafgmkboaippbaaGreatM17AS
namespace Go.AM
open Go
set_option maxHeartbeats 0
set_option maxRecDepth 1000000
theorem aqF0 (κ : List T → Fr → R) : enterK iaT2 3 [.xi 0 14 0 1, .b false] false [] h0 0 (fun s => runM iaT2 1000000 69 s fun s => isoF piF laN 13 sF70n sF70h s κ) = κ TD (.mk 3 [] false none) := by kernel_rfl
end Go.AM
namespace Go.AM
open Go
set_option maxHeartbeats 0
set_option maxRecDepth 1000000
theorem aqF1 (κ : List T → Fr → R) : runM iaT2 1000000 69 sF70 (fun s => isoF piF laN 13 sF140n sF140h s κ) = κ TD (.mk 3 [] false none) := by kernel_rfl
end Go.AM
