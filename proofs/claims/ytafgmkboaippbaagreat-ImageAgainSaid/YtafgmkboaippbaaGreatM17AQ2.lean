/-
  A piece of the run of ImageAgain. Conditions: none.
-/
import Derived.Test.YtafgmkboaippbaaGreatM17AS
namespace Go.AM
open Go
set_option maxHeartbeats 0
set_option maxRecDepth 1000000
theorem aqF2 (κ : List T → Fr → R) : runM iaT2 1000000 69 sF140 (fun s => isoF piF laN 13 sF210n sF210h s κ) = κ TD (.mk 3 [] false none) := by kernel_rfl
end Go.AM
namespace Go.AM
open Go
set_option maxHeartbeats 0
set_option maxRecDepth 1000000
theorem aqF3 : runM iaT2 1000000 1000000 sF210 (fun _ => false) = true := by kernel_rfl
end Go.AM
