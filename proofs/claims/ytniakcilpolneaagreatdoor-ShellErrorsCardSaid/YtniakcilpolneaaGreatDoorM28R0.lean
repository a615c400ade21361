/-
  The run of awake. Conditions: none.
-/
import Derived.Test.YtniakcilpolneaaGreatDoorM28T
namespace Go.AM
open Go
set_option maxHeartbeats 0
set_option maxRecDepth 1000000
theorem shawake : goF shT 2000000 5 [] (fun v _ _ => match v with | .b c => c | _ => false) = true := by kernel_rfl
end Go.AM
