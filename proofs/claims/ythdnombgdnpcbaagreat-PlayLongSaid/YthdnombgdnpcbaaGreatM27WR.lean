/-
  The run of layer 27's awake. Conditions: none.
-/
import Derived.Test.YthdnombgdnpcbaaGreatM27WT
namespace Go.AM
open Go
set_option maxHeartbeats 0
set_option maxRecDepth 1000000
theorem pawr : goF paT 200000 6 [] (fun v _ _ => match v with | .b c => c | _ => false) = true := by kernel_rfl
end Go.AM
