/-
  The run of the law ChainEmpty. Conditions: none.
-/
import Derived.Test.YtlmglicbgdkmoaaGreatM18ET
namespace Go.AM
open Go
set_option maxHeartbeats 0
set_option maxRecDepth 1000000
theorem mbrun : goF mbT 200000 4 [.x 0, .x 1, .x 2] (fun v _ _ => match v with | .b c => c | _ => false) = true := by kernel_rfl
end Go.AM
