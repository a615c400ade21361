/-
  The run of the law CarryNil. Conditions: none.
-/
import Derived.Test.YtllgedaeidbenaaGreatM20CT
namespace Go.AM
open Go
set_option maxHeartbeats 0
set_option maxRecDepth 1000000
theorem ncrun : goF ncT 200000 11 [.x 0] (fun v _ _ => match v with | .b c => c | _ => false) = true := by kernel_rfl
end Go.AM
