/-
  The run of the law ImageNil. Conditions: none.
-/
import Derived.Test.YtlmglicbgdkmoaaGreatM17NT
namespace Go.AM
open Go
set_option maxHeartbeats 0
set_option maxRecDepth 1000000
theorem marun : goF maT 200000 3 [.x 0, .x 1] (fun v _ _ => match v with | .b c => c | _ => false) = true := by kernel_rfl
end Go.AM
