/-
  The run of awake, part of the law ImageAgain. Conditions: none.
-/
import Derived.Test.YtafgmkboaippbaaGreatM17AT
namespace Go.AM
open Go
set_option maxHeartbeats 0
set_option maxRecDepth 1000000
theorem iar0 : goF iaT 2000000 11 [] (fun v _ _ => match v with | .b c => c | _ => false) = true := by kernel_rfl
end Go.AM
