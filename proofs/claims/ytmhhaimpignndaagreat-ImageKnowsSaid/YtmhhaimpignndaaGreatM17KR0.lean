/-
  Layer 17's awake is true. Conditions: none.
-/
import Derived.Test.YtmhhaimpignndaaGreatM17KT
namespace Go.AM
open Go
set_option maxHeartbeats 0
set_option maxRecDepth 1000000
theorem ppaw : goF ppT 2000000 21 [] (fun v _ _ => match v with | .b c => c | _ => false) = true := by kernel_rfl
end Go.AM
