/-
  Layer 16's awake is true. Conditions: none.
-/
import Derived.Test.YtmhhaimpignndaaGreatM16FT
namespace Go.AM
open Go
set_option maxHeartbeats 0
set_option maxRecDepth 1000000
theorem ppaw : goF ppT 2000000 8 [] (fun v _ _ => match v with | .b c => c | _ => false) = true := by kernel_rfl
end Go.AM
