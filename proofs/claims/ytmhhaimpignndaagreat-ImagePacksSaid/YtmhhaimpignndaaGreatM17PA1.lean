/-
  Runs of the law ImagePacks. Conditions: none.
-/
import Derived.Test.YtmhhaimpignndaaGreatM17PT2
import Derived.Test.YtmhhaimpignndaaGreatAmLm
namespace Go.AM
open Go
set_option maxHeartbeats 0
set_option maxRecDepth 1000000
theorem ppr1 : goF ppT2 2000000 5 [.l 4 LP, .xi 0 4 1 4] (fun v _ _ => match v with | .b c => c | _ => false) = true := by kernel_rfl
theorem ppq1 : goF ppT2 2000000 5 [.i 4 (.ofNat 0), .xi 0 4 1 4] (fun v _ _ => match v with | .b c => c | _ => false) = true := by kernel_rfl
theorem pps1 : goF ppT2 2000000 5 [.i 4 (.ofNat 128), .xi 0 4 1 4] (fun v _ _ => match v with | .b c => c | _ => false) = true := by kernel_rfl
end Go.AM
