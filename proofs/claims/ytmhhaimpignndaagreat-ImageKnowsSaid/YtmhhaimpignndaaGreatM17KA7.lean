/-
  Runs of the law ImageKnows. Conditions: none.
-/
import Derived.Test.YtmhhaimpignndaaGreatM17KT2
import Derived.Test.YtmhhaimpignndaaGreatAmLm
namespace Go.AM
open Go
set_option maxHeartbeats 0
set_option maxRecDepth 1000000
theorem ppr7z : goF ppT2 2000000 7 [.i 3 (.ofNat 7), .i 4 (.ofNat 0), .xi 1 4 0 1] (fun v _ _ => match v with | .b c => c | _ => false) = true := by kernel_rfl
theorem ppr7a : goF ppT2 2000000 7 [.i 3 (.ofNat 7), .l 4 LA, .xi 1 4 0 1] (fun v _ _ => match v with | .b c => c | _ => false) = true := by kernel_rfl
theorem ppr7b : goF ppT2 2000000 7 [.i 3 (.ofNat 7), .l 4 LB, .xi 1 4 0 1] (fun v _ _ => match v with | .b c => c | _ => false) = true := by kernel_rfl
end Go.AM
namespace Go.AM
open Go
set_option maxHeartbeats 0
set_option maxRecDepth 1000000
theorem pprnz : goF ppT2 2000000 7 [.z 0 0, .i 4 (.ofNat 0), .xi 1 4 0 1] (fun v _ _ => match v with | .b c => c | _ => false) = true := by kernel_rfl
theorem pprna : goF ppT2 2000000 7 [.z 0 0, .l 4 LA, .xi 1 4 0 1] (fun v _ _ => match v with | .b c => c | _ => false) = true := by kernel_rfl
theorem pprnb : goF ppT2 2000000 7 [.z 0 0, .l 4 LB, .xi 1 4 0 1] (fun v _ _ => match v with | .b c => c | _ => false) = true := by kernel_rfl
end Go.AM
namespace Go.AM
open Go
set_option maxHeartbeats 0
set_option maxRecDepth 1000000
theorem pprmz : goF ppT2 2000000 7 [.z 0 8, .i 4 (.ofNat 0), .xi 1 4 0 1] (fun v _ _ => match v with | .b c => c | _ => false) = true := by kernel_rfl
theorem pprma : goF ppT2 2000000 7 [.z 0 8, .l 4 LA, .xi 1 4 0 1] (fun v _ _ => match v with | .b c => c | _ => false) = true := by kernel_rfl
theorem pprmb : goF ppT2 2000000 7 [.z 0 8, .l 4 LB, .xi 1 4 0 1] (fun v _ _ => match v with | .b c => c | _ => false) = true := by kernel_rfl
end Go.AM
