/-
  Runs of the law ImageKnows. Conditions: none.
-/
import Derived.Test.YtmhhaimpignndaaGreatM17KT2
import Derived.Test.YtmhhaimpignndaaGreatAmLm
namespace Go.AM
open Go
set_option maxHeartbeats 0
set_option maxRecDepth 1000000
theorem ppr4z : goF ppT2 2000000 7 [.i 3 (.ofNat 4), .i 4 (.ofNat 0), .xi 1 4 0 1] (fun v _ _ => match v with | .b c => c | _ => false) = true := by kernel_rfl
theorem ppr4a : goF ppT2 2000000 7 [.i 3 (.ofNat 4), .l 4 LA, .xi 1 4 0 1] (fun v _ _ => match v with | .b c => c | _ => false) = true := by kernel_rfl
theorem ppr4b : goF ppT2 2000000 7 [.i 3 (.ofNat 4), .l 4 LB, .xi 1 4 0 1] (fun v _ _ => match v with | .b c => c | _ => false) = true := by kernel_rfl
end Go.AM
namespace Go.AM
open Go
set_option maxHeartbeats 0
set_option maxRecDepth 1000000
theorem ppr5z : goF ppT2 2000000 7 [.i 3 (.ofNat 5), .i 4 (.ofNat 0), .xi 1 4 0 1] (fun v _ _ => match v with | .b c => c | _ => false) = true := by kernel_rfl
theorem ppr5a : goF ppT2 2000000 7 [.i 3 (.ofNat 5), .l 4 LA, .xi 1 4 0 1] (fun v _ _ => match v with | .b c => c | _ => false) = true := by kernel_rfl
theorem ppr5b : goF ppT2 2000000 7 [.i 3 (.ofNat 5), .l 4 LB, .xi 1 4 0 1] (fun v _ _ => match v with | .b c => c | _ => false) = true := by kernel_rfl
end Go.AM
namespace Go.AM
open Go
set_option maxHeartbeats 0
set_option maxRecDepth 1000000
theorem ppr6z : goF ppT2 2000000 7 [.i 3 (.ofNat 6), .i 4 (.ofNat 0), .xi 1 4 0 1] (fun v _ _ => match v with | .b c => c | _ => false) = true := by kernel_rfl
theorem ppr6a : goF ppT2 2000000 7 [.i 3 (.ofNat 6), .l 4 LA, .xi 1 4 0 1] (fun v _ _ => match v with | .b c => c | _ => false) = true := by kernel_rfl
theorem ppr6b : goF ppT2 2000000 7 [.i 3 (.ofNat 6), .l 4 LB, .xi 1 4 0 1] (fun v _ _ => match v with | .b c => c | _ => false) = true := by kernel_rfl
end Go.AM
