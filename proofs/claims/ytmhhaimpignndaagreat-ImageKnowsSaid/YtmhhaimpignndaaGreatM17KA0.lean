/-
  Runs of the law ImageKnows. Conditions: none.
-/
import Derived.Test.YtmhhaimpignndaaGreatM17KT2
import Derived.Test.YtmhhaimpignndaaGreatAmLm
namespace Go.AM
open Go
set_option maxHeartbeats 0
set_option maxRecDepth 1000000
theorem ppr0z : goF ppT2 2000000 7 [.i 3 (.ofNat 0), .i 4 (.ofNat 0), .xi 1 4 0 1] (fun v _ _ => match v with | .b c => c | _ => false) = true := by kernel_rfl
theorem ppr0a : goF ppT2 2000000 7 [.i 3 (.ofNat 0), .l 4 LA, .xi 1 4 0 1] (fun v _ _ => match v with | .b c => c | _ => false) = true := by kernel_rfl
theorem ppr0b : goF ppT2 2000000 7 [.i 3 (.ofNat 0), .l 4 LB, .xi 1 4 0 1] (fun v _ _ => match v with | .b c => c | _ => false) = true := by kernel_rfl
end Go.AM
namespace Go.AM
open Go
set_option maxHeartbeats 0
set_option maxRecDepth 1000000
theorem ppr1z : goF ppT2 2000000 7 [.i 3 (.ofNat 1), .i 4 (.ofNat 0), .xi 1 4 0 1] (fun v _ _ => match v with | .b c => c | _ => false) = true := by kernel_rfl
theorem ppr1a : goF ppT2 2000000 7 [.i 3 (.ofNat 1), .l 4 LA, .xi 1 4 0 1] (fun v _ _ => match v with | .b c => c | _ => false) = true := by kernel_rfl
theorem ppr1b : goF ppT2 2000000 7 [.i 3 (.ofNat 1), .l 4 LB, .xi 1 4 0 1] (fun v _ _ => match v with | .b c => c | _ => false) = true := by kernel_rfl
end Go.AM
namespace Go.AM
open Go
set_option maxHeartbeats 0
set_option maxRecDepth 1000000
theorem ppr2z : goF ppT2 2000000 7 [.i 3 (.ofNat 2), .i 4 (.ofNat 0), .xi 1 4 0 1] (fun v _ _ => match v with | .b c => c | _ => false) = true := by kernel_rfl
theorem ppr2a : goF ppT2 2000000 7 [.i 3 (.ofNat 2), .l 4 LA, .xi 1 4 0 1] (fun v _ _ => match v with | .b c => c | _ => false) = true := by kernel_rfl
theorem ppr2b : goF ppT2 2000000 7 [.i 3 (.ofNat 2), .l 4 LB, .xi 1 4 0 1] (fun v _ _ => match v with | .b c => c | _ => false) = true := by kernel_rfl
end Go.AM
namespace Go.AM
open Go
set_option maxHeartbeats 0
set_option maxRecDepth 1000000
theorem ppr3z : goF ppT2 2000000 7 [.i 3 (.ofNat 3), .i 4 (.ofNat 0), .xi 1 4 0 1] (fun v _ _ => match v with | .b c => c | _ => false) = true := by kernel_rfl
theorem ppr3a : goF ppT2 2000000 7 [.i 3 (.ofNat 3), .l 4 LA, .xi 1 4 0 1] (fun v _ _ => match v with | .b c => c | _ => false) = true := by kernel_rfl
theorem ppr3b : goF ppT2 2000000 7 [.i 3 (.ofNat 3), .l 4 LB, .xi 1 4 0 1] (fun v _ _ => match v with | .b c => c | _ => false) = true := by kernel_rfl
end Go.AM
