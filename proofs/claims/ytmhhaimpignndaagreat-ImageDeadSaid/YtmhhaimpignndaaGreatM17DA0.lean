/-
  Runs of the law ImageDead. Conditions: none.
-/
import Derived.Test.YtmhhaimpignndaaGreatM17DT2
namespace Go.AM
open Go
set_option maxHeartbeats 0
set_option maxRecDepth 1000000
theorem ppr0 : goF ppT2 2000000 6 [.l 4 LI, .xi 0 4 0 8] (fun v _ _ => match v with | .b c => c | _ => false) = true := by kernel_rfl
theorem ppr1 : goF ppT2 2000000 6 [.l 4 LI, .xi 0 4 1 8] (fun v _ _ => match v with | .b c => c | _ => false) = true := by kernel_rfl
end Go.AM
namespace Go.AM
open Go
set_option maxHeartbeats 0
set_option maxRecDepth 1000000
theorem ppr2 : goF ppT2 2000000 6 [.l 4 LI, .xi 0 4 2 8] (fun v _ _ => match v with | .b c => c | _ => false) = true := by kernel_rfl
theorem ppr3 : goF ppT2 2000000 6 [.l 4 LI, .xi 0 4 3 8] (fun v _ _ => match v with | .b c => c | _ => false) = true := by kernel_rfl
end Go.AM
namespace Go.AM
open Go
set_option maxHeartbeats 0
set_option maxRecDepth 1000000
theorem ppr4 : goF ppT2 2000000 6 [.l 4 LI, .xi 0 4 4 8] (fun v _ _ => match v with | .b c => c | _ => false) = true := by kernel_rfl
theorem ppr5 : goF ppT2 2000000 6 [.l 4 LI, .xi 0 4 5 8] (fun v _ _ => match v with | .b c => c | _ => false) = true := by kernel_rfl
end Go.AM
namespace Go.AM
open Go
set_option maxHeartbeats 0
set_option maxRecDepth 1000000
theorem ppr6 : goF ppT2 2000000 6 [.l 4 LI, .xi 0 4 6 8] (fun v _ _ => match v with | .b c => c | _ => false) = true := by kernel_rfl
theorem ppr7 : goF ppT2 2000000 6 [.l 4 LI, .xi 0 4 7 8] (fun v _ _ => match v with | .b c => c | _ => false) = true := by kernel_rfl
end Go.AM
