/-
  The run of the law ArchiveNil. Conditions: none.
-/
import Derived.Test.YtlmglicbgdkmoaaGreatM25NT
namespace Go.AM
open Go
set_option maxHeartbeats 0
set_option maxRecDepth 1000000
theorem mdrun : goF mdT 200000 6 [.ag [.x 0, .x 1, .x 2, .x 3, .x 4, .x 5, .x 6]] (fun v _ _ => match v with | .b c => c | _ => false) = true := by kernel_rfl
end Go.AM
