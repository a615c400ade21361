/-
  The run of layer 18's awake. Conditions: none.
-/
import Derived.Test.YtlmglicbgdkmoaaGreatM18ET
import Derived.Test.YtlmglicbgdkmoaaGreatM18EO
namespace Go.AM
open Go
set_option maxHeartbeats 0
set_option maxRecDepth 1000000
theorem mbaw : goF mbT 200000 26 [] (fun v _ _ => match v with | .b c => c | _ => false) = true := by kernel_rfl
end Go.AM
namespace Go.AM
open Go
set_option maxRecDepth 100000
theorem mcsp26 : FOk Proofs.Tryz.prog (26, .sp spTrue) := fOk_sp (u := mb26) (by decide) (by kernel_rfl) (spTrue_ok fun w => go_true mbtb (by kernel_rfl) (vs := []) (X := fun _ => .bool false) (fun _ => rfl) trivial mbaw w)
end Go.AM
