/-
  Layer 27's awake is true. Conditions: none.
-/
import Derived.Test.YthdnombgdnpcbaaGreatM27WO
import Derived.Test.YthdnombgdnpcbaaGreatM27WR
import Derived.Test.YthdnombgdnpcbaaGreatAmSe
namespace Go.AM
open Go
set_option maxRecDepth 100000
theorem pbsp6 : FOk Proofs.Tryz.prog (6, .sp spTrue) := fOk_sp (u := pa6) (by decide) (by kernel_rfl) (spTrue_ok fun w => go_true patb (by kernel_rfl) (vs := []) (X := fun _ => .bool false) (fun _ => rfl) trivial pawr w)
end Go.AM
