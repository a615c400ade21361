/-
  Layer 17's awake is true. Conditions: none.
-/
import Derived.Test.YtafgmkboaippbaaGreatM17AO
import Derived.Test.YtafgmkboaippbaaGreatM17AR0
import Derived.Test.YtafgmkboaippbaaGreatAmSe
namespace Go.AM
open Go
set_option maxRecDepth 100000
theorem iasp11 : FOk Proofs.Tryz.prog (11, .sp spTrue) := fOk_sp (u := ia11) (by decide) (by kernel_rfl) (spTrue_ok fun w => go_true iatb (by kernel_rfl) (vs := []) (X := fun _ => .bool false) (fun _ => rfl) trivial iar0 w)
end Go.AM
