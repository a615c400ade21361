/-
  Layer 17's awake is true. Conditions: none.
-/
import Derived.Test.YtmhhaimpignndaaGreatM17KO
import Derived.Test.YtmhhaimpignndaaGreatM17KR0
import Derived.Test.YtmhhaimpignndaaGreatAmSe
namespace Go.AM
open Go
set_option maxRecDepth 100000
theorem ppsp21 : FOk Proofs.Tryz.prog (21, .sp spTrue) := fOk_sp (u := pp21) (by decide) (by kernel_rfl) (spTrue_ok fun w => go_true pptb (by kernel_rfl) (vs := []) (X := fun _ => .bool false) (fun _ => rfl) trivial ppaw w)
end Go.AM
