/-
  Layer 16's awake is true. Conditions: none.
-/
import Derived.Test.YtmhhaimpignndaaGreatM16FO
import Derived.Test.YtmhhaimpignndaaGreatM16FR0
import Derived.Test.YtmhhaimpignndaaGreatAmSe
namespace Go.AM
open Go
set_option maxRecDepth 100000
theorem ppsp8 : FOk Proofs.Tryz.prog (8, .sp spTrue) := fOk_sp (u := pp8) (by decide) (by kernel_rfl) (spTrue_ok fun w => go_true pptb (by kernel_rfl) (vs := []) (X := fun _ => .bool false) (fun _ => rfl) trivial ppaw w)
end Go.AM
