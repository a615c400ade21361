/-
  The contract of the function that adds all files' lengths holds of the program. Conditions: none.
-/
import Derived.Test.YtlmglicbgdkmoaaGreatProg
import Derived.Test.YtlmglicbgdkmoaaGreatAmSe
namespace Go.AM
open Go
set_option maxHeartbeats 0
set_option maxRecDepth 100000
theorem mbsp176 : FOk Proofs.Tryz.prog (176, .sp usedS) := fOk_sp (u := usedF) (by decide) (by kernel_rfl) (used_ok (by decide) (by kernel_rfl) (by kernel_rfl))
end Go.AM
