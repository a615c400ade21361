/-
  The machine's code is the program's, part 0. Conditions: none.
-/
import Derived.Test.YtlmglicbgdkmoaaGreatProg
import Derived.Test.YtlmglicbgdkmoaaGreatM18DF
namespace Go.AM
open Go
set_option maxHeartbeats 0
set_option maxRecDepth 100000
theorem mcok5 : FOk Proofs.Tryz.prog (5, mc5) := fOk (by decide) (by kernel_rfl)
theorem mcok22 : FOk Proofs.Tryz.prog (22, mc22) := fOk (by decide) (by kernel_rfl)
end Go.AM
namespace Go.AM
open Go
set_option maxHeartbeats 0
set_option maxRecDepth 100000
theorem mcok27 : FOk Proofs.Tryz.prog (27, mc27) := fOk (by decide) (by kernel_rfl)
theorem mcok28 : FOk Proofs.Tryz.prog (28, mc28) := fOk (by decide) (by kernel_rfl)
end Go.AM
namespace Go.AM
open Go
set_option maxHeartbeats 0
set_option maxRecDepth 100000
theorem mcok69 : FOk Proofs.Tryz.prog (69, mc69) := fOk (by decide) (by kernel_rfl)
theorem mcok132 : FOk Proofs.Tryz.prog (132, mc132) := fOk (by decide) (by kernel_rfl)
end Go.AM
namespace Go.AM
open Go
set_option maxHeartbeats 0
set_option maxRecDepth 100000
theorem mclok448 : LOk Proofs.Tryz.prog (448, mcl448) := ⟨by decide, by kernel_rfl⟩
end Go.AM
