/-
  The machine's tables are the program's. Conditions: none.
-/
import Derived.Test.YtlmglicbgdkmoaaGreatM18DO0
import Derived.Test.YtlmglicbgdkmoaaGreatM18W
namespace Go.AM
open Go
set_option maxHeartbeats 0
set_option maxRecDepth 1000000
noncomputable def mcfc0 : List (Nat × AFn) := [(5, mc5), (22, mc22), (26, (.sp spTrue)), (27, mc27), (28, mc28), (69, mc69), (132, mc132)]
theorem mcfc0_ok : All (FOk Proofs.Tryz.prog) mcfc0 := ⟨mcok5, mcok22, mcsp26, mcok27, mcok28, mcok69, mcok132, trivial⟩
noncomputable def mclc0 : List (Nat × ALp) := [(448, mcl448)]
theorem mclc0_ok : All (LOk Proofs.Tryz.prog) mclc0 := ⟨mclok448, trivial⟩
theorem mcfl_eq : mcfl = mcfc0 ++ [] := by kernel_rfl
theorem mcll_eq : mcll = mclc0 ++ [] := by kernel_rfl
theorem mctb : TbOk mcT Proofs.Tryz.prog := by
  rw [mcT_eq, mcfl_eq, mcll_eq]
  exact tbOk (All.app mcfc0_ok trivial) (All.app mclc0_ok trivial)
end Go.AM
