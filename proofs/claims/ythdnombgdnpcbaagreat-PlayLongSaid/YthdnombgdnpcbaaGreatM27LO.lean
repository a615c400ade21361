/-
  The machine's tables are the program's. Conditions: none.
-/
import Derived.Test.YthdnombgdnpcbaaGreatM27LO0
import Derived.Test.YthdnombgdnpcbaaGreatM27LS
namespace Go.AM
open Go
set_option maxHeartbeats 0
set_option maxRecDepth 1000000
noncomputable def pbfc0 : List (Nat × AFn) := [(3, pb3), (4, pb4), (5, pb5), (6, (.sp spTrue)), (7, pb7), (8, pb8), (9, pb9), (10, pb10), (11, pb11), (12, pb12), (13, pb13), (14, pb14), (15, pb15), (19, pb19), (20, pb20), (22, pb22), (23, pb23), (24, pb24), (25, pb25), (34, pb34), (39, pb39), (40, pb40), (41, pb41), (42, pb42), (52, pb52), (57, pb57), (58, pb58), (68, pb68), (78, pb78), (353, pb353)]
theorem pbfc0_ok : All (FOk Proofs.Tryz.prog) pbfc0 := ⟨pbok3, pbok4, pbok5, pbsp6, pbok7, pbok8, pbok9, pbok10, pbok11, pbok12, pbok13, pbok14, pbok15, pbok19, pbok20, pbok22, pbok23, pbok24, pbok25, pbok34, pbok39, pbok40, pbok41, pbok42, pbok52, pbok57, pbok58, pbok68, pbok78, pbok353, trivial⟩
theorem pbfl_eq : pbfl = pbfc0 ++ [] := by kernel_rfl
theorem pbll_eq : pbll = [] := by kernel_rfl
theorem pbtb : TbOk pbT Proofs.Tryz.prog := by
  rw [pbT_eq, pbfl_eq, pbll_eq]
  exact tbOk (All.app pbfc0_ok trivial) trivial
end Go.AM
