/-
  The machine's code is the program's, part 0. Conditions: none.
-/
import Derived.Test.YthdnombgdnpcbaaGreatProg
import Derived.Test.YthdnombgdnpcbaaGreatM27LT
namespace Go.AM
open Go
set_option maxHeartbeats 0
set_option maxRecDepth 100000
theorem pbok3 : FOk Proofs.Tryz.prog (3, pb3) := fOk (by decide) (by kernel_rfl)
theorem pbok4 : FOk Proofs.Tryz.prog (4, pb4) := fOkP (m := (.two .all (.two .all (.two (.one (.two .all (.two .cut .all))) (.two .all (.two (.two .all (.two .all (.two .cut .all))) .all)))))) (by decide) (by kernel_rfl)
theorem pbok5 : FOk Proofs.Tryz.prog (5, pb5) := fOk (by decide) (by kernel_rfl)
theorem pbok7 : FOk Proofs.Tryz.prog (7, pb7) := fOkP (m := (.two .all (.two (.two .all (.two .cut .all)) .all))) (by decide) (by kernel_rfl)
theorem pbok8 : FOk Proofs.Tryz.prog (8, pb8) := fOk (by decide) (by kernel_rfl)
theorem pbok9 : FOk Proofs.Tryz.prog (9, pb9) := fOkP (m := (.two .all (.two (.two .all (.one (.two .all (.two .cut (.two .all (.two .cut (.two .all (.two .cut (.two .all (.two .cut .all)))))))))) .all))) (by decide) (by kernel_rfl)
theorem pbok10 : FOk Proofs.Tryz.prog (10, pb10) := fOkP (m := (.two .all (.two (.two .all (.two .cut .all)) (.two .all (.two (.two .all (.one (.one (.two .all (.two .all .cut))))) .all))))) (by decide) (by kernel_rfl)
theorem pbok11 : FOk Proofs.Tryz.prog (11, pb11) := fOkP (m := (.two .all (.two (.two .all (.two .cut .all)) (.two .all (.two (.two .all (.one (.one (.two .all (.two .all .cut))))) .all))))) (by decide) (by kernel_rfl)
end Go.AM
namespace Go.AM
open Go
set_option maxHeartbeats 0
set_option maxRecDepth 100000
theorem pbok12 : FOk Proofs.Tryz.prog (12, pb12) := fOkP (m := (.two .all (.two (.two .all (.two .cut .all)) (.two (.two .all (.two .all (.two .cut .all))) (.two .all (.two .all (.two (.two .all (.one (.one (.two .all (.two .all .cut))))) .all))))))) (by decide) (by kernel_rfl)
theorem pbok13 : FOk Proofs.Tryz.prog (13, pb13) := fOkP (m := (.two .all (.two (.two .all (.two .all (.two .cut .all))) .all))) (by decide) (by kernel_rfl)
theorem pbok14 : FOk Proofs.Tryz.prog (14, pb14) := fOk (by decide) (by kernel_rfl)
theorem pbok15 : FOk Proofs.Tryz.prog (15, pb15) := fOk (by decide) (by kernel_rfl)
theorem pbok19 : FOk Proofs.Tryz.prog (19, pb19) := fOkP (m := (.two .all (.two .all (.two (.two .all (.one (.one (.two .all (.two .all .cut))))) .all)))) (by decide) (by kernel_rfl)
theorem pbok20 : FOk Proofs.Tryz.prog (20, pb20) := fOkP (m := (.two .all (.two .all (.two (.two .all (.one (.one (.two .all (.two .all .cut))))) .all)))) (by decide) (by kernel_rfl)
theorem pbok22 : FOk Proofs.Tryz.prog (22, pb22) := fOkP (m := (.two .all (.two .all (.two (.one (.two .all (.two .all .cut))) .cut)))) (by decide) (by kernel_rfl)
theorem pbok23 : FOk Proofs.Tryz.prog (23, pb23) := fOk (by decide) (by kernel_rfl)
end Go.AM
namespace Go.AM
open Go
set_option maxHeartbeats 0
set_option maxRecDepth 100000
theorem pbok24 : FOk Proofs.Tryz.prog (24, pb24) := fOk (by decide) (by kernel_rfl)
theorem pbok25 : FOk Proofs.Tryz.prog (25, pb25) := fOkP (m := (.two .all (.one (.one (.two .all (.two .all .cut)))))) (by decide) (by kernel_rfl)
theorem pbok34 : FOk Proofs.Tryz.prog (34, pb34) := fOkP (m := (.two .all (.two (.two .all (.two .cut .all)) .all))) (by decide) (by kernel_rfl)
theorem pbok39 : FOk Proofs.Tryz.prog (39, pb39) := fOkP (m := (.two .all (.two (.two .all (.two .all (.two .cut .all))) (.two .all (.two .all .cut))))) (by decide) (by kernel_rfl)
theorem pbok40 : FOk Proofs.Tryz.prog (40, pb40) := fOk (by decide) (by kernel_rfl)
theorem pbok41 : FOk Proofs.Tryz.prog (41, pb41) := fOkP (m := (.two .all (.two .all (.one (.one (.one (.two .all (.two .all .cut)))))))) (by decide) (by kernel_rfl)
theorem pbok42 : FOk Proofs.Tryz.prog (42, pb42) := fOkP (m := (.two .all (.two (.two .cut .all) .all))) (by decide) (by kernel_rfl)
theorem pbok52 : FOk Proofs.Tryz.prog (52, pb52) := fOk (by decide) (by kernel_rfl)
end Go.AM
namespace Go.AM
open Go
set_option maxHeartbeats 0
set_option maxRecDepth 100000
theorem pbok57 : FOk Proofs.Tryz.prog (57, pb57) := fOkP (m := (.two .all (.two (.one (.two .all (.two .cut (.two .all (.two .cut .all))))) .all))) (by decide) (by kernel_rfl)
theorem pbok58 : FOk Proofs.Tryz.prog (58, pb58) := fOkP (m := (.two .all (.one (.one (.two .all .cut))))) (by decide) (by kernel_rfl)
theorem pbok68 : FOk Proofs.Tryz.prog (68, pb68) := fOkP (m := (.two .all (.two (.two .all (.two .cut .all)) (.two (.two .all (.two .cut .all)) (.two (.two .all (.two .cut .all)) .all))))) (by decide) (by kernel_rfl)
theorem pbok78 : FOk Proofs.Tryz.prog (78, pb78) := fOkP (m := (.two .all (.one (.one (.two .all (.two .all .cut)))))) (by decide) (by kernel_rfl)
theorem pbok353 : FOk Proofs.Tryz.prog (353, pb353) := fOk (by decide) (by kernel_rfl)
end Go.AM
