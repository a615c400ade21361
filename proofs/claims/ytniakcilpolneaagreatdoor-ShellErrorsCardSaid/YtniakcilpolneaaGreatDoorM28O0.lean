/-
  The machine's code is the program's, part 0. Conditions: none.
-/
import Derived.Test.YtniakcilpolneaaGreatDoorProg
import Derived.Test.YtniakcilpolneaaGreatDoorM28T
namespace Go.AM
open Go
set_option maxHeartbeats 0
set_option maxRecDepth 100000
theorem shok3 : FOk Proofs.Tryz.prog (3, sh3) := fOk (by decide) (by kernel_rfl)
theorem shok4 : FOk Proofs.Tryz.prog (4, sh4) := fOkP (m := (.two .all (.two .all (.two (.two .all (.two .cut .all)) .all)))) (by decide) (by kernel_rfl)
theorem shok5 : FOk Proofs.Tryz.prog (5, sh5) := fOk (by decide) (by kernel_rfl)
theorem shok6 : FOk Proofs.Tryz.prog (6, sh6) := fOk (by decide) (by kernel_rfl)
theorem shok7 : FOk Proofs.Tryz.prog (7, sh7) := fOk (by decide) (by kernel_rfl)
theorem shok8 : FOk Proofs.Tryz.prog (8, sh8) := fOk (by decide) (by kernel_rfl)
theorem shok9 : FOk Proofs.Tryz.prog (9, sh9) := fOk (by decide) (by kernel_rfl)
theorem shok10 : FOk Proofs.Tryz.prog (10, sh10) := fOk (by decide) (by kernel_rfl)
theorem shok11 : FOk Proofs.Tryz.prog (11, sh11) := fOk (by decide) (by kernel_rfl)
theorem shok12 : FOk Proofs.Tryz.prog (12, sh12) := fOk (by decide) (by kernel_rfl)
theorem shok13 : FOk Proofs.Tryz.prog (13, sh13) := fOk (by decide) (by kernel_rfl)
theorem shok14 : FOk Proofs.Tryz.prog (14, sh14) := fOk (by decide) (by kernel_rfl)
theorem shok15 : FOk Proofs.Tryz.prog (15, sh15) := fOk (by decide) (by kernel_rfl)
theorem shok16 : FOk Proofs.Tryz.prog (16, sh16) := fOkP (m := (.two .all (.two (.two .all (.two .cut .all)) (.two (.two .all (.two .cut .all)) (.two .all (.two .all (.two .all (.two .all (.two .all (.two (.one (.one (.two .all (.one (.two .all (.two (.two .all (.two .cut .all)) .all)))))) .all)))))))))) (by decide) (by kernel_rfl)
theorem shok17 : FOk Proofs.Tryz.prog (17, sh17) := fOk (by decide) (by kernel_rfl)
theorem shok18 : FOk Proofs.Tryz.prog (18, sh18) := fOkP (m := (.two .all (.two (.one (.two .all (.two .cut (.two .all (.two .all (.two .all (.two .cut (.two .all (.two (.two .all (.two .all .cut)) (.two .all (.two (.two .all (.two .all (.two .all .cut))) .all))))))))))) .all))) (by decide) (by kernel_rfl)
theorem shok19 : FOk Proofs.Tryz.prog (19, sh19) := fOkP (m := (.two .all (.two .all (.two .all (.two .all (.two .all (.two (.two .all (.one (.one (.two .all (.two .all (.two (.one (.two .all (.two .all (.two (.two .all (.one (.two .all (.two .all (.two .all (.two .all (.two .all (.two .all (.two .all (.two .all (.two .all (.two .cut .all)))))))))))) .all)))) .all)))))) .all))))))) (by decide) (by kernel_rfl)
theorem shok20 : FOk Proofs.Tryz.prog (20, sh20) := fOkP (m := (.two .all (.two .all (.two .all (.two (.two .all (.one (.two .all (.two .cut (.two .all (.two .cut .all)))))) (.two .all (.two (.two .all (.one (.one (.two .all (.two .all .cut))))) (.two .all (.one (.one (.two .all (.two .all .cut)))))))))))) (by decide) (by kernel_rfl)
theorem shok21 : FOk Proofs.Tryz.prog (21, sh21) := fOkP (m := (.two .all (.two (.two .all (.two .cut .all)) (.two (.two .all (.two .all (.two .cut .all))) (.two .all (.two (.one (.two .all (.two .cut (.two .all (.two .all (.two .all (.two .all (.two .all (.two .cut .all))))))))) (.two (.two .all (.one (.two (.two .all (.two .all .cut)) (.two .all .cut)))) .cut))))))) (by decide) (by kernel_rfl)
theorem shok22 : FOk Proofs.Tryz.prog (22, sh22) := fOk (by decide) (by kernel_rfl)
theorem shok23 : FOk Proofs.Tryz.prog (23, sh23) := fOkP (m := (.two .all (.two (.two .all (.one (.two .all (.two .cut .all)))) (.two .all (.two (.two .all (.two (.two (.two .all (.two .cut .all)) .all) .all)) (.two (.two .all (.one (.one (.two .all (.two .all (.two (.one (.two .all (.two (.two .all (.two .cut .all)) .all))) .all)))))) .all)))))) (by decide) (by kernel_rfl)
theorem shok24 : FOk Proofs.Tryz.prog (24, sh24) := fOk (by decide) (by kernel_rfl)
theorem shok25 : FOk Proofs.Tryz.prog (25, sh25) := fOk (by decide) (by kernel_rfl)
theorem shok26 : FOk Proofs.Tryz.prog (26, sh26) := fOkP (m := (.two .all (.two (.two .all (.two .cut .all)) (.two (.two .all (.two .all (.two .cut .all))) (.two .all (.two .all (.two (.two .all (.one (.one (.two .all (.two .all .cut))))) .all))))))) (by decide) (by kernel_rfl)
theorem shok28 : FOk Proofs.Tryz.prog (28, sh28) := fOkP (m := (.two .all (.two (.two .all (.two .cut .all)) (.two .all .cut)))) (by decide) (by kernel_rfl)
theorem shok29 : FOk Proofs.Tryz.prog (29, sh29) := fOk (by decide) (by kernel_rfl)
theorem shok30 : FOk Proofs.Tryz.prog (30, sh30) := fOk (by decide) (by kernel_rfl)
theorem shok31 : FOk Proofs.Tryz.prog (31, sh31) := fOk (by decide) (by kernel_rfl)
theorem shok32 : FOk Proofs.Tryz.prog (32, sh32) := fOkP (m := (.two .all (.two (.two .all (.two .cut .all)) .all))) (by decide) (by kernel_rfl)
theorem shok34 : FOk Proofs.Tryz.prog (34, sh34) := fOk (by decide) (by kernel_rfl)
theorem shok35 : FOk Proofs.Tryz.prog (35, sh35) := fOkP (m := (.two .all (.two .all (.two (.two .all (.one (.one (.two .all (.two (.two .all .cut) (.two (.one (.two .all (.two .all .cut))) .cut)))))) .cut)))) (by decide) (by kernel_rfl)
theorem shok37 : FOk Proofs.Tryz.prog (37, sh37) := fOk (by decide) (by kernel_rfl)
theorem shok39 : FOk Proofs.Tryz.prog (39, sh39) := fOk (by decide) (by kernel_rfl)
theorem shok40 : FOk Proofs.Tryz.prog (40, sh40) := fOkP (m := (.two .all (.two .all (.two .all (.two (.two .all (.one (.one (.two (.two .all (.two .all .cut)) (.two (.one (.two .all (.two .all .cut))) .cut))))) .cut))))) (by decide) (by kernel_rfl)
theorem shok41 : FOk Proofs.Tryz.prog (41, sh41) := fOkP (m := (.two .all (.two (.two .all (.two .cut .all)) .all))) (by decide) (by kernel_rfl)
theorem shok42 : FOk Proofs.Tryz.prog (42, sh42) := fOk (by decide) (by kernel_rfl)
theorem shok43 : FOk Proofs.Tryz.prog (43, sh43) := fOkP (m := (.two .all (.two (.two .all (.two .all (.two .cut .all))) .all))) (by decide) (by kernel_rfl)
theorem shok44 : FOk Proofs.Tryz.prog (44, sh44) := fOk (by decide) (by kernel_rfl)
theorem shok45 : FOk Proofs.Tryz.prog (45, sh45) := fOkP (m := (.two .all (.two (.one (.two .all (.two .cut (.two .all (.two .cut (.two .all (.two .cut (.two .all (.two .cut (.two .all (.two .cut .all))))))))))) (.two (.two .all (.two .all (.two .cut .all))) (.two (.two .all (.two .cut .all)) (.two .all (.two (.two .all (.two .cut .all)) .all))))))) (by decide) (by kernel_rfl)
theorem shok46 : FOk Proofs.Tryz.prog (46, sh46) := fOk (by decide) (by kernel_rfl)
theorem shok47 : FOk Proofs.Tryz.prog (47, sh47) := fOk (by decide) (by kernel_rfl)
end Go.AM
