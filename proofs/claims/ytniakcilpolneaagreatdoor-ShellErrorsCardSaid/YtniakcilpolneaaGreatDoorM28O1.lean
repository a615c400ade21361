/-
  The machine's code is the program's, part 1. Conditions: none.
-/
import Derived.Test.YtniakcilpolneaaGreatDoorProg
import Derived.Test.YtniakcilpolneaaGreatDoorM28T
namespace Go.AM
open Go
set_option maxHeartbeats 0
set_option maxRecDepth 100000
theorem shok48 : FOk Proofs.Tryz.prog (48, sh48) := fOkP (m := (.two .all (.two .all (.two .all (.two .all (.two (.two .all (.one (.two .all (.two .all .cut)))) .all)))))) (by decide) (by kernel_rfl)
theorem shok51 : FOk Proofs.Tryz.prog (51, sh51) := fOkP (m := (.two .all (.two .all (.two .all (.two .cut .all))))) (by decide) (by kernel_rfl)
theorem shok52 : FOk Proofs.Tryz.prog (52, sh52) := fOkP (m := (.two .all (.two (.two .all (.two .cut .all)) .all))) (by decide) (by kernel_rfl)
theorem shok53 : FOk Proofs.Tryz.prog (53, sh53) := fOkP (m := (.two .all (.two (.two .all (.two (.two .all .cut) .all)) .cut))) (by decide) (by kernel_rfl)
theorem shok54 : FOk Proofs.Tryz.prog (54, sh54) := fOkP (m := (.two .all (.two .all (.two (.two .all (.one (.one (.two .all (.two .all .cut))))) .all)))) (by decide) (by kernel_rfl)
theorem shok55 : FOk Proofs.Tryz.prog (55, sh55) := fOkP (m := (.two .all (.two .all (.two (.two .all (.one (.one (.two .all (.two .all .cut))))) .all)))) (by decide) (by kernel_rfl)
theorem shok60 : FOk Proofs.Tryz.prog (60, sh60) := fOkP (m := (.two .all (.two .all (.two (.one (.two .all (.two .cut (.two .all (.two .all .cut))))) .cut)))) (by decide) (by kernel_rfl)
theorem shok63 : FOk Proofs.Tryz.prog (63, sh63) := ⟨by decide, sh63p, by kernel_rfl, (.seq (.refl _) (.seq (.refl _) (.seq (.refl _) (.seq (.refl _) (.seq (.refl _) (.seq (.refl _) (.seq (.refl _) (.seq (.refl _) (.seq (.refl _) (.seq (.refl _) (.seq (.seq (.refl _) (.spl kept_ok)) (.refl _))))))))))))⟩
theorem shok64 : FOk Proofs.Tryz.prog (64, sh64) := fOkP (m := (.two .all (.two (.two .all (.two .cut .all)) (.two .all (.two .all (.two (.two .all (.one (.one (.two .all (.two .all .cut))))) .all)))))) (by decide) (by kernel_rfl)
theorem shok65 : FOk Proofs.Tryz.prog (65, sh65) := fOkP (m := (.two .all (.two (.two .all (.two .cut .all)) .all))) (by decide) (by kernel_rfl)
theorem shok66 : FOk Proofs.Tryz.prog (66, sh66) := fOkP (m := (.two .all (.two .all (.two (.two .all (.two .cut .all)) .all)))) (by decide) (by kernel_rfl)
theorem shok67 : FOk Proofs.Tryz.prog (67, sh67) := fOk (by decide) (by kernel_rfl)
theorem shok68 : FOk Proofs.Tryz.prog (68, sh68) := fOk (by decide) (by kernel_rfl)
theorem shok69 : FOk Proofs.Tryz.prog (69, sh69) := fOk (by decide) (by kernel_rfl)
theorem shok70 : FOk Proofs.Tryz.prog (70, sh70) := fOk (by decide) (by kernel_rfl)
theorem shok71 : FOk Proofs.Tryz.prog (71, sh71) := fOkP (m := (.two .all (.two .all (.two (.one (.two .all (.two .all (.two .all (.two .cut .all))))) (.two .all (.two (.two .all (.one (.one (.two .all (.two .all .cut))))) .all)))))) (by decide) (by kernel_rfl)
theorem shok73 : FOk Proofs.Tryz.prog (73, sh73) := fOkP (m := (.two .all (.two (.two .all (.two .cut .all)) (.two (.two .all (.one (.one (.two .all (.two .all (.two (.one (.two .all (.two .all (.two .all (.two .cut .all))))) .all)))))) .all)))) (by decide) (by kernel_rfl)
theorem shok74 : FOk Proofs.Tryz.prog (74, sh74) := fOkP (m := (.two .all (.two .all (.two .all (.two .all (.two (.two .all (.two .cut .all)) (.two .all (.two (.two .all (.one (.one (.two .all .cut)))) .all)))))))) (by decide) (by kernel_rfl)
theorem shok75 : FOk Proofs.Tryz.prog (75, sh75) := fOkP (m := (.two .all (.two .all (.two (.two .all (.one (.one (.two .all (.two .all .cut))))) .all)))) (by decide) (by kernel_rfl)
theorem shok76 : FOk Proofs.Tryz.prog (76, sh76) := fOkP (m := (.two .all (.two (.two .all (.two .all (.two .cut .all))) (.two (.two .all (.two .cut .all)) (.two .all (.two (.two .all (.one (.one (.two .all (.two .all .cut))))) (.two .all (.two (.two .all (.two .cut .all)) .all)))))))) (by decide) (by kernel_rfl)
theorem shok77 : FOk Proofs.Tryz.prog (77, sh77) := fOkP (m := (.two .all (.two .all (.two (.two .all (.two .cut .all)) (.two (.two .all (.two .all (.two .cut .all))) (.two .all (.two .all (.two (.two .all (.two .all (.two .cut .all))) .all)))))))) (by decide) (by kernel_rfl)
theorem shok78 : FOk Proofs.Tryz.prog (78, sh78) := fOk (by decide) (by kernel_rfl)
theorem shok79 : FOk Proofs.Tryz.prog (79, sh79) := fOk (by decide) (by kernel_rfl)
theorem shok80 : FOk Proofs.Tryz.prog (80, sh80) := fOkP (m := (.two .all (.one (.one (.two .all (.two .all .cut)))))) (by decide) (by kernel_rfl)
theorem shok81 : FOk Proofs.Tryz.prog (81, sh81) := fOkP (m := (.two .all (.two (.two .all (.two .cut .all)) .all))) (by decide) (by kernel_rfl)
theorem shok82 : FOk Proofs.Tryz.prog (82, sh82) := fOkP (m := (.two .all (.two (.two .all (.two .cut .all)) (.two .all (.two (.one (.two .all (.two .cut (.two .all (.two .cut .all))))) (.two .all (.two .all (.two (.two .all (.one (.one (.two .all (.two .all (.two (.one (.two .all (.two .all (.two (.two .all (.two .cut .all)) (.two .all (.two .all (.two (.two .all (.two .cut .all)) .all))))))) .all)))))) .all)))))))) (by decide) (by kernel_rfl)
theorem shok83 : FOk Proofs.Tryz.prog (83, sh83) := fOk (by decide) (by kernel_rfl)
theorem shok87 : FOk Proofs.Tryz.prog (87, sh87) := fOkP (m := (.two .all (.two (.two .all (.two .cut .all)) (.two .all (.two (.two .all (.two .cut .all)) .all))))) (by decide) (by kernel_rfl)
theorem shok102 : FOk Proofs.Tryz.prog (102, sh102) := fOk (by decide) (by kernel_rfl)
theorem shok103 : FOk Proofs.Tryz.prog (103, sh103) := fOkP (m := (.two .all (.two .all .cut))) (by decide) (by kernel_rfl)
theorem shok106 : FOk Proofs.Tryz.prog (106, sh106) := fOkP (m := (.two .all (.two (.two .all (.two .cut .all)) (.two .all (.two .all (.two (.two .all (.two .cut .all)) (.two (.two .all (.two (.two .all (.two .all (.two .all (.two (.one (.one (.two .all .cut))) .all)))) .cut)) (.two (.two .all (.two .cut .all)) (.two (.two .all (.two .cut .all)) .all))))))))) (by decide) (by kernel_rfl)
theorem shok107 : FOk Proofs.Tryz.prog (107, sh107) := fOkP (m := (.two .all (.two (.two .all (.two .cut .all)) .all))) (by decide) (by kernel_rfl)
theorem shok109 : FOk Proofs.Tryz.prog (109, sh109) := fOk (by decide) (by kernel_rfl)
theorem shok111 : FOk Proofs.Tryz.prog (111, sh111) := fOk (by decide) (by kernel_rfl)
theorem shok117 : FOk Proofs.Tryz.prog (117, sh117) := fOkP (m := (.two .all (.two (.two .all (.two .cut .all)) (.two (.two .all (.two .cut .all)) (.two .all (.two (.two .all (.one (.one (.two .all (.two .all .cut))))) (.two (.two .all (.one (.one (.two .all (.two .all .cut))))) (.two (.two .all (.one (.one (.two .all (.two .all (.two (.one (.two .all (.two .all (.two .cut .all)))) .all)))))) .all)))))))) (by decide) (by kernel_rfl)
theorem shok121 : FOk Proofs.Tryz.prog (121, sh121) := fOkP (m := (.two .all (.two (.two .all (.one (.one (.two .all .cut)))) .all))) (by decide) (by kernel_rfl)
theorem shok122 : FOk Proofs.Tryz.prog (122, sh122) := fOkP (m := (.two .all (.two .all .cut))) (by decide) (by kernel_rfl)
theorem shok124 : FOk Proofs.Tryz.prog (124, sh124) := fOkP (m := (.two .all (.two .all (.two (.two .all (.two .cut .all)) (.two .all (.two (.one (.two .all (.two .cut .all))) .cut)))))) (by decide) (by kernel_rfl)
theorem shok125 : FOk Proofs.Tryz.prog (125, sh125) := fOk (by decide) (by kernel_rfl)
theorem shok126 : FOk Proofs.Tryz.prog (126, sh126) := fOkP (m := (.two .all (.two .all (.two .all (.two .all (.two (.two .all (.two .cut .all)) (.two .all (.two (.two .all (.one (.one (.two (.two .all (.two .all .cut)) (.two (.one (.two .all (.two (.two .all (.two .cut .all)) (.two .all (.two (.two .all (.two .cut .all)) .all))))) .cut))))) .cut)))))))) (by decide) (by kernel_rfl)
theorem shok127 : FOk Proofs.Tryz.prog (127, sh127) := fOk (by decide) (by kernel_rfl)
end Go.AM
