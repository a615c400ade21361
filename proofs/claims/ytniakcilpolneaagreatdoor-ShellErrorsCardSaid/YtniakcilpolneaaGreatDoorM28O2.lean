/-
  The machine's code is the program's, part 2. Conditions: none.
-/
import Derived.Test.YtniakcilpolneaaGreatDoorProg
import Derived.Test.YtniakcilpolneaaGreatDoorM28T
namespace Go.AM
open Go
set_option maxHeartbeats 0
set_option maxRecDepth 100000
theorem shok128 : FOk Proofs.Tryz.prog (128, sh128) := fOkP (m := (.two .all (.two (.two .all (.two .cut .all)) .all))) (by decide) (by kernel_rfl)
theorem shok129 : FOk Proofs.Tryz.prog (129, sh129) := fOk (by decide) (by kernel_rfl)
theorem shok130 : FOk Proofs.Tryz.prog (130, sh130) := fOkP (m := (.two .all (.two .all (.two .all (.two (.one (.two .all (.two .cut (.two .all (.two .cut (.two .all (.two .cut (.two .all (.two .cut (.two .all (.two .cut (.two .all (.two .cut .all))))))))))))) (.two (.two .all (.one (.one (.two .all (.two .all (.two (.one (.two .all (.two .all (.two .all (.two .cut .all))))) .all)))))) .all)))))) (by decide) (by kernel_rfl)
theorem shok131 : FOk Proofs.Tryz.prog (131, sh131) := fOk (by decide) (by kernel_rfl)
theorem shok132 : FOk Proofs.Tryz.prog (132, sh132) := fOkP (m := (.two .all (.two .all (.two (.two .all (.two .cut .all)) .all)))) (by decide) (by kernel_rfl)
theorem shok133 : FOk Proofs.Tryz.prog (133, sh133) := fOk (by decide) (by kernel_rfl)
theorem shok134 : FOk Proofs.Tryz.prog (134, sh134) := fOk (by decide) (by kernel_rfl)
theorem shok135 : FOk Proofs.Tryz.prog (135, sh135) := fOkP (m := (.two .all (.two .all (.two (.two .all (.one (.one (.two .all (.two .all .cut))))) .all)))) (by decide) (by kernel_rfl)
theorem shok136 : FOk Proofs.Tryz.prog (136, sh136) := fOkP (m := (.two .all (.two .all (.two (.two .all (.two (.two .all (.two (.two .all (.two .cut .all)) (.two .all (.two (.two .all (.one (.one (.two .all (.two .all (.two (.one (.two .all (.two .all (.two (.two .all (.two .cut .all)) .all)))) .all)))))) (.two (.two .all (.two .cut .all)) .all))))) .all)) .cut)))) (by decide) (by kernel_rfl)
theorem shok138 : FOk Proofs.Tryz.prog (138, sh138) := fOkP (m := (.two .all (.two .all (.two (.two .all (.two .cut .all)) .all)))) (by decide) (by kernel_rfl)
theorem shok139 : FOk Proofs.Tryz.prog (139, sh139) := fOk (by decide) (by kernel_rfl)
theorem shok140 : FOk Proofs.Tryz.prog (140, sh140) := fOk (by decide) (by kernel_rfl)
theorem shok141 : FOk Proofs.Tryz.prog (141, sh141) := fOkP (m := (.two .all (.two .all (.two .all (.two .cut .all))))) (by decide) (by kernel_rfl)
theorem shok142 : FOk Proofs.Tryz.prog (142, sh142) := fOkP (m := (.two .all (.two (.two .all (.two .cut .all)) .all))) (by decide) (by kernel_rfl)
theorem shok143 : FOk Proofs.Tryz.prog (143, sh143) := fOkP (m := (.two .all (.two (.two .all (.two .all (.two .cut .all))) .all))) (by decide) (by kernel_rfl)
theorem shok144 : FOk Proofs.Tryz.prog (144, sh144) := fOk (by decide) (by kernel_rfl)
theorem shok145 : FOk Proofs.Tryz.prog (145, sh145) := fOkP (m := (.two .all (.two (.two .all (.two .cut .all)) (.two (.two .all (.two .all (.two .cut .all))) .all)))) (by decide) (by kernel_rfl)
theorem shok146 : FOk Proofs.Tryz.prog (146, sh146) := fOkP (m := (.two .all (.two .all (.two .all (.two (.two .all (.one (.one (.two .all (.two .all .cut))))) (.two .all (.two (.two .all (.one (.one (.two .all (.two .all .cut))))) .all))))))) (by decide) (by kernel_rfl)
theorem shok147 : FOk Proofs.Tryz.prog (147, sh147) := fOkP (m := (.two .all (.two (.two .all (.two .all (.two .cut .all))) (.two (.one (.two .all (.two .cut (.two .all (.two .cut .all))))) .all)))) (by decide) (by kernel_rfl)
theorem shok148 : FOk Proofs.Tryz.prog (148, sh148) := fOk (by decide) (by kernel_rfl)
theorem shok149 : FOk Proofs.Tryz.prog (149, sh149) := fOkP (m := (.two .all (.two .all (.one (.one (.one (.two .all (.two .all .cut)))))))) (by decide) (by kernel_rfl)
theorem shok150 : FOk Proofs.Tryz.prog (150, sh150) := fOkP (m := (.two .all (.two (.two .cut .all) .all))) (by decide) (by kernel_rfl)
theorem shok151 : FOk Proofs.Tryz.prog (151, sh151) := fOkP (m := (.two .all (.two (.two .all (.two .cut .all)) .all))) (by decide) (by kernel_rfl)
theorem shok152 : FOk Proofs.Tryz.prog (152, sh152) := fOkP (m := (.two .all (.two (.two .all (.two .cut .all)) .all))) (by decide) (by kernel_rfl)
theorem shok153 : FOk Proofs.Tryz.prog (153, sh153) := fOkP (m := (.two .all (.two (.two .all (.two .all (.two .cut .all))) (.two .all (.two (.one (.two .all (.two .cut (.two .all (.two .cut .all))))) (.two .all (.two .all (.two (.two .all (.one (.two .all (.two .all .cut)))) .cut)))))))) (by decide) (by kernel_rfl)
theorem shok154 : FOk Proofs.Tryz.prog (154, sh154) := fOkP (m := (.two .all (.two .all (.two .all .cut)))) (by decide) (by kernel_rfl)
theorem shok155 : FOk Proofs.Tryz.prog (155, sh155) := fOk (by decide) (by kernel_rfl)
theorem shok163 : FOk Proofs.Tryz.prog (163, sh163) := fOk (by decide) (by kernel_rfl)
theorem shok194 : FOk Proofs.Tryz.prog (194, sh194) := fOkP (m := (.two .all (.two (.two .all (.two .cut .all)) (.two (.two .all (.two .cut .all)) (.two (.two .all (.two .cut .all)) .all))))) (by decide) (by kernel_rfl)
theorem shok196 : FOk Proofs.Tryz.prog (196, sh196) := fOk (by decide) (by kernel_rfl)
theorem shok197 : FOk Proofs.Tryz.prog (197, sh197) := fOkP (m := (.two .all (.two (.two .cut .all) .all))) (by decide) (by kernel_rfl)
theorem shok198 : FOk Proofs.Tryz.prog (198, sh198) := fOk (by decide) (by kernel_rfl)
theorem shok200 : FOk Proofs.Tryz.prog (200, sh200) := fOkP (m := (.two .all (.two (.two .all (.two .cut .all)) .all))) (by decide) (by kernel_rfl)
theorem shok201 : FOk Proofs.Tryz.prog (201, sh201) := fOk (by decide) (by kernel_rfl)
theorem shok207 : FOk Proofs.Tryz.prog (207, sh207) := fOk (by decide) (by kernel_rfl)
theorem shok208 : FOk Proofs.Tryz.prog (208, sh208) := fOkP (m := (.two .all (.two (.two .all (.two .cut .all)) (.two (.two .all (.one (.one (.two .all (.two .all .cut))))) .all)))) (by decide) (by kernel_rfl)
theorem shok210 : FOk Proofs.Tryz.prog (210, sh210) := fOkP (m := (.two .all (.two .all (.two (.two .all (.one (.one (.two .all (.two .all .cut))))) .all)))) (by decide) (by kernel_rfl)
theorem shok211 : FOk Proofs.Tryz.prog (211, sh211) := fOkP (m := (.two .all (.two .all .cut))) (by decide) (by kernel_rfl)
theorem shok215 : FOk Proofs.Tryz.prog (215, sh215) := fOkP (m := (.two .all (.two .all .cut))) (by decide) (by kernel_rfl)
theorem shok216 : FOk Proofs.Tryz.prog (216, sh216) := fOkP (m := (.two .all (.two .all (.two (.two .all (.one (.one (.two .all (.two .all .cut))))) .all)))) (by decide) (by kernel_rfl)
theorem shok217 : FOk Proofs.Tryz.prog (217, sh217) := fOkP (m := (.two .all (.two (.two .all (.two .cut .all)) (.two .all (.two .all (.two .all (.two .all (.two .all (.two .all (.two (.two .all (.one (.one (.two .all (.two .all .cut))))) (.two .all (.two (.two .all (.one (.one (.two .all (.two .all .cut))))) (.two .all (.two (.two .all (.two .cut .all)) .all)))))))))))))) (by decide) (by kernel_rfl)
end Go.AM
