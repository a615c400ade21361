/-
  The machine's code is the program's, part 3. Conditions: none.
-/
import Derived.Test.YtniakcilpolneaaGreatDoorProg
import Derived.Test.YtniakcilpolneaaGreatDoorM28T
namespace Go.AM
open Go
set_option maxHeartbeats 0
set_option maxRecDepth 100000
theorem shok218 : FOk Proofs.Tryz.prog (218, sh218) := ⟨by decide, sh218p, by kernel_rfl, (.seq (.refl _) (.seq (.refl _) (.seq (.spl free_ok) (.refl _))))⟩
theorem shok219 : FOk Proofs.Tryz.prog (219, sh219) := fOkP (m := (.two .all (.two .all (.one (.one (.one (.two .all (.two .all (.two .all (.two (.two .all (.two .cut .all)) .all)))))))))) (by decide) (by kernel_rfl)
theorem shok220 : FOk Proofs.Tryz.prog (220, sh220) := fOkP (m := (.two .all (.two (.two .all (.two .cut .all)) (.two .all (.two (.two .all (.one (.one (.two (.two .all (.two .all .cut)) (.two (.one (.two (.two .all (.two .cut .all)) .all)) .all))))) .cut))))) (by decide) (by kernel_rfl)
theorem shok221 : FOk Proofs.Tryz.prog (221, sh221) := fOk (by decide) (by kernel_rfl)
theorem shok222 : FOk Proofs.Tryz.prog (222, sh222) := fOk (by decide) (by kernel_rfl)
theorem shok223 : FOk Proofs.Tryz.prog (223, sh223) := fOk (by decide) (by kernel_rfl)
theorem shok224 : FOk Proofs.Tryz.prog (224, sh224) := fOkP (m := (.two .all (.two .all (.two (.two .all (.two .cut .all)) .all)))) (by decide) (by kernel_rfl)
theorem shok225 : FOk Proofs.Tryz.prog (225, sh225) := fOk (by decide) (by kernel_rfl)
theorem shok226 : FOk Proofs.Tryz.prog (226, sh226) := fOk (by decide) (by kernel_rfl)
theorem shok227 : FOk Proofs.Tryz.prog (227, sh227) := fOk (by decide) (by kernel_rfl)
theorem shok233 : FOk Proofs.Tryz.prog (233, sh233) := fOk (by decide) (by kernel_rfl)
theorem shok234 : FOk Proofs.Tryz.prog (234, sh234) := fOk (by decide) (by kernel_rfl)
theorem shok235 : FOk Proofs.Tryz.prog (235, sh235) := fOkP (m := (.two .all (.two (.one (.two .all (.two .cut (.two .all (.two .cut .all))))) .all))) (by decide) (by kernel_rfl)
theorem shok236 : FOk Proofs.Tryz.prog (236, sh236) := fOk (by decide) (by kernel_rfl)
theorem shok237 : FOk Proofs.Tryz.prog (237, sh237) := fOkP (m := (.two .all (.one (.one (.two .all .cut))))) (by decide) (by kernel_rfl)
theorem shok247 : FOk Proofs.Tryz.prog (247, sh247) := fOkP (m := (.two .all (.two .all .cut))) (by decide) (by kernel_rfl)
theorem shok248 : FOk Proofs.Tryz.prog (248, sh248) := fOkP (m := (.two .all (.two .all .cut))) (by decide) (by kernel_rfl)
theorem shok257 : FOk Proofs.Tryz.prog (257, sh257) := fOkP (m := (.two .all (.two .all (.two .all (.two (.two .all (.one (.one (.two .all (.two (.one (.two .all (.two .all (.two .cut .all)))) .all))))) .all))))) (by decide) (by kernel_rfl)
theorem shok258 : FOk Proofs.Tryz.prog (258, sh258) := fOk (by decide) (by kernel_rfl)
theorem shok293 : FOk Proofs.Tryz.prog (293, sh293) := fOkP (m := (.two .all (.one (.one (.two .all (.two .all .cut)))))) (by decide) (by kernel_rfl)
theorem shok302 : FOk Proofs.Tryz.prog (302, sh302) := fOk (by decide) (by kernel_rfl)
theorem shok303 : FOk Proofs.Tryz.prog (303, sh303) := fOk (by decide) (by kernel_rfl)
theorem shok304 : FOk Proofs.Tryz.prog (304, sh304) := fOk (by decide) (by kernel_rfl)
theorem shok306 : FOk Proofs.Tryz.prog (306, sh306) := fOk (by decide) (by kernel_rfl)
theorem shok307 : FOk Proofs.Tryz.prog (307, sh307) := fOkP (m := (.two .all (.two (.two .all (.two .cut .all)) .all))) (by decide) (by kernel_rfl)
theorem shok308 : FOk Proofs.Tryz.prog (308, sh308) := fOk (by decide) (by kernel_rfl)
theorem shok309 : FOk Proofs.Tryz.prog (309, sh309) := fOkP (m := (.two .all (.two (.one (.two .all (.two .cut (.two .all (.two .cut .all))))) (.two .all (.two (.two .all (.one (.one (.two .all (.two .all (.two (.one (.two .all (.two .all (.two (.two .all (.two .cut .all)) .all)))) .all)))))) .all))))) (by decide) (by kernel_rfl)
theorem shok310 : FOk Proofs.Tryz.prog (310, sh310) := fOkP (m := (.two .all (.one (.one (.two .all (.two .all .cut)))))) (by decide) (by kernel_rfl)
theorem shok315 : FOk Proofs.Tryz.prog (315, sh315) := fOk (by decide) (by kernel_rfl)
theorem shok316 : FOk Proofs.Tryz.prog (316, sh316) := fOk (by decide) (by kernel_rfl)
theorem shok317 : FOk Proofs.Tryz.prog (317, sh317) := fOk (by decide) (by kernel_rfl)
theorem shok328 : FOk Proofs.Tryz.prog (328, sh328) := fOkP (m := (.two .all (.two (.two .all (.one (.one (.two .all (.two .all (.two .all .cut)))))) .all))) (by decide) (by kernel_rfl)
theorem shok338 : FOk Proofs.Tryz.prog (338, sh338) := fOk (by decide) (by kernel_rfl)
theorem shok354 : FOk Proofs.Tryz.prog (354, sh354) := fOkP (m := (.two .all (.two .all (.two .all (.two (.two .all (.two .cut .all)) .all))))) (by decide) (by kernel_rfl)
theorem shok355 : FOk Proofs.Tryz.prog (355, sh355) := fOkP (m := (.two .all (.two (.two .all (.two .cut .all)) (.two .all (.two .all (.two (.two .all (.one (.one (.two .all (.two .all .cut))))) .all)))))) (by decide) (by kernel_rfl)
theorem shok356 : FOk Proofs.Tryz.prog (356, sh356) := fOk (by decide) (by kernel_rfl)
theorem shok359 : FOk Proofs.Tryz.prog (359, sh359) := fOkP (m := (.two .all (.two .all .cut))) (by decide) (by kernel_rfl)
theorem shok360 : FOk Proofs.Tryz.prog (360, sh360) := fOkP (m := (.two .all (.two .all (.two (.two .all (.two .cut .all)) .all)))) (by decide) (by kernel_rfl)
theorem shok362 : FOk Proofs.Tryz.prog (362, sh362) := fOkP (m := (.two .all (.two .all .cut))) (by decide) (by kernel_rfl)
theorem shlok1184 : LOk Proofs.Tryz.prog (1184, shl1184) := ⟨by decide, by kernel_rfl⟩
end Go.AM
