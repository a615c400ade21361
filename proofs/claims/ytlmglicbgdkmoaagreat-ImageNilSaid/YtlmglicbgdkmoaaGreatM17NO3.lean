/-
  The machine's code is the program's, part 3. Conditions: none.
-/
import Derived.Test.YtlmglicbgdkmoaaGreatProg
import Derived.Test.YtlmglicbgdkmoaaGreatM17NT
namespace Go.AM
open Go
set_option maxHeartbeats 0
set_option maxRecDepth 100000
theorem maok259 : FOk Proofs.Tryz.prog (259, ma259) := fOk (by decide) (by kernel_rfl)
theorem maok260 : FOk Proofs.Tryz.prog (260, ma260) := fOk (by decide) (by kernel_rfl)
theorem maok261 : FOk Proofs.Tryz.prog (261, ma261) := fOk (by decide) (by kernel_rfl)
theorem maok262 : FOk Proofs.Tryz.prog (262, ma262) := fOk (by decide) (by kernel_rfl)
theorem maok265 : FOk Proofs.Tryz.prog (265, ma265) := fOk (by decide) (by kernel_rfl)
theorem maok327 : FOk Proofs.Tryz.prog (327, ma327) := fOk (by decide) (by kernel_rfl)
theorem maok328 : FOk Proofs.Tryz.prog (328, ma328) := fOk (by decide) (by kernel_rfl)
theorem maok329 : FOk Proofs.Tryz.prog (329, ma329) := fOk (by decide) (by kernel_rfl)
theorem maok330 : FOk Proofs.Tryz.prog (330, ma330) := fOk (by decide) (by kernel_rfl)
theorem maok331 : FOk Proofs.Tryz.prog (331, ma331) := fOk (by decide) (by kernel_rfl)
theorem maok332 : FOk Proofs.Tryz.prog (332, ma332) := fOk (by decide) (by kernel_rfl)
theorem maok333 : FOk Proofs.Tryz.prog (333, ma333) := fOk (by decide) (by kernel_rfl)
theorem maok334 : FOk Proofs.Tryz.prog (334, ma334) := fOk (by decide) (by kernel_rfl)
theorem maok335 : FOk Proofs.Tryz.prog (335, ma335) := fOk (by decide) (by kernel_rfl)
theorem maok336 : FOk Proofs.Tryz.prog (336, ma336) := fOk (by decide) (by kernel_rfl)
theorem maok337 : FOk Proofs.Tryz.prog (337, ma337) := fOk (by decide) (by kernel_rfl)
theorem maok338 : FOk Proofs.Tryz.prog (338, ma338) := fOk (by decide) (by kernel_rfl)
theorem maok339 : FOk Proofs.Tryz.prog (339, ma339) := fOk (by decide) (by kernel_rfl)
theorem maok340 : FOk Proofs.Tryz.prog (340, ma340) := fOk (by decide) (by kernel_rfl)
theorem maok369 : FOk Proofs.Tryz.prog (369, ma369) := fOk (by decide) (by kernel_rfl)
theorem maok370 : FOk Proofs.Tryz.prog (370, ma370) := fOk (by decide) (by kernel_rfl)
theorem maok371 : FOk Proofs.Tryz.prog (371, ma371) := fOk (by decide) (by kernel_rfl)
theorem maok372 : FOk Proofs.Tryz.prog (372, ma372) := fOk (by decide) (by kernel_rfl)
theorem maok373 : FOk Proofs.Tryz.prog (373, ma373) := fOk (by decide) (by kernel_rfl)
theorem maok374 : FOk Proofs.Tryz.prog (374, ma374) := fOk (by decide) (by kernel_rfl)
theorem maok375 : FOk Proofs.Tryz.prog (375, ma375) := fOk (by decide) (by kernel_rfl)
theorem maok376 : FOk Proofs.Tryz.prog (376, ma376) := fOk (by decide) (by kernel_rfl)
theorem maok384 : FOk Proofs.Tryz.prog (384, ma384) := fOk (by decide) (by kernel_rfl)
theorem maok385 : FOk Proofs.Tryz.prog (385, ma385) := fOk (by decide) (by kernel_rfl)
theorem maok386 : FOk Proofs.Tryz.prog (386, ma386) := fOk (by decide) (by kernel_rfl)
theorem maok387 : FOk Proofs.Tryz.prog (387, ma387) := fOk (by decide) (by kernel_rfl)
theorem maok388 : FOk Proofs.Tryz.prog (388, ma388) := fOk (by decide) (by kernel_rfl)
theorem maok389 : FOk Proofs.Tryz.prog (389, ma389) := fOk (by decide) (by kernel_rfl)
theorem maok390 : FOk Proofs.Tryz.prog (390, ma390) := fOk (by decide) (by kernel_rfl)
theorem maok391 : FOk Proofs.Tryz.prog (391, ma391) := fOk (by decide) (by kernel_rfl)
theorem maok393 : FOk Proofs.Tryz.prog (393, ma393) := fOk (by decide) (by kernel_rfl)
theorem maok394 : FOk Proofs.Tryz.prog (394, ma394) := fOk (by decide) (by kernel_rfl)
theorem maok396 : FOk Proofs.Tryz.prog (396, ma396) := fOk (by decide) (by kernel_rfl)
theorem maok397 : FOk Proofs.Tryz.prog (397, ma397) := fOk (by decide) (by kernel_rfl)
theorem maok398 : FOk Proofs.Tryz.prog (398, ma398) := fOk (by decide) (by kernel_rfl)
theorem maok404 : FOk Proofs.Tryz.prog (404, ma404) := fOk (by decide) (by kernel_rfl)
theorem maok407 : FOk Proofs.Tryz.prog (407, ma407) := fOk (by decide) (by kernel_rfl)
theorem maok408 : FOk Proofs.Tryz.prog (408, ma408) := fOk (by decide) (by kernel_rfl)
theorem maok416 : FOk Proofs.Tryz.prog (416, ma416) := fOk (by decide) (by kernel_rfl)
theorem malok1600 : LOk Proofs.Tryz.prog (1600, mal1600) := ⟨by decide, by kernel_rfl⟩
theorem malok1616 : LOk Proofs.Tryz.prog (1616, mal1616) := ⟨by decide, by kernel_rfl⟩
theorem malok1840 : LOk Proofs.Tryz.prog (1840, mal1840) := ⟨by decide, by kernel_rfl⟩
theorem malok5232 : LOk Proofs.Tryz.prog (5232, mal5232) := ⟨by decide, by kernel_rfl⟩
end Go.AM
