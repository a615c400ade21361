/-
  The machine's code is the program's, part 3. Conditions: none.
-/
import Derived.Test.YtlmglicbgdkmoaaGreatProg
import Derived.Test.YtlmglicbgdkmoaaGreatM18ET
namespace Go.AM
open Go
set_option maxHeartbeats 0
set_option maxRecDepth 100000
theorem mbok284 : FOk Proofs.Tryz.prog (284, mb284) := fOk (by decide) (by kernel_rfl)
theorem mbok285 : FOk Proofs.Tryz.prog (285, mb285) := fOk (by decide) (by kernel_rfl)
theorem mbok286 : FOk Proofs.Tryz.prog (286, mb286) := fOk (by decide) (by kernel_rfl)
theorem mbok287 : FOk Proofs.Tryz.prog (287, mb287) := fOk (by decide) (by kernel_rfl)
theorem mbok288 : FOk Proofs.Tryz.prog (288, mb288) := fOk (by decide) (by kernel_rfl)
theorem mbok289 : FOk Proofs.Tryz.prog (289, mb289) := fOk (by decide) (by kernel_rfl)
theorem mbok290 : FOk Proofs.Tryz.prog (290, mb290) := fOk (by decide) (by kernel_rfl)
theorem mbok291 : FOk Proofs.Tryz.prog (291, mb291) := fOk (by decide) (by kernel_rfl)
theorem mbok292 : FOk Proofs.Tryz.prog (292, mb292) := fOk (by decide) (by kernel_rfl)
theorem mbok293 : FOk Proofs.Tryz.prog (293, mb293) := fOk (by decide) (by kernel_rfl)
theorem mbok327 : FOk Proofs.Tryz.prog (327, mb327) := fOk (by decide) (by kernel_rfl)
theorem mbok328 : FOk Proofs.Tryz.prog (328, mb328) := fOk (by decide) (by kernel_rfl)
theorem mbok329 : FOk Proofs.Tryz.prog (329, mb329) := fOk (by decide) (by kernel_rfl)
theorem mbok330 : FOk Proofs.Tryz.prog (330, mb330) := fOk (by decide) (by kernel_rfl)
theorem mbok331 : FOk Proofs.Tryz.prog (331, mb331) := fOk (by decide) (by kernel_rfl)
theorem mbok332 : FOk Proofs.Tryz.prog (332, mb332) := fOk (by decide) (by kernel_rfl)
theorem mbok333 : FOk Proofs.Tryz.prog (333, mb333) := fOk (by decide) (by kernel_rfl)
theorem mbok334 : FOk Proofs.Tryz.prog (334, mb334) := fOk (by decide) (by kernel_rfl)
theorem mbok335 : FOk Proofs.Tryz.prog (335, mb335) := fOk (by decide) (by kernel_rfl)
theorem mbok336 : FOk Proofs.Tryz.prog (336, mb336) := fOk (by decide) (by kernel_rfl)
theorem mbok337 : FOk Proofs.Tryz.prog (337, mb337) := fOk (by decide) (by kernel_rfl)
theorem mbok338 : FOk Proofs.Tryz.prog (338, mb338) := fOk (by decide) (by kernel_rfl)
theorem mbok339 : FOk Proofs.Tryz.prog (339, mb339) := fOk (by decide) (by kernel_rfl)
theorem mbok343 : FOk Proofs.Tryz.prog (343, mb343) := fOk (by decide) (by kernel_rfl)
theorem mbok344 : FOk Proofs.Tryz.prog (344, mb344) := fOk (by decide) (by kernel_rfl)
theorem mbok345 : FOk Proofs.Tryz.prog (345, mb345) := fOk (by decide) (by kernel_rfl)
theorem mbok346 : FOk Proofs.Tryz.prog (346, mb346) := fOk (by decide) (by kernel_rfl)
theorem mbok347 : FOk Proofs.Tryz.prog (347, mb347) := fOk (by decide) (by kernel_rfl)
theorem mbok348 : FOk Proofs.Tryz.prog (348, mb348) := fOk (by decide) (by kernel_rfl)
theorem mbok349 : FOk Proofs.Tryz.prog (349, mb349) := fOk (by decide) (by kernel_rfl)
theorem mbok350 : FOk Proofs.Tryz.prog (350, mb350) := fOk (by decide) (by kernel_rfl)
theorem mbok351 : FOk Proofs.Tryz.prog (351, mb351) := fOk (by decide) (by kernel_rfl)
theorem mbok352 : FOk Proofs.Tryz.prog (352, mb352) := fOk (by decide) (by kernel_rfl)
theorem mbok353 : FOk Proofs.Tryz.prog (353, mb353) := fOk (by decide) (by kernel_rfl)
theorem mbok354 : FOk Proofs.Tryz.prog (354, mb354) := fOk (by decide) (by kernel_rfl)
theorem mbok355 : FOk Proofs.Tryz.prog (355, mb355) := fOk (by decide) (by kernel_rfl)
theorem mbok356 : FOk Proofs.Tryz.prog (356, mb356) := fOk (by decide) (by kernel_rfl)
theorem mbok357 : FOk Proofs.Tryz.prog (357, mb357) := fOk (by decide) (by kernel_rfl)
theorem mbok369 : FOk Proofs.Tryz.prog (369, mb369) := fOk (by decide) (by kernel_rfl)
theorem mbok370 : FOk Proofs.Tryz.prog (370, mb370) := fOk (by decide) (by kernel_rfl)
theorem mbok371 : FOk Proofs.Tryz.prog (371, mb371) := fOk (by decide) (by kernel_rfl)
theorem mbok372 : FOk Proofs.Tryz.prog (372, mb372) := fOk (by decide) (by kernel_rfl)
theorem mbok373 : FOk Proofs.Tryz.prog (373, mb373) := fOk (by decide) (by kernel_rfl)
theorem mbok374 : FOk Proofs.Tryz.prog (374, mb374) := fOk (by decide) (by kernel_rfl)
theorem mbok377 : FOk Proofs.Tryz.prog (377, mb377) := fOk (by decide) (by kernel_rfl)
theorem mbok378 : FOk Proofs.Tryz.prog (378, mb378) := fOk (by decide) (by kernel_rfl)
theorem mbok379 : FOk Proofs.Tryz.prog (379, mb379) := fOk (by decide) (by kernel_rfl)
theorem mbok380 : FOk Proofs.Tryz.prog (380, mb380) := fOk (by decide) (by kernel_rfl)
theorem mbok381 : FOk Proofs.Tryz.prog (381, mb381) := fOk (by decide) (by kernel_rfl)
theorem mbok384 : FOk Proofs.Tryz.prog (384, mb384) := fOk (by decide) (by kernel_rfl)
theorem mbok385 : FOk Proofs.Tryz.prog (385, mb385) := fOk (by decide) (by kernel_rfl)
theorem mbok386 : FOk Proofs.Tryz.prog (386, mb386) := fOk (by decide) (by kernel_rfl)
theorem mbok392 : FOk Proofs.Tryz.prog (392, mb392) := fOk (by decide) (by kernel_rfl)
theorem mbok393 : FOk Proofs.Tryz.prog (393, mb393) := fOk (by decide) (by kernel_rfl)
theorem mbok394 : FOk Proofs.Tryz.prog (394, mb394) := fOk (by decide) (by kernel_rfl)
theorem mbok396 : FOk Proofs.Tryz.prog (396, mb396) := fOk (by decide) (by kernel_rfl)
theorem mbok399 : FOk Proofs.Tryz.prog (399, mb399) := fOk (by decide) (by kernel_rfl)
theorem mbok404 : FOk Proofs.Tryz.prog (404, mb404) := fOk (by decide) (by kernel_rfl)
theorem mbok407 : FOk Proofs.Tryz.prog (407, mb407) := fOk (by decide) (by kernel_rfl)
theorem mblok1600 : LOk Proofs.Tryz.prog (1600, mbl1600) := ⟨by decide, by kernel_rfl⟩
theorem mblok1616 : LOk Proofs.Tryz.prog (1616, mbl1616) := ⟨by decide, by kernel_rfl⟩
theorem mblok1840 : LOk Proofs.Tryz.prog (1840, mbl1840) := ⟨by decide, by kernel_rfl⟩
theorem mblok5232 : LOk Proofs.Tryz.prog (5232, mbl5232) := ⟨by decide, by kernel_rfl⟩
end Go.AM
