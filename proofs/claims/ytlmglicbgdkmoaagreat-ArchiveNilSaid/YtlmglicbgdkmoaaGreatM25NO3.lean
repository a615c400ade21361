/-
  The machine's code is the program's, part 3. Conditions: none.
-/
import Derived.Test.YtlmglicbgdkmoaaGreatProg
import Derived.Test.YtlmglicbgdkmoaaGreatM25NT
namespace Go.AM
open Go
set_option maxHeartbeats 0
set_option maxRecDepth 100000
theorem mdok309 : FOk Proofs.Tryz.prog (309, md309) := fOk (by decide) (by kernel_rfl)
theorem mdok310 : FOk Proofs.Tryz.prog (310, md310) := fOk (by decide) (by kernel_rfl)
theorem mdok311 : FOk Proofs.Tryz.prog (311, md311) := fOk (by decide) (by kernel_rfl)
theorem mdok312 : FOk Proofs.Tryz.prog (312, md312) := fOk (by decide) (by kernel_rfl)
theorem mdok313 : FOk Proofs.Tryz.prog (313, md313) := fOk (by decide) (by kernel_rfl)
theorem mdok314 : FOk Proofs.Tryz.prog (314, md314) := fOk (by decide) (by kernel_rfl)
theorem mdok315 : FOk Proofs.Tryz.prog (315, md315) := fOk (by decide) (by kernel_rfl)
theorem mdok316 : FOk Proofs.Tryz.prog (316, md316) := fOk (by decide) (by kernel_rfl)
theorem mdok317 : FOk Proofs.Tryz.prog (317, md317) := fOk (by decide) (by kernel_rfl)
theorem mdok318 : FOk Proofs.Tryz.prog (318, md318) := fOk (by decide) (by kernel_rfl)
theorem mdok319 : FOk Proofs.Tryz.prog (319, md319) := fOk (by decide) (by kernel_rfl)
theorem mdok320 : FOk Proofs.Tryz.prog (320, md320) := fOk (by decide) (by kernel_rfl)
theorem mdok321 : FOk Proofs.Tryz.prog (321, md321) := fOk (by decide) (by kernel_rfl)
theorem mdok322 : FOk Proofs.Tryz.prog (322, md322) := fOk (by decide) (by kernel_rfl)
theorem mdok323 : FOk Proofs.Tryz.prog (323, md323) := fOk (by decide) (by kernel_rfl)
theorem mdok324 : FOk Proofs.Tryz.prog (324, md324) := fOk (by decide) (by kernel_rfl)
theorem mdok325 : FOk Proofs.Tryz.prog (325, md325) := fOk (by decide) (by kernel_rfl)
theorem mdok326 : FOk Proofs.Tryz.prog (326, md326) := fOk (by decide) (by kernel_rfl)
theorem mdok327 : FOk Proofs.Tryz.prog (327, md327) := fOk (by decide) (by kernel_rfl)
theorem mdok328 : FOk Proofs.Tryz.prog (328, md328) := fOk (by decide) (by kernel_rfl)
theorem mdok329 : FOk Proofs.Tryz.prog (329, md329) := fOk (by decide) (by kernel_rfl)
theorem mdok330 : FOk Proofs.Tryz.prog (330, md330) := fOk (by decide) (by kernel_rfl)
theorem mdok331 : FOk Proofs.Tryz.prog (331, md331) := fOk (by decide) (by kernel_rfl)
theorem mdok332 : FOk Proofs.Tryz.prog (332, md332) := fOk (by decide) (by kernel_rfl)
theorem mdok333 : FOk Proofs.Tryz.prog (333, md333) := fOk (by decide) (by kernel_rfl)
theorem mdok334 : FOk Proofs.Tryz.prog (334, md334) := fOk (by decide) (by kernel_rfl)
theorem mdok335 : FOk Proofs.Tryz.prog (335, md335) := fOk (by decide) (by kernel_rfl)
theorem mdok336 : FOk Proofs.Tryz.prog (336, md336) := fOk (by decide) (by kernel_rfl)
theorem mdok337 : FOk Proofs.Tryz.prog (337, md337) := fOk (by decide) (by kernel_rfl)
theorem mdok338 : FOk Proofs.Tryz.prog (338, md338) := fOk (by decide) (by kernel_rfl)
theorem mdok339 : FOk Proofs.Tryz.prog (339, md339) := fOk (by decide) (by kernel_rfl)
theorem mdok340 : FOk Proofs.Tryz.prog (340, md340) := fOk (by decide) (by kernel_rfl)
theorem mdok358 : FOk Proofs.Tryz.prog (358, md358) := fOk (by decide) (by kernel_rfl)
theorem mdok359 : FOk Proofs.Tryz.prog (359, md359) := fOk (by decide) (by kernel_rfl)
theorem mdok360 : FOk Proofs.Tryz.prog (360, md360) := fOk (by decide) (by kernel_rfl)
theorem mdok361 : FOk Proofs.Tryz.prog (361, md361) := fOk (by decide) (by kernel_rfl)
theorem mdok362 : FOk Proofs.Tryz.prog (362, md362) := fOk (by decide) (by kernel_rfl)
theorem mdok363 : FOk Proofs.Tryz.prog (363, md363) := fOk (by decide) (by kernel_rfl)
theorem mdok364 : FOk Proofs.Tryz.prog (364, md364) := fOk (by decide) (by kernel_rfl)
theorem mdok365 : FOk Proofs.Tryz.prog (365, md365) := fOk (by decide) (by kernel_rfl)
theorem mdok366 : FOk Proofs.Tryz.prog (366, md366) := fOk (by decide) (by kernel_rfl)
theorem mdok367 : FOk Proofs.Tryz.prog (367, md367) := fOk (by decide) (by kernel_rfl)
theorem mdok368 : FOk Proofs.Tryz.prog (368, md368) := fOk (by decide) (by kernel_rfl)
theorem mdok369 : FOk Proofs.Tryz.prog (369, md369) := fOk (by decide) (by kernel_rfl)
theorem mdok370 : FOk Proofs.Tryz.prog (370, md370) := fOk (by decide) (by kernel_rfl)
theorem mdok371 : FOk Proofs.Tryz.prog (371, md371) := fOk (by decide) (by kernel_rfl)
theorem mdok372 : FOk Proofs.Tryz.prog (372, md372) := fOk (by decide) (by kernel_rfl)
theorem mdok373 : FOk Proofs.Tryz.prog (373, md373) := fOk (by decide) (by kernel_rfl)
theorem mdok374 : FOk Proofs.Tryz.prog (374, md374) := fOk (by decide) (by kernel_rfl)
theorem mdok375 : FOk Proofs.Tryz.prog (375, md375) := fOk (by decide) (by kernel_rfl)
theorem mdok376 : FOk Proofs.Tryz.prog (376, md376) := fOk (by decide) (by kernel_rfl)
theorem mdok382 : FOk Proofs.Tryz.prog (382, md382) := fOk (by decide) (by kernel_rfl)
theorem mdok384 : FOk Proofs.Tryz.prog (384, md384) := fOk (by decide) (by kernel_rfl)
theorem mdok385 : FOk Proofs.Tryz.prog (385, md385) := fOk (by decide) (by kernel_rfl)
theorem mdok386 : FOk Proofs.Tryz.prog (386, md386) := fOk (by decide) (by kernel_rfl)
theorem mdok387 : FOk Proofs.Tryz.prog (387, md387) := fOk (by decide) (by kernel_rfl)
theorem mdok388 : FOk Proofs.Tryz.prog (388, md388) := fOk (by decide) (by kernel_rfl)
theorem mdok389 : FOk Proofs.Tryz.prog (389, md389) := fOk (by decide) (by kernel_rfl)
theorem mdok390 : FOk Proofs.Tryz.prog (390, md390) := fOk (by decide) (by kernel_rfl)
theorem mdok391 : FOk Proofs.Tryz.prog (391, md391) := fOk (by decide) (by kernel_rfl)
theorem mdok393 : FOk Proofs.Tryz.prog (393, md393) := fOk (by decide) (by kernel_rfl)
theorem mdok394 : FOk Proofs.Tryz.prog (394, md394) := fOk (by decide) (by kernel_rfl)
theorem mdok396 : FOk Proofs.Tryz.prog (396, md396) := fOk (by decide) (by kernel_rfl)
theorem mdok397 : FOk Proofs.Tryz.prog (397, md397) := fOk (by decide) (by kernel_rfl)
theorem mdok398 : FOk Proofs.Tryz.prog (398, md398) := fOk (by decide) (by kernel_rfl)
theorem mdok404 : FOk Proofs.Tryz.prog (404, md404) := fOk (by decide) (by kernel_rfl)
theorem mdok407 : FOk Proofs.Tryz.prog (407, md407) := fOk (by decide) (by kernel_rfl)
theorem mdok408 : FOk Proofs.Tryz.prog (408, md408) := fOk (by decide) (by kernel_rfl)
theorem mdok416 : FOk Proofs.Tryz.prog (416, md416) := fOk (by decide) (by kernel_rfl)
theorem mdlok448 : LOk Proofs.Tryz.prog (448, mdl448) := ⟨by decide, by kernel_rfl⟩
theorem mdlok1600 : LOk Proofs.Tryz.prog (1600, mdl1600) := ⟨by decide, by kernel_rfl⟩
theorem mdlok1616 : LOk Proofs.Tryz.prog (1616, mdl1616) := ⟨by decide, by kernel_rfl⟩
theorem mdlok1840 : LOk Proofs.Tryz.prog (1840, mdl1840) := ⟨by decide, by kernel_rfl⟩
theorem mdlok2256 : LOk Proofs.Tryz.prog (2256, mdl2256) := ⟨by decide, by kernel_rfl⟩
theorem mdlok3312 : LOk Proofs.Tryz.prog (3312, mdl3312) := ⟨by decide, by kernel_rfl⟩
theorem mdlok3408 : LOk Proofs.Tryz.prog (3408, mdl3408) := ⟨by decide, by kernel_rfl⟩
theorem mdlok5232 : LOk Proofs.Tryz.prog (5232, mdl5232) := ⟨by decide, by kernel_rfl⟩
end Go.AM
