/-
  The machine's code is the program's, part 0. Conditions: none.
-/
import Derived.Test.YtlmglicbgdkmoaaGreatProg
import Derived.Test.YtlmglicbgdkmoaaGreatM17NT
namespace Go.AM
open Go
set_option maxHeartbeats 0
set_option maxRecDepth 100000
theorem maok3 : FOk Proofs.Tryz.prog (3, ma3) := fOk (by decide) (by kernel_rfl)
theorem maok7 : FOk Proofs.Tryz.prog (7, ma7) := fOk (by decide) (by kernel_rfl)
theorem maok8 : FOk Proofs.Tryz.prog (8, ma8) := fOk (by decide) (by kernel_rfl)
theorem maok9 : FOk Proofs.Tryz.prog (9, ma9) := fOk (by decide) (by kernel_rfl)
theorem maok10 : FOk Proofs.Tryz.prog (10, ma10) := fOk (by decide) (by kernel_rfl)
theorem maok11 : FOk Proofs.Tryz.prog (11, ma11) := fOk (by decide) (by kernel_rfl)
theorem maok12 : FOk Proofs.Tryz.prog (12, ma12) := fOk (by decide) (by kernel_rfl)
theorem maok13 : FOk Proofs.Tryz.prog (13, ma13) := fOk (by decide) (by kernel_rfl)
theorem maok14 : FOk Proofs.Tryz.prog (14, ma14) := fOk (by decide) (by kernel_rfl)
theorem maok15 : FOk Proofs.Tryz.prog (15, ma15) := fOk (by decide) (by kernel_rfl)
theorem maok16 : FOk Proofs.Tryz.prog (16, ma16) := fOk (by decide) (by kernel_rfl)
theorem maok17 : FOk Proofs.Tryz.prog (17, ma17) := fOk (by decide) (by kernel_rfl)
theorem maok18 : FOk Proofs.Tryz.prog (18, ma18) := fOk (by decide) (by kernel_rfl)
theorem maok19 : FOk Proofs.Tryz.prog (19, ma19) := fOk (by decide) (by kernel_rfl)
theorem maok34 : FOk Proofs.Tryz.prog (34, ma34) := fOk (by decide) (by kernel_rfl)
theorem maok35 : FOk Proofs.Tryz.prog (35, ma35) := fOk (by decide) (by kernel_rfl)
theorem maok36 : FOk Proofs.Tryz.prog (36, ma36) := fOk (by decide) (by kernel_rfl)
theorem maok37 : FOk Proofs.Tryz.prog (37, ma37) := fOk (by decide) (by kernel_rfl)
theorem maok38 : FOk Proofs.Tryz.prog (38, ma38) := fOk (by decide) (by kernel_rfl)
theorem maok39 : FOk Proofs.Tryz.prog (39, ma39) := fOk (by decide) (by kernel_rfl)
theorem maok40 : FOk Proofs.Tryz.prog (40, ma40) := fOk (by decide) (by kernel_rfl)
theorem maok41 : FOk Proofs.Tryz.prog (41, ma41) := fOk (by decide) (by kernel_rfl)
theorem maok42 : FOk Proofs.Tryz.prog (42, ma42) := fOk (by decide) (by kernel_rfl)
theorem maok43 : FOk Proofs.Tryz.prog (43, ma43) := fOk (by decide) (by kernel_rfl)
theorem maok44 : FOk Proofs.Tryz.prog (44, ma44) := fOk (by decide) (by kernel_rfl)
theorem maok45 : FOk Proofs.Tryz.prog (45, ma45) := fOk (by decide) (by kernel_rfl)
theorem maok46 : FOk Proofs.Tryz.prog (46, ma46) := fOk (by decide) (by kernel_rfl)
theorem maok47 : FOk Proofs.Tryz.prog (47, ma47) := fOk (by decide) (by kernel_rfl)
theorem maok48 : FOk Proofs.Tryz.prog (48, ma48) := fOk (by decide) (by kernel_rfl)
theorem maok49 : FOk Proofs.Tryz.prog (49, ma49) := fOk (by decide) (by kernel_rfl)
theorem maok50 : FOk Proofs.Tryz.prog (50, ma50) := ⟨by decide, ma50p, by kernel_rfl, (.seq (.refl _) (.seq (.refl _) (.seq (.refl _) (.seq (.refl _) (.seq (.refl _) (.seq (.refl _) (.seq (.refl _) (.seq (.refl _) (.seq (.refl _) (.seq (.refl _) (.seq (.seq (.refl _) (.spl kept_ok)) (.refl _))))))))))))⟩
theorem maok51 : FOk Proofs.Tryz.prog (51, ma51) := fOk (by decide) (by kernel_rfl)
theorem maok52 : FOk Proofs.Tryz.prog (52, ma52) := fOk (by decide) (by kernel_rfl)
theorem maok53 : FOk Proofs.Tryz.prog (53, ma53) := fOk (by decide) (by kernel_rfl)
theorem maok54 : FOk Proofs.Tryz.prog (54, ma54) := fOk (by decide) (by kernel_rfl)
theorem maok55 : FOk Proofs.Tryz.prog (55, ma55) := fOk (by decide) (by kernel_rfl)
theorem maok56 : FOk Proofs.Tryz.prog (56, ma56) := fOk (by decide) (by kernel_rfl)
theorem maok57 : FOk Proofs.Tryz.prog (57, ma57) := fOk (by decide) (by kernel_rfl)
theorem maok64 : FOk Proofs.Tryz.prog (64, ma64) := fOk (by decide) (by kernel_rfl)
theorem maok74 : FOk Proofs.Tryz.prog (74, ma74) := fOk (by decide) (by kernel_rfl)
theorem maok83 : FOk Proofs.Tryz.prog (83, ma83) := fOk (by decide) (by kernel_rfl)
theorem maok84 : FOk Proofs.Tryz.prog (84, ma84) := fOk (by decide) (by kernel_rfl)
theorem maok85 : FOk Proofs.Tryz.prog (85, ma85) := fOk (by decide) (by kernel_rfl)
theorem maok86 : FOk Proofs.Tryz.prog (86, ma86) := fOk (by decide) (by kernel_rfl)
theorem maok87 : FOk Proofs.Tryz.prog (87, ma87) := fOk (by decide) (by kernel_rfl)
theorem maok88 : FOk Proofs.Tryz.prog (88, ma88) := fOk (by decide) (by kernel_rfl)
theorem maok89 : FOk Proofs.Tryz.prog (89, ma89) := fOk (by decide) (by kernel_rfl)
theorem maok90 : FOk Proofs.Tryz.prog (90, ma90) := fOk (by decide) (by kernel_rfl)
theorem maok91 : FOk Proofs.Tryz.prog (91, ma91) := fOk (by decide) (by kernel_rfl)
end Go.AM
