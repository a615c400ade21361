/-
  The machine's code is the program's, part 2. Conditions: none.
-/
import Derived.Test.YtlmglicbgdkmoaaGreatProg
import Derived.Test.YtlmglicbgdkmoaaGreatM17NT
namespace Go.AM
open Go
set_option maxHeartbeats 0
set_option maxRecDepth 100000
theorem maok163 : FOk Proofs.Tryz.prog (163, ma163) := fOk (by decide) (by kernel_rfl)
theorem maok164 : FOk Proofs.Tryz.prog (164, ma164) := fOk (by decide) (by kernel_rfl)
theorem maok165 : FOk Proofs.Tryz.prog (165, ma165) := fOk (by decide) (by kernel_rfl)
theorem maok166 : FOk Proofs.Tryz.prog (166, ma166) := fOk (by decide) (by kernel_rfl)
theorem maok167 : FOk Proofs.Tryz.prog (167, ma167) := fOk (by decide) (by kernel_rfl)
theorem maok168 : FOk Proofs.Tryz.prog (168, ma168) := fOk (by decide) (by kernel_rfl)
theorem maok169 : FOk Proofs.Tryz.prog (169, ma169) := fOk (by decide) (by kernel_rfl)
theorem maok170 : FOk Proofs.Tryz.prog (170, ma170) := ⟨by decide, ma170p, by kernel_rfl, (.seq (.refl _) (.seq (.refl _) (.seq (.spl free_ok) (.refl _))))⟩
theorem maok171 : FOk Proofs.Tryz.prog (171, ma171) := fOk (by decide) (by kernel_rfl)
theorem maok172 : FOk Proofs.Tryz.prog (172, ma172) := fOk (by decide) (by kernel_rfl)
theorem maok173 : FOk Proofs.Tryz.prog (173, ma173) := fOk (by decide) (by kernel_rfl)
theorem maok174 : FOk Proofs.Tryz.prog (174, ma174) := fOk (by decide) (by kernel_rfl)
theorem maok175 : FOk Proofs.Tryz.prog (175, ma175) := fOk (by decide) (by kernel_rfl)
theorem maok176 : FOk Proofs.Tryz.prog (176, ma176) := fOk (by decide) (by kernel_rfl)
theorem maok177 : FOk Proofs.Tryz.prog (177, ma177) := fOk (by decide) (by kernel_rfl)
theorem maok178 : FOk Proofs.Tryz.prog (178, ma178) := fOk (by decide) (by kernel_rfl)
theorem maok179 : FOk Proofs.Tryz.prog (179, ma179) := fOk (by decide) (by kernel_rfl)
theorem maok180 : FOk Proofs.Tryz.prog (180, ma180) := fOk (by decide) (by kernel_rfl)
theorem maok181 : FOk Proofs.Tryz.prog (181, ma181) := fOk (by decide) (by kernel_rfl)
theorem maok182 : FOk Proofs.Tryz.prog (182, ma182) := fOk (by decide) (by kernel_rfl)
theorem maok183 : FOk Proofs.Tryz.prog (183, ma183) := fOk (by decide) (by kernel_rfl)
theorem maok184 : FOk Proofs.Tryz.prog (184, ma184) := fOk (by decide) (by kernel_rfl)
theorem maok185 : FOk Proofs.Tryz.prog (185, ma185) := fOk (by decide) (by kernel_rfl)
theorem maok233 : FOk Proofs.Tryz.prog (233, ma233) := fOk (by decide) (by kernel_rfl)
theorem maok234 : FOk Proofs.Tryz.prog (234, ma234) := fOk (by decide) (by kernel_rfl)
theorem maok235 : FOk Proofs.Tryz.prog (235, ma235) := fOk (by decide) (by kernel_rfl)
theorem maok236 : FOk Proofs.Tryz.prog (236, ma236) := fOk (by decide) (by kernel_rfl)
theorem maok237 : FOk Proofs.Tryz.prog (237, ma237) := fOk (by decide) (by kernel_rfl)
theorem maok238 : FOk Proofs.Tryz.prog (238, ma238) := fOk (by decide) (by kernel_rfl)
theorem maok239 : FOk Proofs.Tryz.prog (239, ma239) := fOk (by decide) (by kernel_rfl)
theorem maok240 : FOk Proofs.Tryz.prog (240, ma240) := fOk (by decide) (by kernel_rfl)
theorem maok241 : FOk Proofs.Tryz.prog (241, ma241) := fOk (by decide) (by kernel_rfl)
theorem maok242 : FOk Proofs.Tryz.prog (242, ma242) := fOk (by decide) (by kernel_rfl)
theorem maok243 : FOk Proofs.Tryz.prog (243, ma243) := fOk (by decide) (by kernel_rfl)
theorem maok244 : FOk Proofs.Tryz.prog (244, ma244) := fOk (by decide) (by kernel_rfl)
theorem maok245 : FOk Proofs.Tryz.prog (245, ma245) := fOk (by decide) (by kernel_rfl)
theorem maok246 : FOk Proofs.Tryz.prog (246, ma246) := fOk (by decide) (by kernel_rfl)
theorem maok247 : FOk Proofs.Tryz.prog (247, ma247) := fOk (by decide) (by kernel_rfl)
theorem maok248 : FOk Proofs.Tryz.prog (248, ma248) := fOk (by decide) (by kernel_rfl)
theorem maok249 : FOk Proofs.Tryz.prog (249, ma249) := fOk (by decide) (by kernel_rfl)
theorem maok250 : FOk Proofs.Tryz.prog (250, ma250) := fOk (by decide) (by kernel_rfl)
theorem maok251 : FOk Proofs.Tryz.prog (251, ma251) := fOk (by decide) (by kernel_rfl)
theorem maok252 : FOk Proofs.Tryz.prog (252, ma252) := fOk (by decide) (by kernel_rfl)
theorem maok253 : FOk Proofs.Tryz.prog (253, ma253) := fOk (by decide) (by kernel_rfl)
theorem maok254 : FOk Proofs.Tryz.prog (254, ma254) := fOk (by decide) (by kernel_rfl)
theorem maok255 : FOk Proofs.Tryz.prog (255, ma255) := fOk (by decide) (by kernel_rfl)
theorem maok256 : FOk Proofs.Tryz.prog (256, ma256) := fOk (by decide) (by kernel_rfl)
theorem maok257 : FOk Proofs.Tryz.prog (257, ma257) := fOk (by decide) (by kernel_rfl)
theorem maok258 : FOk Proofs.Tryz.prog (258, ma258) := fOk (by decide) (by kernel_rfl)
end Go.AM
