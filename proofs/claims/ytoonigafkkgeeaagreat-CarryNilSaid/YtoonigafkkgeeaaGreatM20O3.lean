/-
  The machine's code is the program's, part 3. Conditions: none.
-/
import Derived.Test.YtoonigafkkgeeaaGreatProg
import Derived.Test.YtoonigafkkgeeaaGreatM20T
namespace Go.AM
open Go
set_option maxHeartbeats 0
set_option maxRecDepth 100000
theorem m20fok221 : FOk Proofs.Tryz.prog (221, m20f221) := fOk (by decide) (by kernel_rfl)
theorem m20fok222 : FOk Proofs.Tryz.prog (222, m20f222) := fOk (by decide) (by kernel_rfl)
theorem m20fok223 : FOk Proofs.Tryz.prog (223, m20f223) := fOk (by decide) (by kernel_rfl)
theorem m20fok224 : FOk Proofs.Tryz.prog (224, m20f224) := fOk (by decide) (by kernel_rfl)
theorem m20fok225 : FOk Proofs.Tryz.prog (225, m20f225) := fOk (by decide) (by kernel_rfl)
theorem m20fok226 : FOk Proofs.Tryz.prog (226, m20f226) := fOk (by decide) (by kernel_rfl)
theorem m20fok227 : FOk Proofs.Tryz.prog (227, m20f227) := fOk (by decide) (by kernel_rfl)
theorem m20fok228 : FOk Proofs.Tryz.prog (228, m20f228) := fOk (by decide) (by kernel_rfl)
theorem m20fok229 : FOk Proofs.Tryz.prog (229, m20f229) := fOk (by decide) (by kernel_rfl)
theorem m20fok230 : FOk Proofs.Tryz.prog (230, m20f230) := fOk (by decide) (by kernel_rfl)
theorem m20fok231 : FOk Proofs.Tryz.prog (231, m20f231) := fOk (by decide) (by kernel_rfl)
theorem m20fok232 : FOk Proofs.Tryz.prog (232, m20f232) := fOk (by decide) (by kernel_rfl)
theorem m20fok233 : FOk Proofs.Tryz.prog (233, m20f233) := fOk (by decide) (by kernel_rfl)
theorem m20fok234 : FOk Proofs.Tryz.prog (234, m20f234) := fOk (by decide) (by kernel_rfl)
theorem m20fok235 : FOk Proofs.Tryz.prog (235, m20f235) := fOk (by decide) (by kernel_rfl)
theorem m20fok236 : FOk Proofs.Tryz.prog (236, m20f236) := fOk (by decide) (by kernel_rfl)
theorem m20fok237 : FOk Proofs.Tryz.prog (237, m20f237) := fOk (by decide) (by kernel_rfl)
theorem m20fok238 : FOk Proofs.Tryz.prog (238, m20f238) := fOk (by decide) (by kernel_rfl)
theorem m20fok239 : FOk Proofs.Tryz.prog (239, m20f239) := fOk (by decide) (by kernel_rfl)
theorem m20fok240 : FOk Proofs.Tryz.prog (240, m20f240) := fOk (by decide) (by kernel_rfl)
theorem m20fok241 : FOk Proofs.Tryz.prog (241, m20f241) := fOk (by decide) (by kernel_rfl)
theorem m20fok242 : FOk Proofs.Tryz.prog (242, m20f242) := fOk (by decide) (by kernel_rfl)
theorem m20fok243 : FOk Proofs.Tryz.prog (243, m20f243) := fOk (by decide) (by kernel_rfl)
theorem m20fok244 : FOk Proofs.Tryz.prog (244, m20f244) := fOk (by decide) (by kernel_rfl)
theorem m20fok245 : FOk Proofs.Tryz.prog (245, m20f245) := fOk (by decide) (by kernel_rfl)
theorem m20fok246 : FOk Proofs.Tryz.prog (246, m20f246) := fOk (by decide) (by kernel_rfl)
theorem m20fok247 : FOk Proofs.Tryz.prog (247, m20f247) := fOk (by decide) (by kernel_rfl)
theorem m20fok248 : FOk Proofs.Tryz.prog (248, m20f248) := fOk (by decide) (by kernel_rfl)
theorem m20fok250 : FOk Proofs.Tryz.prog (250, m20f250) := fOk (by decide) (by kernel_rfl)
theorem m20fok251 : FOk Proofs.Tryz.prog (251, m20f251) := fOk (by decide) (by kernel_rfl)
theorem m20fok252 : FOk Proofs.Tryz.prog (252, m20f252) := fOk (by decide) (by kernel_rfl)
theorem m20fok253 : FOk Proofs.Tryz.prog (253, m20f253) := fOk (by decide) (by kernel_rfl)
theorem m20fok254 : FOk Proofs.Tryz.prog (254, m20f254) := fOk (by decide) (by kernel_rfl)
theorem m20fok255 : FOk Proofs.Tryz.prog (255, m20f255) := fOk (by decide) (by kernel_rfl)
theorem m20fok256 : FOk Proofs.Tryz.prog (256, m20f256) := fOk (by decide) (by kernel_rfl)
theorem m20fok257 : FOk Proofs.Tryz.prog (257, m20f257) := fOk (by decide) (by kernel_rfl)
theorem m20fok258 : FOk Proofs.Tryz.prog (258, m20f258) := fOk (by decide) (by kernel_rfl)
theorem m20fok259 : FOk Proofs.Tryz.prog (259, m20f259) := fOk (by decide) (by kernel_rfl)
theorem m20fok260 : FOk Proofs.Tryz.prog (260, m20f260) := fOk (by decide) (by kernel_rfl)
theorem m20fok261 : FOk Proofs.Tryz.prog (261, m20f261) := fOk (by decide) (by kernel_rfl)
theorem m20fok262 : FOk Proofs.Tryz.prog (262, m20f262) := fOk (by decide) (by kernel_rfl)
theorem m20fok263 : FOk Proofs.Tryz.prog (263, m20f263) := fOk (by decide) (by kernel_rfl)
theorem m20fok264 : FOk Proofs.Tryz.prog (264, m20f264) := fOk (by decide) (by kernel_rfl)
theorem m20fok265 : FOk Proofs.Tryz.prog (265, m20f265) := fOk (by decide) (by kernel_rfl)
theorem m20fok267 : FOk Proofs.Tryz.prog (267, m20f267) := fOk (by decide) (by kernel_rfl)
theorem m20fok268 : FOk Proofs.Tryz.prog (268, m20f268) := fOk (by decide) (by kernel_rfl)
theorem m20fok269 : FOk Proofs.Tryz.prog (269, m20f269) := fOk (by decide) (by kernel_rfl)
theorem m20fok270 : FOk Proofs.Tryz.prog (270, m20f270) := fOk (by decide) (by kernel_rfl)
theorem m20fok271 : FOk Proofs.Tryz.prog (271, m20f271) := fOk (by decide) (by kernel_rfl)
theorem m20fok272 : FOk Proofs.Tryz.prog (272, m20f272) := fOk (by decide) (by kernel_rfl)
theorem m20fok273 : FOk Proofs.Tryz.prog (273, m20f273) := fOk (by decide) (by kernel_rfl)
theorem m20fok274 : FOk Proofs.Tryz.prog (274, m20f274) := fOk (by decide) (by kernel_rfl)
theorem m20fok275 : FOk Proofs.Tryz.prog (275, m20f275) := fOk (by decide) (by kernel_rfl)
theorem m20fok276 : FOk Proofs.Tryz.prog (276, m20f276) := fOk (by decide) (by kernel_rfl)
theorem m20fok277 : FOk Proofs.Tryz.prog (277, m20f277) := fOk (by decide) (by kernel_rfl)
theorem m20fok278 : FOk Proofs.Tryz.prog (278, m20f278) := fOk (by decide) (by kernel_rfl)
theorem m20fok279 : FOk Proofs.Tryz.prog (279, m20f279) := fOk (by decide) (by kernel_rfl)
theorem m20fok280 : FOk Proofs.Tryz.prog (280, m20f280) := fOk (by decide) (by kernel_rfl)
theorem m20fok281 : FOk Proofs.Tryz.prog (281, m20f281) := fOk (by decide) (by kernel_rfl)
theorem m20fok283 : FOk Proofs.Tryz.prog (283, m20f283) := fOk (by decide) (by kernel_rfl)
theorem m20fok284 : FOk Proofs.Tryz.prog (284, m20f284) := fOk (by decide) (by kernel_rfl)
theorem m20fok285 : FOk Proofs.Tryz.prog (285, m20f285) := fOk (by decide) (by kernel_rfl)
theorem m20fok290 : FOk Proofs.Tryz.prog (290, m20f290) := fOk (by decide) (by kernel_rfl)
theorem m20fok293 : FOk Proofs.Tryz.prog (293, m20f293) := fOk (by decide) (by kernel_rfl)
theorem m20flok64 : LOk Proofs.Tryz.prog (64, m20fl64) := ⟨by decide, by kernel_rfl⟩
theorem m20flok192 : LOk Proofs.Tryz.prog (192, m20fl192) := ⟨by decide, by kernel_rfl⟩
theorem m20flok1440 : LOk Proofs.Tryz.prog (1440, m20fl1440) := ⟨by decide, by kernel_rfl⟩
theorem m20flok1456 : LOk Proofs.Tryz.prog (1456, m20fl1456) := ⟨by decide, by kernel_rfl⟩
theorem m20flok2080 : LOk Proofs.Tryz.prog (2080, m20fl2080) := ⟨by decide, by kernel_rfl⟩
theorem m20flok4320 : LOk Proofs.Tryz.prog (4320, m20fl4320) := ⟨by decide, by kernel_rfl⟩
end Go.AM
