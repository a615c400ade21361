/-
  The machine's code is the program's, part 0. Conditions: none.
-/
import Derived.Test.YtmhhaimpignndaaGreatProg
import Derived.Test.YtmhhaimpignndaaGreatM16FT
namespace Go.AM
open Go
set_option maxHeartbeats 0
set_option maxRecDepth 100000
theorem ppok3 : FOk Proofs.Tryz.prog (3, pp3) := fOk (by decide) (by kernel_rfl)
theorem ppok8 : FOk Proofs.Tryz.prog (8, pp8) := fOk (by decide) (by kernel_rfl)
theorem ppok9 : FOk Proofs.Tryz.prog (9, pp9) := fOk (by decide) (by kernel_rfl)
theorem ppok10 : FOk Proofs.Tryz.prog (10, pp10) := fOk (by decide) (by kernel_rfl)
theorem ppok11 : FOk Proofs.Tryz.prog (11, pp11) := fOk (by decide) (by kernel_rfl)
theorem ppok12 : FOk Proofs.Tryz.prog (12, pp12) := fOk (by decide) (by kernel_rfl)
theorem ppok13 : FOk Proofs.Tryz.prog (13, pp13) := fOk (by decide) (by kernel_rfl)
theorem ppok14 : FOk Proofs.Tryz.prog (14, pp14) := fOk (by decide) (by kernel_rfl)
theorem ppok20 : FOk Proofs.Tryz.prog (20, pp20) := fOk (by decide) (by kernel_rfl)
theorem ppok27 : FOk Proofs.Tryz.prog (27, pp27) := fOk (by decide) (by kernel_rfl)
theorem ppok31 : FOk Proofs.Tryz.prog (31, pp31) := fOk (by decide) (by kernel_rfl)
theorem ppok32 : FOk Proofs.Tryz.prog (32, pp32) := ⟨by decide, pp32p, by kernel_rfl, (.seq (.refl _) (.seq (.refl _) (.seq (.refl _) (.seq (.refl _) (.seq (.refl _) (.seq (.refl _) (.seq (.refl _) (.seq (.refl _) (.seq (.refl _) (.seq (.refl _) (.seq (.seq (.refl _) (.spl kept_ok)) (.refl _))))))))))))⟩
theorem ppok33 : FOk Proofs.Tryz.prog (33, pp33) := fOk (by decide) (by kernel_rfl)
theorem ppok34 : FOk Proofs.Tryz.prog (34, pp34) := fOk (by decide) (by kernel_rfl)
theorem ppok35 : FOk Proofs.Tryz.prog (35, pp35) := fOk (by decide) (by kernel_rfl)
theorem ppok36 : FOk Proofs.Tryz.prog (36, pp36) := fOk (by decide) (by kernel_rfl)
theorem ppok37 : FOk Proofs.Tryz.prog (37, pp37) := fOk (by decide) (by kernel_rfl)
theorem ppok38 : FOk Proofs.Tryz.prog (38, pp38) := fOk (by decide) (by kernel_rfl)
theorem ppok39 : FOk Proofs.Tryz.prog (39, pp39) := fOk (by decide) (by kernel_rfl)
theorem ppok40 : FOk Proofs.Tryz.prog (40, pp40) := fOk (by decide) (by kernel_rfl)
theorem ppok46 : FOk Proofs.Tryz.prog (46, pp46) := fOk (by decide) (by kernel_rfl)
theorem ppok49 : FOk Proofs.Tryz.prog (49, pp49) := fOk (by decide) (by kernel_rfl)
theorem ppok51 : FOk Proofs.Tryz.prog (51, pp51) := fOk (by decide) (by kernel_rfl)
theorem ppok60 : FOk Proofs.Tryz.prog (60, pp60) := fOk (by decide) (by kernel_rfl)
theorem ppok61 : FOk Proofs.Tryz.prog (61, pp61) := fOk (by decide) (by kernel_rfl)
theorem ppok62 : FOk Proofs.Tryz.prog (62, pp62) := fOk (by decide) (by kernel_rfl)
theorem ppok63 : FOk Proofs.Tryz.prog (63, pp63) := fOk (by decide) (by kernel_rfl)
theorem ppok64 : FOk Proofs.Tryz.prog (64, pp64) := fOk (by decide) (by kernel_rfl)
end Go.AM
namespace Go.AM
open Go
set_option maxHeartbeats 0
set_option maxRecDepth 100000
theorem ppok65 : FOk Proofs.Tryz.prog (65, pp65) := fOk (by decide) (by kernel_rfl)
theorem ppok66 : FOk Proofs.Tryz.prog (66, pp66) := fOk (by decide) (by kernel_rfl)
theorem ppok67 : FOk Proofs.Tryz.prog (67, pp67) := fOk (by decide) (by kernel_rfl)
theorem ppok68 : FOk Proofs.Tryz.prog (68, pp68) := fOk (by decide) (by kernel_rfl)
theorem ppok69 : FOk Proofs.Tryz.prog (69, pp69) := fOk (by decide) (by kernel_rfl)
theorem ppok70 : FOk Proofs.Tryz.prog (70, pp70) := fOk (by decide) (by kernel_rfl)
theorem ppok71 : FOk Proofs.Tryz.prog (71, pp71) := fOk (by decide) (by kernel_rfl)
theorem ppok72 : FOk Proofs.Tryz.prog (72, pp72) := fOk (by decide) (by kernel_rfl)
theorem ppok73 : FOk Proofs.Tryz.prog (73, pp73) := fOk (by decide) (by kernel_rfl)
theorem ppok74 : FOk Proofs.Tryz.prog (74, pp74) := fOk (by decide) (by kernel_rfl)
theorem ppok75 : FOk Proofs.Tryz.prog (75, pp75) := fOk (by decide) (by kernel_rfl)
theorem ppok76 : FOk Proofs.Tryz.prog (76, pp76) := fOk (by decide) (by kernel_rfl)
theorem ppok77 : FOk Proofs.Tryz.prog (77, pp77) := fOk (by decide) (by kernel_rfl)
theorem ppok78 : FOk Proofs.Tryz.prog (78, pp78) := fOk (by decide) (by kernel_rfl)
theorem ppok79 : FOk Proofs.Tryz.prog (79, pp79) := fOk (by decide) (by kernel_rfl)
theorem ppok80 : FOk Proofs.Tryz.prog (80, pp80) := fOk (by decide) (by kernel_rfl)
theorem ppok81 : FOk Proofs.Tryz.prog (81, pp81) := fOk (by decide) (by kernel_rfl)
theorem ppok87 : FOk Proofs.Tryz.prog (87, pp87) := fOk (by decide) (by kernel_rfl)
theorem ppok98 : FOk Proofs.Tryz.prog (98, pp98) := fOk (by decide) (by kernel_rfl)
theorem ppok106 : FOk Proofs.Tryz.prog (106, pp106) := fOk (by decide) (by kernel_rfl)
theorem ppok107 : FOk Proofs.Tryz.prog (107, pp107) := fOk (by decide) (by kernel_rfl)
theorem ppok108 : FOk Proofs.Tryz.prog (108, pp108) := fOk (by decide) (by kernel_rfl)
theorem ppok109 : FOk Proofs.Tryz.prog (109, pp109) := fOk (by decide) (by kernel_rfl)
theorem ppok110 : FOk Proofs.Tryz.prog (110, pp110) := fOk (by decide) (by kernel_rfl)
theorem ppok111 : FOk Proofs.Tryz.prog (111, pp111) := fOk (by decide) (by kernel_rfl)
theorem ppok112 : FOk Proofs.Tryz.prog (112, pp112) := fOk (by decide) (by kernel_rfl)
theorem ppok113 : FOk Proofs.Tryz.prog (113, pp113) := ⟨by decide, pp113p, by kernel_rfl, (.seq (.refl _) (.seq (.refl _) (.seq (.spl free_ok) (.refl _))))⟩
theorem ppok114 : FOk Proofs.Tryz.prog (114, pp114) := fOk (by decide) (by kernel_rfl)
end Go.AM
namespace Go.AM
open Go
set_option maxHeartbeats 0
set_option maxRecDepth 100000
theorem ppok115 : FOk Proofs.Tryz.prog (115, pp115) := fOk (by decide) (by kernel_rfl)
theorem ppok116 : FOk Proofs.Tryz.prog (116, pp116) := fOk (by decide) (by kernel_rfl)
theorem ppok117 : FOk Proofs.Tryz.prog (117, pp117) := fOk (by decide) (by kernel_rfl)
theorem ppok118 : FOk Proofs.Tryz.prog (118, pp118) := fOk (by decide) (by kernel_rfl)
theorem ppok119 : FOk Proofs.Tryz.prog (119, pp119) := fOk (by decide) (by kernel_rfl)
theorem ppok121 : FOk Proofs.Tryz.prog (121, pp121) := fOk (by decide) (by kernel_rfl)
theorem ppok122 : FOk Proofs.Tryz.prog (122, pp122) := fOk (by decide) (by kernel_rfl)
theorem ppok123 : FOk Proofs.Tryz.prog (123, pp123) := fOk (by decide) (by kernel_rfl)
theorem ppok129 : FOk Proofs.Tryz.prog (129, pp129) := fOk (by decide) (by kernel_rfl)
theorem ppok130 : FOk Proofs.Tryz.prog (130, pp130) := fOk (by decide) (by kernel_rfl)
theorem ppok131 : FOk Proofs.Tryz.prog (131, pp131) := fOk (by decide) (by kernel_rfl)
theorem ppok144 : FOk Proofs.Tryz.prog (144, pp144) := fOk (by decide) (by kernel_rfl)
theorem ppok145 : FOk Proofs.Tryz.prog (145, pp145) := fOk (by decide) (by kernel_rfl)
theorem ppok146 : FOk Proofs.Tryz.prog (146, pp146) := fOk (by decide) (by kernel_rfl)
theorem ppok147 : FOk Proofs.Tryz.prog (147, pp147) := fOk (by decide) (by kernel_rfl)
theorem ppok148 : FOk Proofs.Tryz.prog (148, pp148) := fOk (by decide) (by kernel_rfl)
theorem ppok149 : FOk Proofs.Tryz.prog (149, pp149) := fOk (by decide) (by kernel_rfl)
theorem ppok150 : FOk Proofs.Tryz.prog (150, pp150) := fOk (by decide) (by kernel_rfl)
theorem ppok151 : FOk Proofs.Tryz.prog (151, pp151) := fOk (by decide) (by kernel_rfl)
theorem ppok152 : FOk Proofs.Tryz.prog (152, pp152) := fOk (by decide) (by kernel_rfl)
theorem ppok153 : FOk Proofs.Tryz.prog (153, pp153) := fOk (by decide) (by kernel_rfl)
theorem ppok154 : FOk Proofs.Tryz.prog (154, pp154) := fOk (by decide) (by kernel_rfl)
theorem ppok155 : FOk Proofs.Tryz.prog (155, pp155) := fOk (by decide) (by kernel_rfl)
theorem ppok161 : FOk Proofs.Tryz.prog (161, pp161) := fOk (by decide) (by kernel_rfl)
theorem ppok174 : FOk Proofs.Tryz.prog (174, pp174) := fOk (by decide) (by kernel_rfl)
theorem ppok175 : FOk Proofs.Tryz.prog (175, pp175) := fOk (by decide) (by kernel_rfl)
theorem ppok176 : FOk Proofs.Tryz.prog (176, pp176) := fOk (by decide) (by kernel_rfl)
theorem ppok177 : FOk Proofs.Tryz.prog (177, pp177) := fOk (by decide) (by kernel_rfl)
end Go.AM
namespace Go.AM
open Go
set_option maxHeartbeats 0
set_option maxRecDepth 100000
theorem ppok178 : FOk Proofs.Tryz.prog (178, pp178) := fOk (by decide) (by kernel_rfl)
theorem ppok179 : FOk Proofs.Tryz.prog (179, pp179) := fOk (by decide) (by kernel_rfl)
theorem ppok180 : FOk Proofs.Tryz.prog (180, pp180) := fOk (by decide) (by kernel_rfl)
theorem ppok181 : FOk Proofs.Tryz.prog (181, pp181) := fOk (by decide) (by kernel_rfl)
theorem ppok182 : FOk Proofs.Tryz.prog (182, pp182) := fOk (by decide) (by kernel_rfl)
theorem ppok183 : FOk Proofs.Tryz.prog (183, pp183) := fOk (by decide) (by kernel_rfl)
theorem ppok184 : FOk Proofs.Tryz.prog (184, pp184) := fOk (by decide) (by kernel_rfl)
theorem ppok191 : FOk Proofs.Tryz.prog (191, pp191) := fOk (by decide) (by kernel_rfl)
theorem ppok192 : FOk Proofs.Tryz.prog (192, pp192) := fOk (by decide) (by kernel_rfl)
theorem ppok193 : FOk Proofs.Tryz.prog (193, pp193) := fOk (by decide) (by kernel_rfl)
theorem ppok194 : FOk Proofs.Tryz.prog (194, pp194) := fOk (by decide) (by kernel_rfl)
theorem ppok195 : FOk Proofs.Tryz.prog (195, pp195) := fOk (by decide) (by kernel_rfl)
theorem ppok196 : FOk Proofs.Tryz.prog (196, pp196) := fOk (by decide) (by kernel_rfl)
theorem ppok197 : FOk Proofs.Tryz.prog (197, pp197) := fOk (by decide) (by kernel_rfl)
theorem ppok202 : FOk Proofs.Tryz.prog (202, pp202) := fOk (by decide) (by kernel_rfl)
theorem ppok203 : FOk Proofs.Tryz.prog (203, pp203) := fOk (by decide) (by kernel_rfl)
theorem ppok204 : FOk Proofs.Tryz.prog (204, pp204) := fOk (by decide) (by kernel_rfl)
theorem ppok205 : FOk Proofs.Tryz.prog (205, pp205) := fOk (by decide) (by kernel_rfl)
theorem ppok206 : FOk Proofs.Tryz.prog (206, pp206) := fOk (by decide) (by kernel_rfl)
theorem ppok207 : FOk Proofs.Tryz.prog (207, pp207) := fOk (by decide) (by kernel_rfl)
theorem ppok209 : FOk Proofs.Tryz.prog (209, pp209) := fOk (by decide) (by kernel_rfl)
theorem ppok210 : FOk Proofs.Tryz.prog (210, pp210) := fOk (by decide) (by kernel_rfl)
theorem ppok215 : FOk Proofs.Tryz.prog (215, pp215) := fOk (by decide) (by kernel_rfl)
theorem ppok218 : FOk Proofs.Tryz.prog (218, pp218) := fOk (by decide) (by kernel_rfl)
theorem pplok2096 : LOk Proofs.Tryz.prog (2096, ppl2096) := ⟨by decide, by kernel_rfl⟩
end Go.AM
