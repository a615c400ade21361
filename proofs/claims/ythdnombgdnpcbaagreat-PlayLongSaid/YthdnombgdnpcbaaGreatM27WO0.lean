/-
  The machine's code is the program's, part 0. Conditions: none.
-/
import Derived.Test.YthdnombgdnpcbaaGreatProg
import Derived.Test.YthdnombgdnpcbaaGreatM27WT
namespace Go.AM
open Go
set_option maxHeartbeats 0
set_option maxRecDepth 100000
theorem paok4 : FOk Proofs.Tryz.prog (4, pa4) := fOkP (m := (.two .all (.two .all (.two (.one (.two .all (.two .cut (.two .all (.two .cut .all))))) (.two .all (.two (.two .all (.two .all (.two .cut .all))) .all)))))) (by decide) (by kernel_rfl)
theorem paok5 : FOk Proofs.Tryz.prog (5, pa5) := fOk (by decide) (by kernel_rfl)
theorem paok6 : FOk Proofs.Tryz.prog (6, pa6) := fOk (by decide) (by kernel_rfl)
theorem paok7 : FOk Proofs.Tryz.prog (7, pa7) := fOkP (m := (.two .all (.two (.two .all (.two .cut .all)) .all))) (by decide) (by kernel_rfl)
theorem paok8 : FOk Proofs.Tryz.prog (8, pa8) := fOk (by decide) (by kernel_rfl)
theorem paok9 : FOk Proofs.Tryz.prog (9, pa9) := fOkP (m := (.two .all (.two (.two .all (.one (.two .all (.two .all .cut)))) .cut))) (by decide) (by kernel_rfl)
theorem paok10 : FOk Proofs.Tryz.prog (10, pa10) := fOkP (m := (.two .all (.two (.two .all (.two .cut .all)) (.two .all (.two (.two .all (.one (.one (.two .all (.two .all (.two (.one (.two .all (.two .all (.two .all (.two .all (.two .all (.two (.two .all (.one (.one (.two .all (.two .all .cut))))) .all))))))) .all)))))) .all))))) (by decide) (by kernel_rfl)
theorem paok11 : FOk Proofs.Tryz.prog (11, pa11) := fOkP (m := (.two .all (.two (.two .all (.two .cut .all)) .all))) (by decide) (by kernel_rfl)
theorem paok12 : FOk Proofs.Tryz.prog (12, pa12) := fOkP (m := (.two .all (.two (.two .all (.two .cut .all)) (.two (.two .all (.two .all (.two .cut .all))) (.two .all (.two .all (.two (.two .all (.one (.one (.two .all (.two .all .cut))))) .all))))))) (by decide) (by kernel_rfl)
theorem paok13 : FOk Proofs.Tryz.prog (13, pa13) := fOkP (m := (.two .all (.two (.two .all (.two .all (.two .cut .all))) .all))) (by decide) (by kernel_rfl)
theorem paok14 : FOk Proofs.Tryz.prog (14, pa14) := fOk (by decide) (by kernel_rfl)
theorem paok15 : FOk Proofs.Tryz.prog (15, pa15) := fOk (by decide) (by kernel_rfl)
theorem paok16 : FOk Proofs.Tryz.prog (16, pa16) := fOk (by decide) (by kernel_rfl)
theorem paok17 : FOk Proofs.Tryz.prog (17, pa17) := fOkP (m := (.two .all (.two (.two .all (.two .cut .all)) .all))) (by decide) (by kernel_rfl)
theorem paok18 : FOk Proofs.Tryz.prog (18, pa18) := fOkP (m := (.two .all (.two (.two .all (.two .cut .all)) (.two .all (.two (.one (.two .all (.two .cut (.two .all (.two .cut .all))))) (.two .all (.two .all (.two (.two .all (.one (.one (.two .all (.two .all (.two (.one (.two .all (.two .all (.two (.two .all (.two .cut .all)) (.two .all (.two .all (.two (.two .all (.two .cut .all)) .all))))))) .all)))))) .all)))))))) (by decide) (by kernel_rfl)
theorem paok19 : FOk Proofs.Tryz.prog (19, pa19) := fOkP (m := (.two .all (.two .all (.two (.two .all (.one (.one (.two .all (.two .all .cut))))) .all)))) (by decide) (by kernel_rfl)
theorem paok20 : FOk Proofs.Tryz.prog (20, pa20) := fOkP (m := (.two .all (.two .all (.two (.two .all (.one (.one (.two .all (.two .all .cut))))) .all)))) (by decide) (by kernel_rfl)
theorem paok22 : FOk Proofs.Tryz.prog (22, pa22) := fOkP (m := (.two .all (.two .all (.two (.one (.two .all (.two .all (.two .all (.two .cut .all))))) (.two .all (.two (.two .all (.one (.one (.two .all (.two .all .cut))))) .all)))))) (by decide) (by kernel_rfl)
theorem paok23 : FOk Proofs.Tryz.prog (23, pa23) := fOk (by decide) (by kernel_rfl)
theorem paok24 : FOk Proofs.Tryz.prog (24, pa24) := fOk (by decide) (by kernel_rfl)
theorem paok25 : FOk Proofs.Tryz.prog (25, pa25) := fOk (by decide) (by kernel_rfl)
theorem paok26 : FOk Proofs.Tryz.prog (26, pa26) := fOk (by decide) (by kernel_rfl)
theorem paok27 : FOk Proofs.Tryz.prog (27, pa27) := fOkP (m := (.two .all (.two (.two .all (.two .cut .all)) (.two .all (.two (.two .all (.two .cut .all)) .all))))) (by decide) (by kernel_rfl)
theorem paok28 : FOk Proofs.Tryz.prog (28, pa28) := fOkP (m := (.two .all (.two .all (.two .all (.two (.two .all (.one (.one (.two .all (.two .all .cut))))) (.two .all (.two (.two .all (.one (.one (.two .all (.two .all .cut))))) .all))))))) (by decide) (by kernel_rfl)
theorem paok29 : FOk Proofs.Tryz.prog (29, pa29) := fOkP (m := (.two .all (.two (.two .all (.two .cut .all)) (.two .all (.two .all (.two (.two .all (.one (.one (.two .all (.two .all .cut))))) .all)))))) (by decide) (by kernel_rfl)
theorem paok30 : FOk Proofs.Tryz.prog (30, pa30) := fOkP (m := (.two .all (.two (.two .all (.two .cut .all)) .all))) (by decide) (by kernel_rfl)
theorem paok31 : FOk Proofs.Tryz.prog (31, pa31) := fOkP (m := (.two .all (.two (.two .all (.two .cut .all)) .all))) (by decide) (by kernel_rfl)
theorem paok32 : FOk Proofs.Tryz.prog (32, pa32) := fOkP (m := (.two .all (.two (.two .all (.two .all (.two .cut .all))) (.two .all (.two (.one (.two .all (.two .cut (.two .all (.two .cut .all))))) (.two .all (.two .all (.two (.two .all (.one (.two .all (.two .all .cut)))) .cut)))))))) (by decide) (by kernel_rfl)
theorem paok33 : FOk Proofs.Tryz.prog (33, pa33) := fOkP (m := (.two .all (.two .all (.two .all .cut)))) (by decide) (by kernel_rfl)
theorem paok34 : FOk Proofs.Tryz.prog (34, pa34) := fOkP (m := (.two .all (.two (.two .all (.two .cut .all)) .all))) (by decide) (by kernel_rfl)
end Go.AM
namespace Go.AM
open Go
set_option maxHeartbeats 0
set_option maxRecDepth 100000
theorem paok35 : FOk Proofs.Tryz.prog (35, pa35) := fOkP (m := (.two .all (.two (.two .all (.two .cut .all)) (.two (.two .all (.one (.one (.two .all (.two .all (.two (.one (.two .all (.two .all (.two .all (.two .cut .all))))) .all)))))) .all)))) (by decide) (by kernel_rfl)
theorem paok37 : FOk Proofs.Tryz.prog (37, pa37) := fOkP (m := (.two .all (.two .all (.two .all (.two .all (.two (.two .all (.two .cut .all)) (.two .all (.two (.two .all (.one (.one (.two .all .cut)))) .all)))))))) (by decide) (by kernel_rfl)
theorem paok38 : FOk Proofs.Tryz.prog (38, pa38) := fOk (by decide) (by kernel_rfl)
theorem paok39 : FOk Proofs.Tryz.prog (39, pa39) := fOkP (m := (.two .all (.two (.two .all (.two .all (.two .cut .all))) .all))) (by decide) (by kernel_rfl)
theorem paok40 : FOk Proofs.Tryz.prog (40, pa40) := fOk (by decide) (by kernel_rfl)
theorem paok41 : FOk Proofs.Tryz.prog (41, pa41) := fOkP (m := (.two .all (.two .all (.one (.one (.one (.two .all (.two .all .cut)))))))) (by decide) (by kernel_rfl)
theorem paok42 : FOk Proofs.Tryz.prog (42, pa42) := fOkP (m := (.two .all (.two (.two .cut .all) .all))) (by decide) (by kernel_rfl)
theorem paok43 : FOk Proofs.Tryz.prog (43, pa43) := fOkP (m := (.two .all (.two (.two .all (.one (.one (.two .all .cut)))) .all))) (by decide) (by kernel_rfl)
theorem paok44 : FOk Proofs.Tryz.prog (44, pa44) := fOkP (m := (.two .all (.two .all .cut))) (by decide) (by kernel_rfl)
theorem paok45 : FOk Proofs.Tryz.prog (45, pa45) := fOkP (m := (.two .all (.two .all .cut))) (by decide) (by kernel_rfl)
theorem paok47 : FOk Proofs.Tryz.prog (47, pa47) := fOkP (m := (.two .all (.two .all (.two (.two .all (.one (.one (.two .all (.two .all .cut))))) .all)))) (by decide) (by kernel_rfl)
theorem paok48 : FOk Proofs.Tryz.prog (48, pa48) := fOkP (m := (.two .all (.two .all .cut))) (by decide) (by kernel_rfl)
theorem paok49 : FOk Proofs.Tryz.prog (49, pa49) := fOkP (m := (.two .all (.two (.two .all (.two .cut .all)) (.two (.two .all (.two .all (.two .cut .all))) .all)))) (by decide) (by kernel_rfl)
theorem paok50 : FOk Proofs.Tryz.prog (50, pa50) := fOkP (m := (.two .all (.two .all .cut))) (by decide) (by kernel_rfl)
theorem paok51 : FOk Proofs.Tryz.prog (51, pa51) := fOkP (m := (.two .all (.two .all .cut))) (by decide) (by kernel_rfl)
theorem paok52 : FOk Proofs.Tryz.prog (52, pa52) := fOk (by decide) (by kernel_rfl)
theorem paok54 : FOk Proofs.Tryz.prog (54, pa54) := fOk (by decide) (by kernel_rfl)
theorem paok55 : FOk Proofs.Tryz.prog (55, pa55) := fOkP (m := (.two .all (.two (.two .all (.two .cut .all)) .all))) (by decide) (by kernel_rfl)
theorem paok56 : FOk Proofs.Tryz.prog (56, pa56) := fOk (by decide) (by kernel_rfl)
theorem paok57 : FOk Proofs.Tryz.prog (57, pa57) := fOkP (m := (.two .all (.two (.one (.two .all (.two .cut (.two .all (.two .cut .all))))) .all))) (by decide) (by kernel_rfl)
theorem paok58 : FOk Proofs.Tryz.prog (58, pa58) := fOkP (m := (.two .all (.one (.one (.two .all .cut))))) (by decide) (by kernel_rfl)
theorem paok68 : FOk Proofs.Tryz.prog (68, pa68) := fOkP (m := (.two .all (.two (.two .all (.two .cut .all)) (.two (.two .all (.two .cut .all)) (.two (.two .all (.two .cut .all)) .all))))) (by decide) (by kernel_rfl)
theorem paok71 : FOk Proofs.Tryz.prog (71, pa71) := fOkP (m := (.two .all (.two .all (.two (.two .all (.one (.one (.two .all (.two .all .cut))))) .all)))) (by decide) (by kernel_rfl)
theorem paok72 : FOk Proofs.Tryz.prog (72, pa72) := fOk (by decide) (by kernel_rfl)
theorem paok73 : FOk Proofs.Tryz.prog (73, pa73) := fOk (by decide) (by kernel_rfl)
theorem paok74 : FOk Proofs.Tryz.prog (74, pa74) := fOk (by decide) (by kernel_rfl)
theorem paok78 : FOk Proofs.Tryz.prog (78, pa78) := fOkP (m := (.two .all (.one (.one (.two .all (.two .all .cut)))))) (by decide) (by kernel_rfl)
theorem paok79 : FOk Proofs.Tryz.prog (79, pa79) := fOkP (m := (.two .all (.two .all (.two (.two .all (.two .cut .all)) (.two .all (.two (.one (.two .all (.two .cut .all))) .cut)))))) (by decide) (by kernel_rfl)
theorem paok81 : FOk Proofs.Tryz.prog (81, pa81) := fOk (by decide) (by kernel_rfl)
theorem paok92 : FOk Proofs.Tryz.prog (92, pa92) := fOkP (m := (.two .all (.one (.one (.two .all (.two .all .cut)))))) (by decide) (by kernel_rfl)
end Go.AM
namespace Go.AM
open Go
set_option maxHeartbeats 0
set_option maxRecDepth 100000
theorem paok98 : FOk Proofs.Tryz.prog (98, pa98) := fOk (by decide) (by kernel_rfl)
theorem paok104 : FOk Proofs.Tryz.prog (104, pa104) := fOk (by decide) (by kernel_rfl)
theorem paok107 : FOk Proofs.Tryz.prog (107, pa107) := fOkP (m := (.two .all (.two (.two .all (.two .cut .all)) (.two (.two .all (.one (.one (.two .all (.two .all .cut))))) .all)))) (by decide) (by kernel_rfl)
theorem paok114 : FOk Proofs.Tryz.prog (114, pa114) := fOk (by decide) (by kernel_rfl)
theorem paok115 : FOk Proofs.Tryz.prog (115, pa115) := fOk (by decide) (by kernel_rfl)
theorem paok126 : FOk Proofs.Tryz.prog (126, pa126) := fOkP (m := (.two .all (.two (.two .all (.two .cut .all)) (.two .all (.two .all (.two .all (.two .all (.two .all (.two .all (.two (.two .all (.one (.one (.two .all (.two .all .cut))))) (.two .all (.two (.two .all (.one (.one (.two .all (.two .all .cut))))) (.two .all (.two (.two .all (.two .cut .all)) .all)))))))))))))) (by decide) (by kernel_rfl)
theorem paok127 : FOk Proofs.Tryz.prog (127, pa127) := fOk (by decide) (by kernel_rfl)
theorem paok134 : FOk Proofs.Tryz.prog (134, pa134) := fOk (by decide) (by kernel_rfl)
theorem paok135 : FOk Proofs.Tryz.prog (135, pa135) := fOk (by decide) (by kernel_rfl)
theorem paok141 : FOk Proofs.Tryz.prog (141, pa141) := fOkP (m := (.two .all (.two (.two .all (.two .cut .all)) (.two (.two .all (.two .cut .all)) (.two .all (.two (.two .all (.one (.one (.two .all (.two .all .cut))))) (.two (.two .all (.one (.one (.two .all (.two .all .cut))))) (.two (.two .all (.one (.one (.two .all (.two .all (.two (.one (.two .all (.two .all (.two .cut .all)))) .all)))))) .all)))))))) (by decide) (by kernel_rfl)
theorem paok142 : FOk Proofs.Tryz.prog (142, pa142) := fOk (by decide) (by kernel_rfl)
theorem paok143 : FOk Proofs.Tryz.prog (143, pa143) := fOk (by decide) (by kernel_rfl)
theorem paok144 : FOk Proofs.Tryz.prog (144, pa144) := fOk (by decide) (by kernel_rfl)
theorem paok146 : FOk Proofs.Tryz.prog (146, pa146) := fOk (by decide) (by kernel_rfl)
theorem paok147 : FOk Proofs.Tryz.prog (147, pa147) := fOk (by decide) (by kernel_rfl)
theorem paok148 : FOk Proofs.Tryz.prog (148, pa148) := fOk (by decide) (by kernel_rfl)
theorem paok150 : FOk Proofs.Tryz.prog (150, pa150) := fOkP (m := (.two .all (.two (.one (.two .all (.two .cut (.two .all (.two .cut .all))))) (.two .all (.two (.two .all (.one (.one (.two .all (.two .all (.two (.one (.two .all (.two .all (.two (.two .all (.two .cut .all)) .all)))) .all)))))) .all))))) (by decide) (by kernel_rfl)
theorem paok153 : FOk Proofs.Tryz.prog (153, pa153) := fOk (by decide) (by kernel_rfl)
theorem paok155 : FOk Proofs.Tryz.prog (155, pa155) := fOkP (m := (.two .all (.two .all (.two (.two .all (.one (.one (.two .all (.two .all .cut))))) .all)))) (by decide) (by kernel_rfl)
theorem paok156 : FOk Proofs.Tryz.prog (156, pa156) := fOkP (m := (.two .all (.two .all (.two .all (.two (.two .all (.two .cut .all)) .all))))) (by decide) (by kernel_rfl)
theorem paok157 : FOk Proofs.Tryz.prog (157, pa157) := fOkP (m := (.two .all (.two (.two .all (.two .cut .all)) (.two .all (.two .all (.two (.two .all (.one (.one (.two .all (.two .all .cut))))) .all)))))) (by decide) (by kernel_rfl)
theorem paok158 : FOk Proofs.Tryz.prog (158, pa158) := fOk (by decide) (by kernel_rfl)
theorem paok159 : FOk Proofs.Tryz.prog (159, pa159) := fOk (by decide) (by kernel_rfl)
theorem paok162 : FOk Proofs.Tryz.prog (162, pa162) := fOk (by decide) (by kernel_rfl)
theorem paok165 : FOk Proofs.Tryz.prog (165, pa165) := fOk (by decide) (by kernel_rfl)
theorem paok166 : FOk Proofs.Tryz.prog (166, pa166) := fOk (by decide) (by kernel_rfl)
theorem paok167 : FOk Proofs.Tryz.prog (167, pa167) := fOk (by decide) (by kernel_rfl)
theorem paok170 : FOk Proofs.Tryz.prog (170, pa170) := fOkP (m := (.two .all (.two .all .cut))) (by decide) (by kernel_rfl)
theorem paok171 : FOk Proofs.Tryz.prog (171, pa171) := fOkP (m := (.two .all (.two .all (.two (.two .all (.two .cut .all)) .all)))) (by decide) (by kernel_rfl)
theorem paok173 : FOk Proofs.Tryz.prog (173, pa173) := fOkP (m := (.two .all (.two .all .cut))) (by decide) (by kernel_rfl)
end Go.AM
namespace Go.AM
open Go
set_option maxHeartbeats 0
set_option maxRecDepth 100000
theorem paok206 : FOk Proofs.Tryz.prog (206, pa206) := fOk (by decide) (by kernel_rfl)
theorem paok207 : FOk Proofs.Tryz.prog (207, pa207) := fOkP (m := (.two .all (.two (.two .all (.two .cut .all)) (.two (.two .all (.two .all (.two .cut .all))) (.two .all (.two (.one (.two .all (.two .cut (.two .all (.two .all (.two .all (.two .cut (.two .all (.two .cut .all))))))))) (.two (.two .all (.one (.two (.two .all (.two .all .cut)) (.two .all .cut)))) .cut))))))) (by decide) (by kernel_rfl)
theorem paok208 : FOk Proofs.Tryz.prog (208, pa208) := fOk (by decide) (by kernel_rfl)
theorem paok209 : FOk Proofs.Tryz.prog (209, pa209) := fOkP (m := (.two .all (.two (.one (.two .all (.two .cut (.two .all (.two .cut (.two .all (.two .cut (.two .all (.two .cut (.two .all (.two .cut .all))))))))))) (.two (.two .all (.two .all (.two .cut .all))) (.two (.two .all (.two .cut .all)) (.two .all (.two (.two .all (.two .cut .all)) .all))))))) (by decide) (by kernel_rfl)
theorem paok210 : FOk Proofs.Tryz.prog (210, pa210) := fOkP (m := (.two .all (.two .all (.two .all (.two .all (.two (.two .all (.one (.two .all (.two .all .cut)))) .all)))))) (by decide) (by kernel_rfl)
theorem paok213 : FOk Proofs.Tryz.prog (213, pa213) := fOkP (m := (.two .all (.two .all (.two (.two .all (.one (.one (.two .all (.two .all .cut))))) .all)))) (by decide) (by kernel_rfl)
theorem paok214 : FOk Proofs.Tryz.prog (214, pa214) := fOkP (m := (.two .all (.two (.two .all (.two .all (.two .cut .all))) (.two (.two .all (.two .cut .all)) (.two .all (.two (.two .all (.one (.one (.two .all (.two .all .cut))))) (.two .all (.two (.two .all (.two .cut .all)) .all)))))))) (by decide) (by kernel_rfl)
theorem paok215 : FOk Proofs.Tryz.prog (215, pa215) := fOkP (m := (.two .all (.two .all (.two (.two .all (.two .cut .all)) (.two (.two .all (.two .all (.two .cut .all))) (.two .all (.two .all (.two (.two .all (.two .all (.two .cut .all))) .all)))))))) (by decide) (by kernel_rfl)
theorem paok231 : FOk Proofs.Tryz.prog (231, pa231) := ⟨by decide, pa231p, by kernel_rfl, (.seq (.refl _) (.seq (.refl _) (.seq (.refl _) (.seq (.refl _) (.seq (.refl _) (.seq (.refl _) (.seq (.refl _) (.seq (.refl _) (.seq (.refl _) (.seq (.refl _) (.seq (.seq (.refl _) (.spl kept_ok)) (.refl _))))))))))))⟩
theorem paok232 : FOk Proofs.Tryz.prog (232, pa232) := fOkP (m := (.two .all (.two (.two .all (.two .all (.two .cut .all))) (.two (.one (.two .all (.two .cut (.two .all (.two .cut .all))))) .all)))) (by decide) (by kernel_rfl)
theorem paok243 : FOk Proofs.Tryz.prog (243, pa243) := fOk (by decide) (by kernel_rfl)
theorem paok270 : FOk Proofs.Tryz.prog (270, pa270) := fOkP (m := (.two .all (.two .all (.two .all (.two .all (.two (.two .all (.two .cut .all)) (.two .all (.two (.two .all (.one (.one (.two (.two .all (.two .all .cut)) (.two (.one (.two .all (.two (.two .all (.two .cut .all)) (.two .all (.two (.two .all (.two .cut .all)) .all))))) .cut))))) .cut)))))))) (by decide) (by kernel_rfl)
theorem paok271 : FOk Proofs.Tryz.prog (271, pa271) := fOkP (m := (.two .all (.two (.two .all (.two .cut .all)) .all))) (by decide) (by kernel_rfl)
theorem paok272 : FOk Proofs.Tryz.prog (272, pa272) := fOk (by decide) (by kernel_rfl)
theorem paok273 : FOk Proofs.Tryz.prog (273, pa273) := fOkP (m := (.two .all (.two .all (.two .all (.two (.one (.two .all (.two .cut (.two .all (.two .cut (.two .all (.two .cut (.two .all (.two .cut (.two .all (.two .cut (.two .all (.two .cut .all))))))))))))) (.two (.two .all (.one (.one (.two .all (.two .all (.two (.one (.two .all (.two .all (.two .all (.two .cut .all))))) .all)))))) .all)))))) (by decide) (by kernel_rfl)
theorem paok274 : FOk Proofs.Tryz.prog (274, pa274) := fOk (by decide) (by kernel_rfl)
theorem paok275 : FOk Proofs.Tryz.prog (275, pa275) := fOkP (m := (.two .all (.two .all (.two (.two .all (.two .cut .all)) .all)))) (by decide) (by kernel_rfl)
theorem paok276 : FOk Proofs.Tryz.prog (276, pa276) := fOk (by decide) (by kernel_rfl)
theorem paok277 : FOk Proofs.Tryz.prog (277, pa277) := fOk (by decide) (by kernel_rfl)
theorem paok287 : FOk Proofs.Tryz.prog (287, pa287) := fOkP (m := (.two .all (.two .all (.two .all (.two (.two .all (.one (.one (.two .all (.two (.one (.two .all (.two .all (.two .cut .all)))) .all))))) .all))))) (by decide) (by kernel_rfl)
theorem paok288 : FOk Proofs.Tryz.prog (288, pa288) := fOk (by decide) (by kernel_rfl)
theorem paok316 : FOk Proofs.Tryz.prog (316, pa316) := ⟨by decide, pa316p, by kernel_rfl, (.seq (.refl _) (.seq (.refl _) (.seq (.spl free_ok) (.refl _))))⟩
theorem paok317 : FOk Proofs.Tryz.prog (317, pa317) := fOkP (m := (.two .all (.two .all (.one (.one (.one (.two .all (.two .all (.two .all (.two (.two .all (.two .cut .all)) .all)))))))))) (by decide) (by kernel_rfl)
theorem paok318 : FOk Proofs.Tryz.prog (318, pa318) := fOkP (m := (.two .all (.two (.two .all (.two .cut .all)) (.two .all (.two (.two .all (.one (.one (.two (.two .all (.two .all .cut)) (.two (.one (.two (.two .all (.two .cut .all)) .all)) .all))))) .cut))))) (by decide) (by kernel_rfl)
theorem paok319 : FOk Proofs.Tryz.prog (319, pa319) := fOkP (m := (.two .all (.two .all (.two (.two .all (.two .cut .all)) .all)))) (by decide) (by kernel_rfl)
theorem paok320 : FOk Proofs.Tryz.prog (320, pa320) := fOkP (m := (.two .all (.two (.two .all (.two .cut .all)) .all))) (by decide) (by kernel_rfl)
theorem paok323 : FOk Proofs.Tryz.prog (323, pa323) := fOkP (m := (.two .all (.two (.two .all (.one (.one (.two .all (.two .all (.two .all .cut)))))) .all))) (by decide) (by kernel_rfl)
theorem paok335 : FOk Proofs.Tryz.prog (335, pa335) := fOkP (m := (.two .all (.two (.two .all (.two .cut .all)) .all))) (by decide) (by kernel_rfl)
theorem palok592 : LOk Proofs.Tryz.prog (592, pal592) := ⟨by decide, by kernel_rfl⟩
theorem palok640 : LOk Proofs.Tryz.prog (640, pal640) := ⟨by decide, by kernel_rfl⟩
end Go.AM
