/-
  The machine's tables are the program's. Conditions: none.
-/
import Derived.Test.YthdnombgdnpcbaaGreatM27WO0
namespace Go.AM
open Go
set_option maxHeartbeats 0
set_option maxRecDepth 1000000
noncomputable def pafc0 : List (Nat × AFn) := [(4, pa4), (5, pa5), (6, pa6), (7, pa7), (8, pa8), (9, pa9), (10, pa10), (11, pa11), (12, pa12), (13, pa13), (14, pa14), (15, pa15), (16, pa16), (17, pa17), (18, pa18), (19, pa19), (20, pa20), (22, pa22), (23, pa23), (24, pa24), (25, pa25), (26, pa26), (27, pa27), (28, pa28), (29, pa29), (30, pa30), (31, pa31), (32, pa32), (33, pa33), (34, pa34), (35, pa35), (37, pa37), (38, pa38), (39, pa39), (40, pa40), (41, pa41), (42, pa42), (43, pa43), (44, pa44), (45, pa45)]
theorem pafc0_ok : All (FOk Proofs.Tryz.prog) pafc0 := ⟨paok4, paok5, paok6, paok7, paok8, paok9, paok10, paok11, paok12, paok13, paok14, paok15, paok16, paok17, paok18, paok19, paok20, paok22, paok23, paok24, paok25, paok26, paok27, paok28, paok29, paok30, paok31, paok32, paok33, paok34, paok35, paok37, paok38, paok39, paok40, paok41, paok42, paok43, paok44, paok45, trivial⟩
noncomputable def pafc1 : List (Nat × AFn) := [(47, pa47), (48, pa48), (49, pa49), (50, pa50), (51, pa51), (52, pa52), (54, pa54), (55, pa55), (56, pa56), (57, pa57), (58, pa58), (68, pa68), (71, pa71), (72, pa72), (73, pa73), (74, pa74), (78, pa78), (79, pa79), (81, pa81), (92, pa92), (98, pa98), (104, pa104), (107, pa107), (114, pa114), (115, pa115), (126, pa126), (127, pa127), (134, pa134), (135, pa135), (141, pa141), (142, pa142), (143, pa143), (144, pa144), (146, pa146), (147, pa147), (148, pa148), (150, pa150), (153, pa153), (155, pa155), (156, pa156)]
theorem pafc1_ok : All (FOk Proofs.Tryz.prog) pafc1 := ⟨paok47, paok48, paok49, paok50, paok51, paok52, paok54, paok55, paok56, paok57, paok58, paok68, paok71, paok72, paok73, paok74, paok78, paok79, paok81, paok92, paok98, paok104, paok107, paok114, paok115, paok126, paok127, paok134, paok135, paok141, paok142, paok143, paok144, paok146, paok147, paok148, paok150, paok153, paok155, paok156, trivial⟩
noncomputable def pafc2 : List (Nat × AFn) := [(157, pa157), (158, pa158), (159, pa159), (162, pa162), (165, pa165), (166, pa166), (167, pa167), (170, pa170), (171, pa171), (173, pa173), (206, pa206), (207, pa207), (208, pa208), (209, pa209), (210, pa210), (213, pa213), (214, pa214), (215, pa215), (231, pa231), (232, pa232), (243, pa243), (270, pa270), (271, pa271), (272, pa272), (273, pa273), (274, pa274), (275, pa275), (276, pa276), (277, pa277), (287, pa287), (288, pa288), (316, pa316), (317, pa317), (318, pa318), (319, pa319), (320, pa320), (323, pa323), (335, pa335)]
theorem pafc2_ok : All (FOk Proofs.Tryz.prog) pafc2 := ⟨paok157, paok158, paok159, paok162, paok165, paok166, paok167, paok170, paok171, paok173, paok206, paok207, paok208, paok209, paok210, paok213, paok214, paok215, paok231, paok232, paok243, paok270, paok271, paok272, paok273, paok274, paok275, paok276, paok277, paok287, paok288, paok316, paok317, paok318, paok319, paok320, paok323, paok335, trivial⟩
noncomputable def palc0 : List (Nat × ALp) := [(592, pal592), (640, pal640)]
theorem palc0_ok : All (LOk Proofs.Tryz.prog) palc0 := ⟨palok592, palok640, trivial⟩
theorem pafl_eq : pafl = pafc0 ++ (pafc1 ++ (pafc2 ++ [])) := by kernel_rfl
theorem pall_eq : pall = palc0 ++ [] := by kernel_rfl
theorem patb : TbOk paT Proofs.Tryz.prog := by
  rw [paT_eq, pafl_eq, pall_eq]
  exact tbOk (All.app pafc0_ok (All.app pafc1_ok (All.app pafc2_ok trivial))) (All.app palc0_ok trivial)
end Go.AM
