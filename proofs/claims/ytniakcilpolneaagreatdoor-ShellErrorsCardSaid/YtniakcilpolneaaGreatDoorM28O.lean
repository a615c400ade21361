/-
  The machine's tables are the program's. Conditions: none.
-/
import Derived.Test.YtniakcilpolneaaGreatDoorM28O0
import Derived.Test.YtniakcilpolneaaGreatDoorM28O1
import Derived.Test.YtniakcilpolneaaGreatDoorM28O2
import Derived.Test.YtniakcilpolneaaGreatDoorM28O3
import Derived.Test.YtniakcilpolneaaGreatDoorM28S
namespace Go.AM
open Go
set_option maxHeartbeats 0
set_option maxRecDepth 1000000
noncomputable def shfc0 : List (Nat × AFn) := [(3, sh3), (4, sh4), (5, sh5), (6, sh6), (7, sh7), (8, sh8), (9, sh9), (10, sh10), (11, sh11), (12, sh12), (13, sh13), (14, sh14), (15, sh15), (16, sh16), (17, sh17), (18, sh18), (19, sh19), (20, sh20), (21, sh21), (22, sh22), (23, sh23), (24, sh24), (25, sh25), (26, sh26), (28, sh28), (29, sh29), (30, sh30), (31, sh31), (32, sh32), (34, sh34), (35, sh35), (37, sh37), (39, sh39), (40, sh40), (41, sh41), (42, sh42), (43, sh43), (44, sh44), (45, sh45), (46, sh46)]
theorem shfc0_ok : All (FOk Proofs.Tryz.prog) shfc0 := ⟨shok3, shok4, shok5, shok6, shok7, shok8, shok9, shok10, shok11, shok12, shok13, shok14, shok15, shok16, shok17, shok18, shok19, shok20, shok21, shok22, shok23, shok24, shok25, shok26, shok28, shok29, shok30, shok31, shok32, shok34, shok35, shok37, shok39, shok40, shok41, shok42, shok43, shok44, shok45, shok46, trivial⟩
noncomputable def shfc1 : List (Nat × AFn) := [(47, sh47), (48, sh48), (51, sh51), (52, sh52), (53, sh53), (54, sh54), (55, sh55), (60, sh60), (63, sh63), (64, sh64), (65, sh65), (66, sh66), (67, sh67), (68, sh68), (69, sh69), (70, sh70), (71, sh71), (73, sh73), (74, sh74), (75, sh75), (76, sh76), (77, sh77), (78, sh78), (79, sh79), (80, sh80), (81, sh81), (82, sh82), (83, sh83), (87, sh87), (102, sh102), (103, sh103), (106, sh106), (107, sh107), (109, sh109), (111, sh111), (117, sh117), (121, sh121), (122, sh122), (124, sh124), (125, sh125)]
theorem shfc1_ok : All (FOk Proofs.Tryz.prog) shfc1 := ⟨shok47, shok48, shok51, shok52, shok53, shok54, shok55, shok60, shok63, shok64, shok65, shok66, shok67, shok68, shok69, shok70, shok71, shok73, shok74, shok75, shok76, shok77, shok78, shok79, shok80, shok81, shok82, shok83, shok87, shok102, shok103, shok106, shok107, shok109, shok111, shok117, shok121, shok122, shok124, shok125, trivial⟩
noncomputable def shfc2 : List (Nat × AFn) := [(126, sh126), (127, sh127), (128, sh128), (129, sh129), (130, sh130), (131, sh131), (132, sh132), (133, sh133), (134, sh134), (135, sh135), (136, sh136), (138, sh138), (139, sh139), (140, sh140), (141, sh141), (142, sh142), (143, sh143), (144, sh144), (145, sh145), (146, sh146), (147, sh147), (148, sh148), (149, sh149), (150, sh150), (151, sh151), (152, sh152), (153, sh153), (154, sh154), (155, sh155), (163, sh163), (194, sh194), (196, sh196), (197, sh197), (198, sh198), (200, sh200), (201, sh201), (207, sh207), (208, sh208), (210, sh210), (211, sh211)]
theorem shfc2_ok : All (FOk Proofs.Tryz.prog) shfc2 := ⟨shok126, shok127, shok128, shok129, shok130, shok131, shok132, shok133, shok134, shok135, shok136, shok138, shok139, shok140, shok141, shok142, shok143, shok144, shok145, shok146, shok147, shok148, shok149, shok150, shok151, shok152, shok153, shok154, shok155, shok163, shok194, shok196, shok197, shok198, shok200, shok201, shok207, shok208, shok210, shok211, trivial⟩
noncomputable def shfc3 : List (Nat × AFn) := [(215, sh215), (216, sh216), (217, sh217), (218, sh218), (219, sh219), (220, sh220), (221, sh221), (222, sh222), (223, sh223), (224, sh224), (225, sh225), (226, sh226), (227, sh227), (233, sh233), (234, sh234), (235, sh235), (236, sh236), (237, sh237), (247, sh247), (248, sh248), (257, sh257), (258, sh258), (292, (.sp tzS)), (293, sh293), (302, sh302), (303, sh303), (304, sh304), (306, sh306), (307, sh307), (308, sh308), (309, sh309), (310, sh310), (315, sh315), (316, sh316), (317, sh317), (328, sh328), (338, sh338), (354, sh354), (355, sh355), (356, sh356)]
theorem shfc3_ok : All (FOk Proofs.Tryz.prog) shfc3 := ⟨shok215, shok216, shok217, shok218, shok219, shok220, shok221, shok222, shok223, shok224, shok225, shok226, shok227, shok233, shok234, shok235, shok236, shok237, shok247, shok248, shok257, shok258, shsp292, shok293, shok302, shok303, shok304, shok306, shok307, shok308, shok309, shok310, shok315, shok316, shok317, shok328, shok338, shok354, shok355, shok356, trivial⟩
noncomputable def shfc4 : List (Nat × AFn) := [(359, sh359), (360, sh360), (362, sh362)]
theorem shfc4_ok : All (FOk Proofs.Tryz.prog) shfc4 := ⟨shok359, shok360, shok362, trivial⟩
noncomputable def shlc0 : List (Nat × ALp) := [(1184, shl1184)]
theorem shlc0_ok : All (LOk Proofs.Tryz.prog) shlc0 := ⟨shlok1184, trivial⟩
theorem shfl_eq : shfl = shfc0 ++ (shfc1 ++ (shfc2 ++ (shfc3 ++ (shfc4 ++ [])))) := by kernel_rfl
theorem shll_eq : shll = shlc0 ++ [] := by kernel_rfl
theorem shtb : TbOk shT Proofs.Tryz.prog := by
  rw [shT_eq, shfl_eq, shll_eq]
  exact tbOk (All.app shfc0_ok (All.app shfc1_ok (All.app shfc2_ok (All.app shfc3_ok (All.app shfc4_ok trivial))))) (All.app shlc0_ok trivial)
end Go.AM
