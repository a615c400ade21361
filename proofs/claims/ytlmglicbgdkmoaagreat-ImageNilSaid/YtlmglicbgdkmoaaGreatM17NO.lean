/-
  The machine's tables are the program's. Conditions: none.
-/
import Derived.Test.YtlmglicbgdkmoaaGreatM17NO0
import Derived.Test.YtlmglicbgdkmoaaGreatM17NO1
import Derived.Test.YtlmglicbgdkmoaaGreatM17NO2
import Derived.Test.YtlmglicbgdkmoaaGreatM17NO3
namespace Go.AM
open Go
set_option maxHeartbeats 0
set_option maxRecDepth 1000000
noncomputable def mafc0 : List (Nat × AFn) := [(3, ma3), (7, ma7), (8, ma8), (9, ma9), (10, ma10), (11, ma11), (12, ma12), (13, ma13), (14, ma14), (15, ma15), (16, ma16), (17, ma17), (18, ma18), (19, ma19), (34, ma34), (35, ma35), (36, ma36), (37, ma37), (38, ma38), (39, ma39), (40, ma40), (41, ma41), (42, ma42), (43, ma43), (44, ma44), (45, ma45), (46, ma46), (47, ma47), (48, ma48), (49, ma49), (50, ma50), (51, ma51), (52, ma52), (53, ma53), (54, ma54), (55, ma55), (56, ma56), (57, ma57), (64, ma64), (74, ma74)]
theorem mafc0_ok : All (FOk Proofs.Tryz.prog) mafc0 := ⟨maok3, maok7, maok8, maok9, maok10, maok11, maok12, maok13, maok14, maok15, maok16, maok17, maok18, maok19, maok34, maok35, maok36, maok37, maok38, maok39, maok40, maok41, maok42, maok43, maok44, maok45, maok46, maok47, maok48, maok49, maok50, maok51, maok52, maok53, maok54, maok55, maok56, maok57, maok64, maok74, trivial⟩
noncomputable def mafc1 : List (Nat × AFn) := [(83, ma83), (84, ma84), (85, ma85), (86, ma86), (87, ma87), (88, ma88), (89, ma89), (90, ma90), (91, ma91), (92, ma92), (93, ma93), (94, ma94), (95, ma95), (96, ma96), (97, ma97), (98, ma98), (99, ma99), (100, ma100), (101, ma101), (102, ma102), (103, ma103), (104, ma104), (105, ma105), (106, ma106), (107, ma107), (108, ma108), (109, ma109), (110, ma110), (111, ma111), (112, ma112), (113, ma113), (114, ma114), (115, ma115), (116, ma116), (117, ma117), (118, ma118), (119, ma119), (120, ma120), (121, ma121), (122, ma122)]
theorem mafc1_ok : All (FOk Proofs.Tryz.prog) mafc1 := ⟨maok83, maok84, maok85, maok86, maok87, maok88, maok89, maok90, maok91, maok92, maok93, maok94, maok95, maok96, maok97, maok98, maok99, maok100, maok101, maok102, maok103, maok104, maok105, maok106, maok107, maok108, maok109, maok110, maok111, maok112, maok113, maok114, maok115, maok116, maok117, maok118, maok119, maok120, maok121, maok122, trivial⟩
noncomputable def mafc2 : List (Nat × AFn) := [(123, ma123), (124, ma124), (125, ma125), (126, ma126), (127, ma127), (150, ma150), (151, ma151), (152, ma152), (153, ma153), (154, ma154), (155, ma155), (156, ma156), (157, ma157), (158, ma158), (159, ma159), (160, ma160), (161, ma161), (162, ma162), (163, ma163), (164, ma164), (165, ma165), (166, ma166), (167, ma167), (168, ma168), (169, ma169), (170, ma170), (171, ma171), (172, ma172), (173, ma173), (174, ma174), (175, ma175), (176, ma176), (177, ma177), (178, ma178), (179, ma179), (180, ma180), (181, ma181), (182, ma182), (183, ma183), (184, ma184)]
theorem mafc2_ok : All (FOk Proofs.Tryz.prog) mafc2 := ⟨maok123, maok124, maok125, maok126, maok127, maok150, maok151, maok152, maok153, maok154, maok155, maok156, maok157, maok158, maok159, maok160, maok161, maok162, maok163, maok164, maok165, maok166, maok167, maok168, maok169, maok170, maok171, maok172, maok173, maok174, maok175, maok176, maok177, maok178, maok179, maok180, maok181, maok182, maok183, maok184, trivial⟩
noncomputable def mafc3 : List (Nat × AFn) := [(185, ma185), (233, ma233), (234, ma234), (235, ma235), (236, ma236), (237, ma237), (238, ma238), (239, ma239), (240, ma240), (241, ma241), (242, ma242), (243, ma243), (244, ma244), (245, ma245), (246, ma246), (247, ma247), (248, ma248), (249, ma249), (250, ma250), (251, ma251), (252, ma252), (253, ma253), (254, ma254), (255, ma255), (256, ma256), (257, ma257), (258, ma258), (259, ma259), (260, ma260), (261, ma261), (262, ma262), (265, ma265), (327, ma327), (328, ma328), (329, ma329), (330, ma330), (331, ma331), (332, ma332), (333, ma333), (334, ma334)]
theorem mafc3_ok : All (FOk Proofs.Tryz.prog) mafc3 := ⟨maok185, maok233, maok234, maok235, maok236, maok237, maok238, maok239, maok240, maok241, maok242, maok243, maok244, maok245, maok246, maok247, maok248, maok249, maok250, maok251, maok252, maok253, maok254, maok255, maok256, maok257, maok258, maok259, maok260, maok261, maok262, maok265, maok327, maok328, maok329, maok330, maok331, maok332, maok333, maok334, trivial⟩
noncomputable def mafc4 : List (Nat × AFn) := [(335, ma335), (336, ma336), (337, ma337), (338, ma338), (339, ma339), (340, ma340), (369, ma369), (370, ma370), (371, ma371), (372, ma372), (373, ma373), (374, ma374), (375, ma375), (376, ma376), (384, ma384), (385, ma385), (386, ma386), (387, ma387), (388, ma388), (389, ma389), (390, ma390), (391, ma391), (393, ma393), (394, ma394), (396, ma396), (397, ma397), (398, ma398), (404, ma404), (407, ma407), (408, ma408), (416, ma416)]
theorem mafc4_ok : All (FOk Proofs.Tryz.prog) mafc4 := ⟨maok335, maok336, maok337, maok338, maok339, maok340, maok369, maok370, maok371, maok372, maok373, maok374, maok375, maok376, maok384, maok385, maok386, maok387, maok388, maok389, maok390, maok391, maok393, maok394, maok396, maok397, maok398, maok404, maok407, maok408, maok416, trivial⟩
noncomputable def malc0 : List (Nat × ALp) := [(1600, mal1600), (1616, mal1616), (1840, mal1840), (5232, mal5232)]
theorem malc0_ok : All (LOk Proofs.Tryz.prog) malc0 := ⟨malok1600, malok1616, malok1840, malok5232, trivial⟩
theorem mafl_eq : mafl = mafc0 ++ (mafc1 ++ (mafc2 ++ (mafc3 ++ (mafc4 ++ [])))) := by kernel_rfl
theorem mall_eq : mall = malc0 ++ [] := by kernel_rfl
theorem matb : TbOk maT Proofs.Tryz.prog := by
  rw [maT_eq, mafl_eq, mall_eq]
  exact tbOk (All.app mafc0_ok (All.app mafc1_ok (All.app mafc2_ok (All.app mafc3_ok (All.app mafc4_ok trivial))))) (All.app malc0_ok trivial)
end Go.AM
