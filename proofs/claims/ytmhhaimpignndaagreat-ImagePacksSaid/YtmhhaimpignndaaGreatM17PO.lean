/-
  The machine's tables are the program's. Conditions: none.
-/
import Derived.Test.YtmhhaimpignndaaGreatM17PO0
namespace Go.AM
open Go
set_option maxHeartbeats 0
set_option maxRecDepth 1000000
noncomputable def ppfc0 : List (Nat × AFn) := [(5, pp5), (9, pp9), (10, pp10), (11, pp11), (12, pp12), (15, pp15), (16, pp16), (17, pp17), (18, pp18), (19, pp19), (20, pp20), (21, pp21), (22, pp22), (23, pp23), (24, pp24), (27, pp27), (32, pp32), (33, pp33), (34, pp34), (35, pp35), (36, pp36), (37, pp37), (38, pp38), (39, pp39), (40, pp40), (41, pp41), (42, pp42), (43, pp43), (44, pp44), (45, pp45), (46, pp46), (47, pp47), (48, pp48), (49, pp49), (50, pp50), (51, pp51), (57, pp57), (58, pp58), (63, pp63), (65, pp65)]
theorem ppfc0_ok : All (FOk Proofs.Tryz.prog) ppfc0 := ⟨ppok5, ppok9, ppok10, ppok11, ppok12, ppok15, ppok16, ppok17, ppok18, ppok19, ppok20, ppok21, ppok22, ppok23, ppok24, ppok27, ppok32, ppok33, ppok34, ppok35, ppok36, ppok37, ppok38, ppok39, ppok40, ppok41, ppok42, ppok43, ppok44, ppok45, ppok46, ppok47, ppok48, ppok49, ppok50, ppok51, ppok57, ppok58, ppok63, ppok65, trivial⟩
noncomputable def ppfc1 : List (Nat × AFn) := [(66, pp66), (67, pp67), (68, pp68), (69, pp69), (70, pp70), (71, pp71), (72, pp72), (73, pp73), (74, pp74), (75, pp75), (76, pp76), (77, pp77), (78, pp78), (79, pp79), (80, pp80), (81, pp81), (82, pp82), (83, pp83), (84, pp84), (85, pp85), (86, pp86), (87, pp87), (88, pp88), (89, pp89), (90, pp90), (91, pp91), (92, pp92), (93, pp93), (95, pp95), (98, pp98), (99, pp99), (100, pp100), (101, pp101), (102, pp102), (103, pp103), (105, pp105), (111, pp111), (112, pp112), (113, pp113), (114, pp114)]
theorem ppfc1_ok : All (FOk Proofs.Tryz.prog) ppfc1 := ⟨ppok66, ppok67, ppok68, ppok69, ppok70, ppok71, ppok72, ppok73, ppok74, ppok75, ppok76, ppok77, ppok78, ppok79, ppok80, ppok81, ppok82, ppok83, ppok84, ppok85, ppok86, ppok87, ppok88, ppok89, ppok90, ppok91, ppok92, ppok93, ppok95, ppok98, ppok99, ppok100, ppok101, ppok102, ppok103, ppok105, ppok111, ppok112, ppok113, ppok114, trivial⟩
noncomputable def ppfc2 : List (Nat × AFn) := [(115, pp115), (116, pp116), (117, pp117), (118, pp118), (119, pp119), (121, pp121), (122, pp122), (123, pp123), (124, pp124), (125, pp125), (126, pp126), (127, pp127), (128, pp128), (129, pp129), (130, pp130), (131, pp131), (132, pp132), (133, pp133), (134, pp134), (135, pp135), (136, pp136), (137, pp137), (138, pp138), (139, pp139), (141, pp141), (142, pp142), (143, pp143), (144, pp144), (145, pp145), (146, pp146), (147, pp147), (148, pp148), (149, pp149), (150, pp150), (151, pp151), (152, pp152), (153, pp153), (154, pp154), (155, pp155), (156, pp156)]
theorem ppfc2_ok : All (FOk Proofs.Tryz.prog) ppfc2 := ⟨ppok115, ppok116, ppok117, ppok118, ppok119, ppok121, ppok122, ppok123, ppok124, ppok125, ppok126, ppok127, ppok128, ppok129, ppok130, ppok131, ppok132, ppok133, ppok134, ppok135, ppok136, ppok137, ppok138, ppok139, ppok141, ppok142, ppok143, ppok144, ppok145, ppok146, ppok147, ppok148, ppok149, ppok150, ppok151, ppok152, ppok153, ppok154, ppok155, ppok156, trivial⟩
noncomputable def ppfc3 : List (Nat × AFn) := [(157, pp157), (158, pp158), (159, pp159), (160, pp160), (161, pp161), (162, pp162), (163, pp163), (164, pp164), (165, pp165), (166, pp166), (167, pp167), (168, pp168), (169, pp169), (170, pp170), (171, pp171), (172, pp172), (173, pp173), (174, pp174), (175, pp175), (176, pp176), (177, pp177), (178, pp178), (179, pp179), (180, pp180), (181, pp181), (182, pp182), (183, pp183), (184, pp184), (185, pp185), (186, pp186), (187, pp187), (188, pp188), (189, pp189), (190, pp190), (191, pp191), (192, pp192), (193, pp193), (194, pp194), (195, pp195), (196, pp196)]
theorem ppfc3_ok : All (FOk Proofs.Tryz.prog) ppfc3 := ⟨ppok157, ppok158, ppok159, ppok160, ppok161, ppok162, ppok163, ppok164, ppok165, ppok166, ppok167, ppok168, ppok169, ppok170, ppok171, ppok172, ppok173, ppok174, ppok175, ppok176, ppok177, ppok178, ppok179, ppok180, ppok181, ppok182, ppok183, ppok184, ppok185, ppok186, ppok187, ppok188, ppok189, ppok190, ppok191, ppok192, ppok193, ppok194, ppok195, ppok196, trivial⟩
noncomputable def ppfc4 : List (Nat × AFn) := [(197, pp197), (198, pp198), (199, pp199), (202, pp202), (203, pp203), (204, pp204), (205, pp205), (206, pp206), (207, pp207), (209, pp209), (210, pp210), (215, pp215), (218, pp218)]
theorem ppfc4_ok : All (FOk Proofs.Tryz.prog) ppfc4 := ⟨ppok197, ppok198, ppok199, ppok202, ppok203, ppok204, ppok205, ppok206, ppok207, ppok209, ppok210, ppok215, ppok218, trivial⟩
noncomputable def pplc0 : List (Nat × ALp) := [(1680, ppl1680), (2096, ppl2096), (3008, ppl3008)]
theorem pplc0_ok : All (LOk Proofs.Tryz.prog) pplc0 := ⟨pplok1680, pplok2096, pplok3008, trivial⟩
theorem ppfl_eq : ppfl = ppfc0 ++ (ppfc1 ++ (ppfc2 ++ (ppfc3 ++ (ppfc4 ++ [])))) := by kernel_rfl
theorem ppll_eq : ppll = pplc0 ++ [] := by kernel_rfl
theorem pptb : TbOk ppT Proofs.Tryz.prog := by
  rw [ppT_eq, ppfl_eq, ppll_eq]
  exact tbOk (All.app ppfc0_ok (All.app ppfc1_ok (All.app ppfc2_ok (All.app ppfc3_ok (All.app ppfc4_ok trivial))))) (All.app pplc0_ok trivial)
end Go.AM
