/-
  The machine's tables are the program's. Conditions: none.
-/
import Derived.Test.YtmhhaimpignndaaGreatM16FO0
namespace Go.AM
open Go
set_option maxHeartbeats 0
set_option maxRecDepth 1000000
noncomputable def ppfc0 : List (Nat × AFn) := [(3, pp3), (8, pp8), (9, pp9), (10, pp10), (11, pp11), (12, pp12), (13, pp13), (14, pp14), (20, pp20), (27, pp27), (31, pp31), (32, pp32), (33, pp33), (34, pp34), (35, pp35), (36, pp36), (37, pp37), (38, pp38), (39, pp39), (40, pp40), (46, pp46), (49, pp49), (51, pp51), (60, pp60), (61, pp61), (62, pp62), (63, pp63), (64, pp64), (65, pp65), (66, pp66), (67, pp67), (68, pp68), (69, pp69), (70, pp70), (71, pp71), (72, pp72), (73, pp73), (74, pp74), (75, pp75), (76, pp76)]
theorem ppfc0_ok : All (FOk Proofs.Tryz.prog) ppfc0 := ⟨ppok3, ppok8, ppok9, ppok10, ppok11, ppok12, ppok13, ppok14, ppok20, ppok27, ppok31, ppok32, ppok33, ppok34, ppok35, ppok36, ppok37, ppok38, ppok39, ppok40, ppok46, ppok49, ppok51, ppok60, ppok61, ppok62, ppok63, ppok64, ppok65, ppok66, ppok67, ppok68, ppok69, ppok70, ppok71, ppok72, ppok73, ppok74, ppok75, ppok76, trivial⟩
noncomputable def ppfc1 : List (Nat × AFn) := [(77, pp77), (78, pp78), (79, pp79), (80, pp80), (81, pp81), (87, pp87), (98, pp98), (106, pp106), (107, pp107), (108, pp108), (109, pp109), (110, pp110), (111, pp111), (112, pp112), (113, pp113), (114, pp114), (115, pp115), (116, pp116), (117, pp117), (118, pp118), (119, pp119), (121, pp121), (122, pp122), (123, pp123), (129, pp129), (130, pp130), (131, pp131), (144, pp144), (145, pp145), (146, pp146), (147, pp147), (148, pp148), (149, pp149), (150, pp150), (151, pp151), (152, pp152), (153, pp153), (154, pp154), (155, pp155), (161, pp161)]
theorem ppfc1_ok : All (FOk Proofs.Tryz.prog) ppfc1 := ⟨ppok77, ppok78, ppok79, ppok80, ppok81, ppok87, ppok98, ppok106, ppok107, ppok108, ppok109, ppok110, ppok111, ppok112, ppok113, ppok114, ppok115, ppok116, ppok117, ppok118, ppok119, ppok121, ppok122, ppok123, ppok129, ppok130, ppok131, ppok144, ppok145, ppok146, ppok147, ppok148, ppok149, ppok150, ppok151, ppok152, ppok153, ppok154, ppok155, ppok161, trivial⟩
noncomputable def ppfc2 : List (Nat × AFn) := [(174, pp174), (175, pp175), (176, pp176), (177, pp177), (178, pp178), (179, pp179), (180, pp180), (181, pp181), (182, pp182), (183, pp183), (184, pp184), (191, pp191), (192, pp192), (193, pp193), (194, pp194), (195, pp195), (196, pp196), (197, pp197), (202, pp202), (203, pp203), (204, pp204), (205, pp205), (206, pp206), (207, pp207), (209, pp209), (210, pp210), (215, pp215), (218, pp218)]
theorem ppfc2_ok : All (FOk Proofs.Tryz.prog) ppfc2 := ⟨ppok174, ppok175, ppok176, ppok177, ppok178, ppok179, ppok180, ppok181, ppok182, ppok183, ppok184, ppok191, ppok192, ppok193, ppok194, ppok195, ppok196, ppok197, ppok202, ppok203, ppok204, ppok205, ppok206, ppok207, ppok209, ppok210, ppok215, ppok218, trivial⟩
noncomputable def pplc0 : List (Nat × ALp) := [(2096, ppl2096)]
theorem pplc0_ok : All (LOk Proofs.Tryz.prog) pplc0 := ⟨pplok2096, trivial⟩
theorem ppfl_eq : ppfl = ppfc0 ++ (ppfc1 ++ (ppfc2 ++ [])) := by kernel_rfl
theorem ppll_eq : ppll = pplc0 ++ [] := by kernel_rfl
theorem pptb : TbOk ppT Proofs.Tryz.prog := by
  rw [ppT_eq, ppfl_eq, ppll_eq]
  exact tbOk (All.app ppfc0_ok (All.app ppfc1_ok (All.app ppfc2_ok trivial))) (All.app pplc0_ok trivial)
end Go.AM
