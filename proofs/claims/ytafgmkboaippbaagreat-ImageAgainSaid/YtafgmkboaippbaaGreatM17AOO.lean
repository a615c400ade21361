/-
  The machine's second tables are the program's. Conditions: none.
-/
import Derived.Test.YtafgmkboaippbaaGreatM17AO
import Derived.Test.YtafgmkboaippbaaGreatM17AT2
import Derived.Test.YtafgmkboaippbaaGreatM17AZ
namespace Go.AM
open Go
set_option maxHeartbeats 0
set_option maxRecDepth 1000000
noncomputable def iagc0 : List (Nat × AFn) := [(3, ia3), (4, ia4), (5, ia5), (6, ia6), (7, ia7), (8, ia8), (9, ia9), (10, ia10), (11, (.sp spTrue)), (12, ia12), (13, ia13), (14, ia14), (15, ia15), (16, ia16), (17, ia17), (18, ia18), (19, ia19), (20, ia20), (21, ia21), (22, ia22), (23, ia23), (24, ia24), (25, ia25), (26, ia26), (27, ia27), (28, ia28), (29, ia29), (30, ia30), (31, ia31), (32, ia32), (33, ia33), (34, ia34), (35, ia35), (36, ia36), (37, ia37), (38, ia38), (39, ia39), (40, ia40), (41, ia41), (42, ia42)]
theorem iagc0_ok : All (FOk Proofs.Tryz.prog) iagc0 := ⟨iaok3, iaok4, iaok5, iaok6, iaok7, iaok8, iaok9, iaok10, iasp11, iaok12, iaok13, iaok14, iaok15, iaok16, iaok17, iaok18, iaok19, iaok20, iaok21, iaok22, iaok23, iaok24, iaok25, iaok26, iaok27, iaok28, iaok29, iaok30, iaok31, iaok32, iaok33, iaok34, iaok35, iaok36, iaok37, iaok38, iaok39, iaok40, iaok41, iaok42, trivial⟩
noncomputable def iagc1 : List (Nat × AFn) := [(43, ia43), (44, ia44), (45, ia45), (46, ia46), (47, ia47), (48, ia48), (49, ia49), (50, ia50), (51, ia51), (52, ia52), (53, ia53), (54, ia54), (55, ia55), (56, ia56), (57, ia57), (58, ia58), (59, ia59), (60, ia60), (61, ia61), (62, ia62), (63, ia63), (64, ia64), (65, ia65), (66, ia66), (67, ia67), (68, ia68), (69, ia69), (70, ia70), (71, ia71), (72, ia72), (73, ia73), (74, ia74), (75, ia75), (76, ia76), (77, ia77), (78, ia78), (79, ia79), (80, ia80), (81, ia81), (82, ia82)]
theorem iagc1_ok : All (FOk Proofs.Tryz.prog) iagc1 := ⟨iaok43, iaok44, iaok45, iaok46, iaok47, iaok48, iaok49, iaok50, iaok51, iaok52, iaok53, iaok54, iaok55, iaok56, iaok57, iaok58, iaok59, iaok60, iaok61, iaok62, iaok63, iaok64, iaok65, iaok66, iaok67, iaok68, iaok69, iaok70, iaok71, iaok72, iaok73, iaok74, iaok75, iaok76, iaok77, iaok78, iaok79, iaok80, iaok81, iaok82, trivial⟩
noncomputable def iagc2 : List (Nat × AFn) := [(83, ia83), (84, ia84), (85, ia85), (86, ia86), (87, ia87), (88, ia88), (89, ia89), (90, ia90), (91, ia91), (92, ia92), (93, ia93), (94, ia94), (95, ia95), (96, ia96), (97, ia97), (98, ia98), (99, ia99), (100, ia100), (101, ia101), (102, ia102), (103, ia103), (104, ia104), (105, ia105), (106, ia106), (107, ia107), (108, ia108), (109, ia109), (110, ia110), (111, ia111), (112, ia112), (113, ia113), (114, ia114), (115, ia115), (116, ia116), (117, ia117), (118, ia118), (119, ia119), (120, ia120), (121, ia121), (122, ia122)]
theorem iagc2_ok : All (FOk Proofs.Tryz.prog) iagc2 := ⟨iaok83, iaok84, iaok85, iaok86, iaok87, iaok88, iaok89, iaok90, iaok91, iaok92, iaok93, iaok94, iaok95, iaok96, iaok97, iaok98, iaok99, iaok100, iaok101, iaok102, iaok103, iaok104, iaok105, iaok106, iaok107, iaok108, iaok109, iaok110, iaok111, iaok112, iaok113, iaok114, iaok115, iaok116, iaok117, iaok118, iaok119, iaok120, iaok121, iaok122, trivial⟩
noncomputable def iagc3 : List (Nat × AFn) := [(123, ia123), (124, ia124), (126, ia126), (127, ia127), (128, ia128), (129, ia129), (130, ia130), (131, ia131), (132, ia132), (133, ia133), (134, ia134), (135, ia135), (136, ia136), (137, ia137), (138, ia138), (139, ia139), (140, ia140), (141, ia141), (142, ia142), (143, ia143), (144, ia144), (145, ia145), (146, ia146), (147, ia147), (148, ia148), (149, ia149), (150, ia150), (151, ia151), (152, ia152), (153, ia153), (154, ia154), (155, ia155), (156, ia156), (157, ia157), (158, ia158), (161, ia161), (162, ia162), (163, ia163), (164, ia164), (165, ia165)]
theorem iagc3_ok : All (FOk Proofs.Tryz.prog) iagc3 := ⟨iaok123, iaok124, iaok126, iaok127, iaok128, iaok129, iaok130, iaok131, iaok132, iaok133, iaok134, iaok135, iaok136, iaok137, iaok138, iaok139, iaok140, iaok141, iaok142, iaok143, iaok144, iaok145, iaok146, iaok147, iaok148, iaok149, iaok150, iaok151, iaok152, iaok153, iaok154, iaok155, iaok156, iaok157, iaok158, iaok161, iaok162, iaok163, iaok164, iaok165, trivial⟩
noncomputable def iagc4 : List (Nat × AFn) := [(166, ia166), (167, ia167), (168, ia168), (169, ia169), (170, ia170), (172, ia172), (173, ia173), (174, ia174), (179, ia179), (182, ia182), (183, ia183), (191, ia191)]
theorem iagc4_ok : All (FOk Proofs.Tryz.prog) iagc4 := ⟨iaok166, iaok167, iaok168, iaok169, iaok170, iaok172, iaok173, iaok174, iaok179, iaok182, iaok183, iaok191, trivial⟩
theorem iafl2_eq : iafl2 = iagc0 ++ (iagc1 ++ (iagc2 ++ (iagc3 ++ (iagc4 ++ [])))) := by kernel_rfl
theorem iatb2 : TbOk iaT2 Proofs.Tryz.prog := by
  rw [iaT2_eq, iafl2_eq, iall_eq]
  exact tbOk (All.app iagc0_ok (All.app iagc1_ok (All.app iagc2_ok (All.app iagc3_ok (All.app iagc4_ok trivial))))) (All.app ialc0_ok trivial)
end Go.AM
