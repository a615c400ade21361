/-
  The machine's tables are the program's. Conditions: none.
-/
import Derived.Test.YtllgedaeidbenaaGreatM20CO0
namespace Go.AM
open Go
set_option maxHeartbeats 0
set_option maxRecDepth 1000000
noncomputable def ncfc0 : List (Nat × AFn) := [(11, nc11), (13, nc13), (14, nc14), (15, nc15), (26, nc26), (30, nc30), (31, nc31), (33, nc33), (34, nc34), (38, nc38), (43, nc43), (45, nc45), (46, nc46), (49, nc49), (50, nc50), (51, nc51), (53, nc53), (54, nc54), (55, nc55), (56, nc56), (57, nc57), (58, nc58), (65, nc65), (71, nc71), (72, nc72), (73, nc73), (77, nc77), (78, nc78), (79, nc79), (80, nc80), (81, nc81), (82, nc82), (83, nc83), (84, nc84), (89, nc89), (92, nc92), (94, nc94), (95, nc95), (96, nc96), (98, nc98)]
theorem ncfc0_ok : All (FOk Proofs.Tryz.prog) ncfc0 := ⟨ncok11, ncok13, ncok14, ncok15, ncok26, ncok30, ncok31, ncok33, ncok34, ncok38, ncok43, ncok45, ncok46, ncok49, ncok50, ncok51, ncok53, ncok54, ncok55, ncok56, ncok57, ncok58, ncok65, ncok71, ncok72, ncok73, ncok77, ncok78, ncok79, ncok80, ncok81, ncok82, ncok83, ncok84, ncok89, ncok92, ncok94, ncok95, ncok96, ncok98, trivial⟩
noncomputable def ncfc1 : List (Nat × AFn) := [(99, nc99), (100, nc100), (101, nc101), (102, nc102), (104, nc104), (105, nc105), (106, nc106), (108, nc108), (116, nc116), (118, nc118), (119, nc119), (120, nc120), (121, nc121), (122, nc122), (123, nc123), (124, nc124), (125, nc125), (126, nc126), (127, nc127), (128, nc128), (138, nc138), (141, nc141), (143, nc143), (146, nc146), (147, nc147), (149, nc149), (150, nc150), (151, nc151), (155, nc155), (156, nc156), (157, nc157), (162, nc162), (167, nc167), (174, nc174), (175, nc175), (178, nc178), (179, nc179), (181, nc181), (183, nc183), (184, nc184)]
theorem ncfc1_ok : All (FOk Proofs.Tryz.prog) ncfc1 := ⟨ncok99, ncok100, ncok101, ncok102, ncok104, ncok105, ncok106, ncok108, ncok116, ncok118, ncok119, ncok120, ncok121, ncok122, ncok123, ncok124, ncok125, ncok126, ncok127, ncok128, ncok138, ncok141, ncok143, ncok146, ncok147, ncok149, ncok150, ncok151, ncok155, ncok156, ncok157, ncok162, ncok167, ncok174, ncok175, ncok178, ncok179, ncok181, ncok183, ncok184, trivial⟩
noncomputable def ncfc2 : List (Nat × AFn) := [(185, nc185), (186, nc186), (188, nc188), (189, nc189), (199, nc199), (200, nc200), (201, nc201), (202, nc202), (203, nc203), (204, nc204), (215, nc215), (221, nc221), (222, nc222), (223, nc223), (225, nc225), (227, nc227), (236, nc236), (237, nc237), (238, nc238), (250, nc250), (251, nc251), (255, nc255), (257, nc257), (269, nc269), (271, nc271), (272, nc272), (277, nc277), (278, nc278), (279, nc279), (284, nc284), (291, nc291), (294, nc294), (295, nc295), (304, nc304), (316, nc316), (317, nc317), (318, nc318), (322, nc322), (326, nc326), (327, nc327)]
theorem ncfc2_ok : All (FOk Proofs.Tryz.prog) ncfc2 := ⟨ncok185, ncok186, ncok188, ncok189, ncok199, ncok200, ncok201, ncok202, ncok203, ncok204, ncok215, ncok221, ncok222, ncok223, ncok225, ncok227, ncok236, ncok237, ncok238, ncok250, ncok251, ncok255, ncok257, ncok269, ncok271, ncok272, ncok277, ncok278, ncok279, ncok284, ncok291, ncok294, ncok295, ncok304, ncok316, ncok317, ncok318, ncok322, ncok326, ncok327, trivial⟩
noncomputable def ncfc3 : List (Nat × AFn) := [(328, nc328), (349, nc349), (350, nc350), (363, nc363), (372, nc372), (373, nc373), (374, nc374), (378, nc378), (379, nc379), (381, nc381)]
theorem ncfc3_ok : All (FOk Proofs.Tryz.prog) ncfc3 := ⟨ncok328, ncok349, ncok350, ncok363, ncok372, ncok373, ncok374, ncok378, ncok379, ncok381, trivial⟩
noncomputable def nclc0 : List (Nat × ALp) := [(784, ncl784)]
theorem nclc0_ok : All (LOk Proofs.Tryz.prog) nclc0 := ⟨nclok784, trivial⟩
theorem ncfl_eq : ncfl = ncfc0 ++ (ncfc1 ++ (ncfc2 ++ (ncfc3 ++ []))) := by kernel_rfl
theorem ncll_eq : ncll = nclc0 ++ [] := by kernel_rfl
theorem nctb : TbOk ncT Proofs.Tryz.prog := by
  rw [ncT_eq, ncfl_eq, ncll_eq]
  exact tbOk (All.app ncfc0_ok (All.app ncfc1_ok (All.app ncfc2_ok (All.app ncfc3_ok trivial)))) (All.app nclc0_ok trivial)
end Go.AM
