/- A part of the proof of this: the law ShellFalls. Conditions: none. Joined of M28FT, M28FX, M28FW0, M28FU, M28FS, M28FO0, M28FO1, M28FO2, M28FO3, M28FO, M28FV, M28FT5, M28FOO5, M28FY, M28FT6, M28FC, M28FOO6, M28D, M28J, M28FE. -/
import Derived.Test.YtnpimhboonddjaaGreatDoorC6
import Derived.Test.YtnpimhboonddjaaGreatDoorProg
import Derived.WalkKit
import Derived.ProofKit
namespace Go.AM
open Go
noncomputable abbrev zF (d:Nat):L (Option AFn) d:=repL (Option AFn) none d
noncomputable abbrev z0:Option AFn:=none
noncomputable abbrev zL (d:Nat):L (Option ALp) d:=repL (Option ALp) none d
noncomputable abbrev y0:Option ALp:=none
noncomputable abbrev mF (d:Nat) (a b c e f g h i:L (Option AFn) d):L (Option AFn) (d + 1):=@N8.mk (L (Option AFn) d) a b c e f g h i
noncomputable abbrev mF0 (a b c e f g h i:Option AFn):L (Option AFn) 1:=@N8.mk (L (Option AFn) 0) a b c e f g h i
noncomputable abbrev mL (d:Nat) (a b c e f g h i:L (Option ALp) d):L (Option ALp) (d + 1):=@N8.mk (L (Option ALp) d) a b c e f g h i
noncomputable def sfT:Tb:=.mk (mF 3 (mF 2 (mF 1 (mF0 z0 z0 z0 (some sf3) (some sf4) (some sf5) (some sf6) (some sf7)) (mF0 (some sf8) (some sf9) (some sf10) (some sf11) (some sf12) (some sf13) (some sf14) (some sf15)) (mF0 (some sf16) (some sf17) (some sf18) (some sf19) (some sf20) (some sf21) (some sf22) (some sf23)) (mF0 (some sf24) (some sf25) (some sf26) (some sf27) (some sf28) (some sf29) z0 (some sf31)) (mF0 (some sf32) (some sf33) (some sf34) (some sf35) (some sf36) (some sf37) (some sf38) (some sf39)) (mF0 (some sf40) (some sf41) (some sf42) (some sf43) (some sf44) (some sf45) (some sf46) (some sf47)) (mF0 (some sf48) (some sf49) z0 (some sf51) (some sf52) (some sf53) (some sf54) (some sf55)) (mF0 (some sf56) (some sf57) (some sf58) (some sf59) z0 z0 z0 (some sf63))) (mF 1 (mF0 (some sf64) z0 (some sf66) (some sf67) (some sf68) (some sf69) (some sf70) (some sf71)) (mF0 (some sf72) (some sf73) (some sf74) z0 (some sf76) (some sf77) (some sf78) (some sf79)) (mF0 (some sf80) (some sf81) (some sf82) z0 (some sf84) (some sf85) (some sf86) z0) (mF0 z0 z0 (some sf90) (some sf91) (some sf92) z0 z0 (some sf95)) (mF0 z0 (some sf97) z0 z0 z0 z0 (some sf102) (some sf103)) (mF0 z0 (some sf105) (some sf106) z0 z0 (some sf109) (some sf110) (some sf111)) (mF0 (some sf112) z0 (some sf114) z0 z0 z0 (some sf118) (some sf119)) (mF0 (some sf120) (some sf121) (some sf122) (some sf123) (some sf124) (some sf125) z0 (some sf127))) (mF 1 (mF0 (some sf128) (some sf129) (some sf130) (some sf131) (some sf132) (some sf133) (some sf134) (some sf135)) (mF0 (some sf136) (some sf137) (some sf138) (some sf139) z0 (some sf141) (some sf142) (some sf143)) (mF0 (some sf144) (some sf145) (some sf146) (some sf147) (some sf148) (some sf149) (some sf150) (some sf151)) (mF0 (some sf152) (some sf153) (some sf154) (some sf155) (some sf156) (some sf157) (some sf158) z0) (mF0 z0 z0 z0 z0 z0 z0 (some sf166) z0) (mF0 z0 z0 (some sf170) (some sf171) (some sf172) (some sf173) (some sf174) z0) (mF0 z0 z0 z0 (some sf179) z0 z0 (some sf182) z0) (mF0 z0 (some sf185) (some sf186) z0 z0 z0 z0 z0)) (mF 1 (mF0 z0 z0 (some sf194) z0 z0 (some sf197) z0 (some sf199)) (mF0 (some sf200) (some sf201) (some sf202) (some sf203) (some sf204) z0 z0 (some sf207)) (mF0 (some sf208) (some sf209) (some sf210) (some sf211) z0 (some sf213) (some sf214) (some sf215)) (mF0 z0 (some sf217) (some sf218) (some sf219) (some sf220) (some sf221) (some sf222) (some sf223)) (mF0 (some sf224) (some sf225) (some sf226) (some sf227) (some sf228) (some sf229) (some sf230) z0) (mF0 z0 z0 z0 z0 (some sf236) (some sf237) (some sf238) (some sf239)) (mF0 (some sf240) z0 z0 z0 z0 z0 z0 z0) (mF0 z0 z0 (some sf250) (some sf251) z0 z0 z0 (some sf255))) (mF 1 (mF0 z0 z0 z0 z0 (some sf260) (some sf261) z0 z0) (mF0 z0 (some sf265) z0 z0 (some sf268) (some sf269) z0 (some sf271)) (mF0 (some sf272) (some sf273) (some sf274) z0 z0 z0 z0 (some sf279)) (mF0 (some sf280) (some sf281) (some sf282) (some sf283) z0 z0 z0 z0) (mF0 z0 z0 z0 (some sf291) (some sf292) (some sf293) z0 (some (.sp tzS))) (mF0 (some sf296) (some sf297) (some sf298) (some sf299) (some sf300) (some sf301) z0 z0) (mF0 (some sf304) (some sf305) (some sf306) (some sf307) z0 (some sf309) (some sf310) (some sf311)) (mF0 (some sf312) (some sf313) z0 z0 z0 z0 (some sf318) (some sf319))) (mF 1 (mF0 (some sf320) z0 z0 z0 z0 z0 z0 z0) (mF0 (some sf328) z0 (some sf330) (some sf331) z0 (some sf333) (some sf334) (some sf335)) (mF0 (some sf336) z0 z0 (some sf339) (some sf340) (some sf341) (some sf342) z0) (mF0 (some sf344) z0 (some sf346) (some sf347) (some sf348) (some sf349) (some sf350) (some sf351)) (mF0 z0 (some sf353) (some sf354) z0 z0 (some sf357) (some sf358) (some sf359)) (mF0 z0 z0 (some sf362) (some sf363) z0 (some sf365) z0 (some sf367)) (mF0 z0 z0 z0 (some sf371) (some sf372) (some sf373) z0 z0) (mF0 (some sf376) (some sf377) (some sf378) (some sf379) z0 z0 z0 z0)) (mF 1 (zF 1) (mF0 z0 z0 z0 (some sf395) (some sf396) (some sf397) (some sf398) (some sf399)) (zF 1) (mF0 z0 z0 (some sf410) (some sf411) z0 (some sf413) (some sf414) (some sf415)) (zF 1) (zF 1) (zF 1) (zF 1)) (zF 2)) (zF 3) (zF 3) (zF 3) (zF 3) (zF 3) (zF 3) (zF 3)) (mL 4 (mL 3 (zL 3) (zL 3) (mL 2 (zL 2) (zL 2) (zL 2) (mL 1 (zL 1) (zL 1) (mL 0 (some sfl1232) y0 y0 y0 y0 y0 y0 y0) (zL 1) (zL 1) (zL 1) (zL 1) (zL 1)) (zL 2) (zL 2) (zL 2) (zL 2)) (zL 3) (mL 2 (zL 2) (zL 2) (zL 2) (zL 2) (zL 2) (mL 1 (zL 1) (zL 1) (zL 1) (zL 1) (zL 1) (zL 1) (mL 0 (some sfl2416) y0 y0 y0 y0 y0 y0 y0) (zL 1)) (zL 2) (zL 2)) (zL 3) (zL 3) (mL 2 (zL 2) (mL 1 (zL 1) (zL 1) (zL 1) (zL 1) (mL 0 (some sfl3680) y0 y0 y0 y0 y0 y0 y0) (zL 1) (zL 1) (zL 1)) (zL 2) (zL 2) (zL 2) (zL 2) (zL 2) (zL 2))) (zL 4) (zL 4) (zL 4) (zL 4) (zL 4) (zL 4) (zL 4)) true
noncomputable def sffl:List (Nat × AFn):=[(3,sf3),(4,sf4),(5,sf5),(6,sf6),(7,sf7),(8,sf8),(9,sf9),(10,sf10),(11,sf11),(12,sf12),(13,sf13),(14,sf14),(15,sf15),(16,sf16),(17,sf17),(18,sf18),(19,sf19),(20,sf20),(21,sf21),(22,sf22),(23,sf23),(24,sf24),(25,sf25),(26,sf26),(27,sf27),(28,sf28),(29,sf29),(31,sf31),(32,sf32),(33,sf33),(34,sf34),(35,sf35),(36,sf36),(37,sf37),(38,sf38),(39,sf39),(40,sf40),(41,sf41),(42,sf42),(43,sf43),(44,sf44),(45,sf45),(46,sf46),(47,sf47),(48,sf48),(49,sf49),(51,sf51),(52,sf52),(53,sf53),(54,sf54),(55,sf55),(56,sf56),(57,sf57),(58,sf58),(59,sf59),(63,sf63),(64,sf64),(66,sf66),(67,sf67),(68,sf68),(69,sf69),(70,sf70),(71,sf71),(72,sf72),(73,sf73),(74,sf74),(76,sf76),(77,sf77),(78,sf78),(79,sf79),(80,sf80),(81,sf81),(82,sf82),(84,sf84),(85,sf85),(86,sf86),(90,sf90),(91,sf91),(92,sf92),(95,sf95),(97,sf97),(102,sf102),(103,sf103),(105,sf105),(106,sf106),(109,sf109),(110,sf110),(111,sf111),(112,sf112),(114,sf114),(118,sf118),(119,sf119),(120,sf120),(121,sf121),(122,sf122),(123,sf123),(124,sf124),(125,sf125),(127,sf127),(128,sf128),(129,sf129),(130,sf130),(131,sf131),(132,sf132),(133,sf133),(134,sf134),(135,sf135),(136,sf136),(137,sf137),(138,sf138),(139,sf139),(141,sf141),(142,sf142),(143,sf143),(144,sf144),(145,sf145),(146,sf146),(147,sf147),(148,sf148),(149,sf149),(150,sf150),(151,sf151),(152,sf152),(153,sf153),(154,sf154),(155,sf155),(156,sf156),(157,sf157),(158,sf158),(166,sf166),(170,sf170),(171,sf171),(172,sf172),(173,sf173),(174,sf174),(179,sf179),(182,sf182),(185,sf185),(186,sf186),(194,sf194),(197,sf197),(199,sf199),(200,sf200),(201,sf201),(202,sf202),(203,sf203),(204,sf204),(207,sf207),(208,sf208),(209,sf209),(210,sf210),(211,sf211),(213,sf213),(214,sf214),(215,sf215),(217,sf217),(218,sf218),(219,sf219),(220,sf220),(221,sf221),(222,sf222),(223,sf223),(224,sf224),(225,sf225),(226,sf226),(227,sf227),(228,sf228),(229,sf229),(230,sf230),(236,sf236),(237,sf237),(238,sf238),(239,sf239),(240,sf240),(250,sf250),(251,sf251),(255,sf255),(260,sf260),(261,sf261),(265,sf265),(268,sf268),(269,sf269),(271,sf271),(272,sf272),(273,sf273),(274,sf274),(279,sf279),(280,sf280),(281,sf281),(282,sf282),(283,sf283),(291,sf291),(292,sf292),(293,sf293),(295,(.sp tzS)),(296,sf296),(297,sf297),(298,sf298),(299,sf299),(300,sf300),(301,sf301),(304,sf304),(305,sf305),(306,sf306),(307,sf307),(309,sf309),(310,sf310),(311,sf311),(312,sf312),(313,sf313),(318,sf318),(319,sf319),(320,sf320),(328,sf328),(330,sf330),(331,sf331),(333,sf333),(334,sf334),(335,sf335),(336,sf336),(339,sf339),(340,sf340),(341,sf341),(342,sf342),(344,sf344),(346,sf346),(347,sf347),(348,sf348),(349,sf349),(350,sf350),(351,sf351),(353,sf353),(354,sf354),(357,sf357),(358,sf358),(359,sf359),(362,sf362),(363,sf363),(365,sf365),(367,sf367),(371,sf371),(372,sf372),(373,sf373),(376,sf376),(377,sf377),(378,sf378),(379,sf379),(395,sf395),(396,sf396),(397,sf397),(398,sf398),(399,sf399),(410,sf410),(411,sf411),(413,sf413),(414,sf414),(415,sf415)]
noncomputable def sfll:List (Nat × ALp):=[(1232,sfl1232),(2416,sfl2416),(3680,sfl3680)]
theorem sfT_eq:sfT = .mk (mkT 4 sffl) (mkT 5 sfll) true:=by kernel_rfl
end Go.AM

namespace Go.AM
open Go
set_option maxHeartbeats 0
set_option maxRecDepth 1000000
def wS0:List AV:=[.i 6 (.ofNat 0),.i 2 (.ofNat 0),.i 6 (.ofNat 0),.i 6 (.ofNat 0),.i 6 (.ofNat 0),.i 6 (.ofNat 0),.i 6 (.ofNat 0),.i 6 (.ofNat 0),.i 6 (.ofNat 0),.i 6 (.ofNat 0),.i 6 (.ofNat 0),.i 6 (.ofNat 0),.i 6 (.ofNat 0),.i 6 (.ofNat 0),.i 6 (.ofNat 0),.i 6 (.ofNat 0),.i 6 (.ofNat 0),.i 6 (.ofNat 0),.i 6 (.ofNat 0)]
def wS1:List AV:=[.i 6 (.ofNat 1),.i 2 (.ofNat 0),.i 6 (.ofNat 0),.i 6 (.ofNat 0),.i 6 (.ofNat 274646895),.i 6 (.ofNat 549293790),.i 6 (.ofNat 820201905),.i 6 (.ofNat 1098587580),.i 6 (.ofNat 1361435347),.i 6 (.ofNat 1640403810),.i 6 (.ofNat 1905808397),.i 6 (.ofNat 2197175160),.i 6 (.ofNat 2460548119),.i 6 (.ofNat 2722870694),.i 6 (.ofNat 2987750089),.i 6 (.ofNat 3280807620),.i 6 (.ofNat 3553878443),.i 6 (.ofNat 3811616794),.i 6 (.ofNat 4084100981)]
end Go.AM

namespace Go.AM
open Go
set_option maxHeartbeats 0
set_option maxRecDepth 1000000
theorem wRun0:wRun sfT 311 20000 wS0 wS1=true:=by kernel_rfl
theorem wRun1:wRun sfT 311 20000 S1x S1x=true:=by kernel_rfl
end Go.AM

namespace Go.AM
open Go
set_option maxHeartbeats 0
set_option maxRecDepth 1000000
theorem sfpick:allN 256 (fun v=>goF sfT 20000 38 [.s (pickTx v)] (fun r h _=>pickEnd v r h))=true:=by kernel_rfl
end Go.AM

namespace Go.AM
open Go Go.Proofs Go.ChangeShapes Go.WideShapes Go.ChangeAt Go.RowKit
set_option maxHeartbeats 1000000
theorem tz_walk (w:World) (h:w.cell? ⟨7,15,none⟩=some (.int .u8 4)) :
  Calls Tryz.prog 295 #[.int .u64 16] w fun e w'=>e = .returned (.int .i64 4)∧(w'.heap=w.heap∧w'.os=w.os∧w'.tape=w.tape∧w'.output=w.output):=by
 have hA:bits BinOp.and IntKind.u64 16 (IntKind.u64.wrap (-16))=16:=by decide +kernel
 have hB:IntKind.u64.wrap 4573923408821661840=4573923408821661840:=by decide +kernel
 go_enter Tryz.func295,Tryz.ntmps295
 go_wp2
 all_goals go_ret
 all_goals exact ⟨rfl,rfl,rfl,rfl,rfl⟩
theorem tz_ok:SpOk Tryz.prog 295 tzS:=by
 intro w0 pd θ h nx w vs κ hR hv e
 cases vs with
 | nil=>cases e
 | cons v vs=>cases vs with
  | cons v' vs=>cases v<;>cases e
  | nil=>cases v<;>first | (cases e;done) | skip
         rename_i k n
         cases n with
         | negSucc m=>
          have e:(bif Nat.beq k 7 then false else false)=true:=e
          cases hk:Nat.beq k 7<;>rw [hk] at e<;>cases e
         | ofNat m=>
          have e:(bif Nat.beq k 7 then (bif Nat.beq m 16 then κ (.i 3 (.ofNat 4)) h nx else false) else false)=true:=e
          cases hk:Nat.beq k 7 with
          | false=>rw [hk] at e;cases e
          | true=>
           cases hm:Nat.beq m 16 with
           | false=>rw [hk,hm] at e;cases e
           | true=>
            rw [hk,hm] at e
            have e:κ (.i 3 (.ofNat 4)) h nx=true:=e
            have hk:=Nat.eq_of_beq_eq_true hk
            have hm:=Nat.eq_of_beq_eq_true hm
            subst hk hm
            have hc:w.cell? ⟨7,15,none⟩=some (.int .u8 4):=hR.gloW 7 (by kernel_rfl)
            refine (tz_walk w hc).mono fun r w' ⟨h1,h2,h3,h4,h5⟩=>?_
            exact ⟨.i 3 (.ofNat 4),.int .i64 4,θ,h,nx,h1,.refl θ,⟨trivial,rfl⟩,hR.wider ⟨h3,h4,h5⟩ (by rw [h2];exact Nat.le_refl _) (fun b _=>by rw [h2]),e⟩
theorem sfsp295:FOk Tryz.prog (295,.sp tzS):=by
 have h:(trF Tryz.prog 295).isSome=true:=by kernel_rfl
 obtain ⟨u,hu⟩:=Option.isSome_iff_exists.1 h
 exact fOk_sp (by decide) hu tz_ok
end Go.AM

namespace Go.AM
open Go
set_option maxHeartbeats 0
set_option maxRecDepth 100000
theorem sfok3:FOk Proofs.Tryz.prog (3,sf3):=fOk (by decide) (by kernel_rfl)
theorem sfok4:FOk Proofs.Tryz.prog (4,sf4):=fOkP (m:=(.two .all (.two (.two .all (.two .cut .all)) .all))) (by decide) (by kernel_rfl)
theorem sfok5:FOk Proofs.Tryz.prog (5,sf5):=fOkP (m:=(.two .all (.two .all (.two .all (.two .all (.two (.two .all (.two .cut .all)) .all)))))) (by decide) (by kernel_rfl)
theorem sfok6:FOk Proofs.Tryz.prog (6,sf6):=fOkP (m:=(.two .all (.two .all (.two (.two .all (.two .cut .all)) .all)))) (by decide) (by kernel_rfl)
theorem sfok7:FOk Proofs.Tryz.prog (7,sf7):=fOkP (m:=(.two .all (.two .all .cut))) (by decide) (by kernel_rfl)
theorem sfok8:FOk Proofs.Tryz.prog (8,sf8):=fOk (by decide) (by kernel_rfl)
theorem sfok9:FOk Proofs.Tryz.prog (9,sf9):=fOk (by decide) (by kernel_rfl)
theorem sfok10:FOk Proofs.Tryz.prog (10,sf10):=fOk (by decide) (by kernel_rfl)
theorem sfok11:FOk Proofs.Tryz.prog (11,sf11):=fOkP (m:=(.two .all (.two .all (.two (.two .all (.two .cut .all)) .all)))) (by decide) (by kernel_rfl)
theorem sfok12:FOk Proofs.Tryz.prog (12,sf12):=fOk (by decide) (by kernel_rfl)
theorem sfok13:FOk Proofs.Tryz.prog (13,sf13):=fOk (by decide) (by kernel_rfl)
theorem sfok14:FOk Proofs.Tryz.prog (14,sf14):=fOkP (m:=(.two .all (.two .all (.two (.two .all (.one (.one (.two .all (.two .all (.two (.one (.two .all (.two .all (.two .cut .all)))) .all)))))) (.two .all (.two .all (.two (.two .all (.two .cut .all)) .all))))))) (by decide) (by kernel_rfl)
theorem sfok15:FOk Proofs.Tryz.prog (15,sf15):=fOk (by decide) (by kernel_rfl)
theorem sfok16:FOk Proofs.Tryz.prog (16,sf16):=fOk (by decide) (by kernel_rfl)
theorem sfok17:FOk Proofs.Tryz.prog (17,sf17):=fOkP (m:=(.two .all (.two (.two .all (.two .cut .all)) .all))) (by decide) (by kernel_rfl)
theorem sfok18:FOk Proofs.Tryz.prog (18,sf18):=fOk (by decide) (by kernel_rfl)
theorem sfok19:FOk Proofs.Tryz.prog (19,sf19):=fOkP (m:=(.two .all (.two (.two .all (.two .cut .all)) (.two (.two .all (.two .cut .all)) (.two .all (.two .all (.two .all (.two .all (.two .all (.two (.one (.one (.two .all (.one (.two .all (.two (.two .all (.two .cut .all)) .all)))))) .all)))))))))) (by decide) (by kernel_rfl)
theorem sfok20:FOk Proofs.Tryz.prog (20,sf20):=fOkP (m:=(.two .all (.two .all .cut))) (by decide) (by kernel_rfl)
theorem sfok21:FOk Proofs.Tryz.prog (21,sf21):=fOkP (m:=(.two .all (.two (.one (.two .all (.two .cut (.two .all (.two .all (.two .all (.two .all (.two .all (.two (.two .all (.two (.two .all (.two .cut .all)) .all)) (.two .all (.two (.two .all (.two (.two .all (.two .cut .all)) (.two (.two .all (.two .cut .all)) .all))) .all))))))))))) .all))) (by decide) (by kernel_rfl)
theorem sfok22:FOk Proofs.Tryz.prog (22,sf22):=fOkP (m:=(.two .all (.two (.two .all (.two .cut .all)) (.two .all (.two (.two .all (.two .cut .all)) (.two .all (.two (.two .all (.one (.one (.two .all (.two .all (.two (.one (.two .all (.two .all (.two (.two .all (.one (.two .all (.two .all (.two .all (.two .all (.two .all (.two .all (.two .all (.two .all (.two .all (.two .cut .all)))))))))))) (.two .all (.two .cut .all)))))) .all)))))) .all))))))) (by decide) (by kernel_rfl)
theorem sfok23:FOk Proofs.Tryz.prog (23,sf23):=fOkP (m:=(.two .all (.two .all (.two .all (.two (.two .all (.one (.two .all (.two .all (.two .all (.two .cut .all)))))) (.two .all (.two (.two .all (.one (.one (.two .all (.two .all .cut))))) (.two .all (.one (.one (.two .all (.two .all .cut)))))))))))) (by decide) (by kernel_rfl)
theorem sfok24:FOk Proofs.Tryz.prog (24,sf24):=fOkP (m:=(.two .all (.two (.two .all (.two .cut .all)) (.two .all (.two .all (.two (.one (.two .all (.two .cut (.two .all (.two .all (.two .all (.two .cut (.two .all (.two .cut .all))))))))) .all)))))) (by decide) (by kernel_rfl)
theorem sfok25:FOk Proofs.Tryz.prog (25,sf25):=fOk (by decide) (by kernel_rfl)
theorem sfok26:FOk Proofs.Tryz.prog (26,sf26):=fOkP (m:=(.two .all (.two (.two .all (.one (.two .all (.two .cut .all)))) (.two .all (.two (.two .all (.two (.two (.two .all (.two .cut .all)) .all) .all)) (.two (.two .all (.one (.one (.two .all (.two .all (.two (.one (.two .all (.two (.two .all (.two .cut .all)) .all))) .all)))))) .all)))))) (by decide) (by kernel_rfl)
theorem sfok27:FOk Proofs.Tryz.prog (27,sf27):=fOk (by decide) (by kernel_rfl)
theorem sfok28:FOk Proofs.Tryz.prog (28,sf28):=fOk (by decide) (by kernel_rfl)
theorem sfok29:FOk Proofs.Tryz.prog (29,sf29):=fOkP (m:=(.two .all (.two (.two .all (.two .cut .all)) (.two (.two .all (.two .all (.two .cut .all))) (.two .all (.two .all (.two (.two .all (.one (.one (.two .all (.two .all (.two (.one (.two .all (.two .all (.two (.two .all (.two .cut .all)) .all)))) .all)))))) .all))))))) (by decide) (by kernel_rfl)
theorem sfok31:FOk Proofs.Tryz.prog (31,sf31):=fOkP (m:=(.two .all (.two (.two .all (.two .cut .all)) (.two .all .cut)))) (by decide) (by kernel_rfl)
theorem sfok32:FOk Proofs.Tryz.prog (32,sf32):=fOk (by decide) (by kernel_rfl)
theorem sfok33:FOk Proofs.Tryz.prog (33,sf33):=fOk (by decide) (by kernel_rfl)
theorem sfok34:FOk Proofs.Tryz.prog (34,sf34):=fOk (by decide) (by kernel_rfl)
theorem sfok35:FOk Proofs.Tryz.prog (35,sf35):=fOkP (m:=(.two .all (.two (.two .all (.two .cut .all)) .all))) (by decide) (by kernel_rfl)
theorem sfok36:FOk Proofs.Tryz.prog (36,sf36):=fOkP (m:=(.two .all (.two .all (.two .all .cut)))) (by decide) (by kernel_rfl)
theorem sfok37:FOk Proofs.Tryz.prog (37,sf37):=fOk (by decide) (by kernel_rfl)
theorem sfok38:FOk Proofs.Tryz.prog (38,sf38):=fOkP (m:=(.two .all (.two .all (.two (.two .all (.one (.one (.two .all (.two .all (.two (.one (.two .all (.two (.two .all (.two .cut .all)) .all))) .all)))))) .all)))) (by decide) (by kernel_rfl)
theorem sfok39:FOk Proofs.Tryz.prog (39,sf39):=fOk (by decide) (by kernel_rfl)
theorem sfok40:FOk Proofs.Tryz.prog (40,sf40):=fOkP (m:=(.two .all (.two (.two .all (.two .cut .all)) (.two (.two .all (.one (.one (.two .all (.two .all (.two (.one (.two .all (.two .all (.two .cut .all)))) .all)))))) .all)))) (by decide) (by kernel_rfl)
theorem sfok41:FOk Proofs.Tryz.prog (41,sf41):=fOk (by decide) (by kernel_rfl)
theorem sfok42:FOk Proofs.Tryz.prog (42,sf42):=fOk (by decide) (by kernel_rfl)
theorem sfok43:FOk Proofs.Tryz.prog (43,sf43):=fOkP (m:=(.two .all (.two (.two .all (.two .cut .all)) (.two .all (.two (.two .all (.one (.one (.two .all (.two (.one (.two .all (.two (.two .all (.two .cut .all)) .all))) .all))))) .all))))) (by decide) (by kernel_rfl)
theorem sfok44:FOk Proofs.Tryz.prog (44,sf44):=fOkP (m:=(.two .all (.two (.two .all (.two .cut .all)) .all))) (by decide) (by kernel_rfl)
theorem sfok45:FOk Proofs.Tryz.prog (45,sf45):=fOk (by decide) (by kernel_rfl)
theorem sfok46:FOk Proofs.Tryz.prog (46,sf46):=fOk (by decide) (by kernel_rfl)
theorem sfok47:FOk Proofs.Tryz.prog (47,sf47):=fOk (by decide) (by kernel_rfl)
theorem sfok48:FOk Proofs.Tryz.prog (48,sf48):=fOkP (m:=(.two .all (.two (.one (.two .all (.two .cut (.two .all (.two .cut (.two .all (.two .cut (.two .all (.two .cut (.two .all (.two .cut .all))))))))))) (.two (.two .all (.two .all (.two .cut .all))) (.two (.two .all (.two .cut .all)) (.two .all (.two (.two .all (.two .cut .all)) .all))))))) (by decide) (by kernel_rfl)
theorem sfok49:FOk Proofs.Tryz.prog (49,sf49):=fOk (by decide) (by kernel_rfl)
theorem sfok51:FOk Proofs.Tryz.prog (51,sf51):=fOkP (m:=(.two .all (.two .all (.two .all (.two .all (.two (.two .all (.one (.two .all (.two .all (.two .all (.two .cut (.two .all (.two .cut (.two .all (.two .all (.two .all (.two (.two .all (.two .cut .all)) (.two .all (.one (.one (.two .all (.two .all .cut))))))))))))))))) .all)))))) (by decide) (by kernel_rfl)
theorem sfok52:FOk Proofs.Tryz.prog (52,sf52):=fOkP (m:=(.two .all (.two .all (.two (.two .all (.one (.two .all (.two .cut (.two .all (.two .all .cut)))))) .cut)))) (by decide) (by kernel_rfl)
theorem sfok53:FOk Proofs.Tryz.prog (53,sf53):=fOkP (m:=(.two .all (.two .all (.two .all (.two (.two .all (.one (.two .all (.two (.two .all (.two .all (.two .cut .all))) .all)))) (.two (.two .all (.one (.two .all (.two .all (.two .all (.two .cut (.two .all (.two .cut (.two .all (.two .cut (.two .all (.two .cut .all)))))))))))) (.two .all (.two (.two .all (.two .cut .all)) .all)))))))) (by decide) (by kernel_rfl)
theorem sfok54:FOk Proofs.Tryz.prog (54,sf54):=fOkP (m:=(.two .all (.two .all (.two .all (.two .cut .all))))) (by decide) (by kernel_rfl)
theorem sfok55:FOk Proofs.Tryz.prog (55,sf55):=fOkP (m:=(.two .all (.two (.two .all (.two .cut .all)) .all))) (by decide) (by kernel_rfl)
theorem sfok56:FOk Proofs.Tryz.prog (56,sf56):=fOkP (m:=(.two .all (.two (.two .all (.two (.two .all .cut) .all)) .cut))) (by decide) (by kernel_rfl)
theorem sfok57:FOk Proofs.Tryz.prog (57,sf57):=fOkP (m:=(.two .all (.two .all (.two (.two .all (.one (.one (.two .all (.two .all (.two (.one (.two .all (.two (.two .all (.two .cut .all)) .all))) .all)))))) .all)))) (by decide) (by kernel_rfl)
theorem sfok58:FOk Proofs.Tryz.prog (58,sf58):=fOk (by decide) (by kernel_rfl)
theorem sfok59:FOk Proofs.Tryz.prog (59,sf59):=fOkP (m:=(.two .all (.two .all (.two (.two .all (.two .cut .all)) .all)))) (by decide) (by kernel_rfl)
theorem sfok63:FOk Proofs.Tryz.prog (63,sf63):=fOkP (m:=(.two .all (.two .all (.two (.one (.two .all (.two .cut (.two .all (.two .all .cut))))) .cut)))) (by decide) (by kernel_rfl)
theorem sfok64:FOk Proofs.Tryz.prog (64,sf64):=fOkP (m:=(.two .all (.two .all (.two .all (.two (.two .all (.two .cut .all)) (.two .all (.two (.two .all (.two .cut .all)) .all))))))) (by decide) (by kernel_rfl)
theorem sfok66:FOk Proofs.Tryz.prog (66,sf66):=⟨by decide,sf66p,by kernel_rfl,(.seq (.refl _) (.seq (.refl _) (.seq (.refl _) (.seq (.refl _) (.seq (.refl _) (.seq (.refl _) (.seq (.refl _) (.seq (.refl _) (.seq (.refl _) (.seq (.refl _) (.seq (.seq (.refl _) (.spl kept_ok)) (.refl _))))))))))))⟩
theorem sfok67:FOk Proofs.Tryz.prog (67,sf67):=fOkP (m:=(.two .all (.two (.two .all (.two .cut .all)) (.two .all (.two .all (.two (.two .all (.one (.one (.two .all (.two .all (.two (.one (.two .all (.two .all (.two (.two .all (.two .cut .all)) (.two .all (.two .all (.two (.two .all (.two .cut .all)) .all))))))) .all)))))) .all)))))) (by decide) (by kernel_rfl)
theorem sfok68:FOk Proofs.Tryz.prog (68,sf68):=fOkP (m:=(.two .all (.two (.two .all (.two .cut .all)) .all))) (by decide) (by kernel_rfl)
theorem sfok69:FOk Proofs.Tryz.prog (69,sf69):=fOkP (m:=(.two .all (.two .all (.two (.two .all (.two .cut .all)) .all)))) (by decide) (by kernel_rfl)
theorem sfok70:FOk Proofs.Tryz.prog (70,sf70):=fOk (by decide) (by kernel_rfl)
theorem sfok71:FOk Proofs.Tryz.prog (71,sf71):=fOk (by decide) (by kernel_rfl)
theorem sfok72:FOk Proofs.Tryz.prog (72,sf72):=fOk (by decide) (by kernel_rfl)
theorem sfok73:FOk Proofs.Tryz.prog (73,sf73):=fOk (by decide) (by kernel_rfl)
end Go.AM

namespace Go.AM
open Go
set_option maxHeartbeats 0
set_option maxRecDepth 100000
theorem sfok74:FOk Proofs.Tryz.prog (74,sf74):=fOkP (m:=(.two .all (.two .all (.two (.one (.two .all (.two .all (.two .all (.two .cut .all))))) .all)))) (by decide) (by kernel_rfl)
theorem sfok76:FOk Proofs.Tryz.prog (76,sf76):=fOkP (m:=(.two .all (.two (.two .all (.two .cut .all)) (.two (.two .all (.one (.one (.two .all (.two .all (.two (.one (.two .all (.two .all (.two .all (.two .cut .all))))) .all)))))) .all)))) (by decide) (by kernel_rfl)
theorem sfok77:FOk Proofs.Tryz.prog (77,sf77):=fOkP (m:=(.two .all (.two .all (.two .all (.two .all (.two (.two .all (.two .cut .all)) (.two .all (.two (.two .all (.one (.one (.two .all .cut)))) .all)))))))) (by decide) (by kernel_rfl)
theorem sfok78:FOk Proofs.Tryz.prog (78,sf78):=fOkP (m:=(.two .all (.two .all (.two (.two .all (.one (.one (.two .all (.two .all .cut))))) .all)))) (by decide) (by kernel_rfl)
theorem sfok79:FOk Proofs.Tryz.prog (79,sf79):=fOkP (m:=(.two .all (.two (.two .all (.two .all (.two .cut .all))) (.two (.two .all (.two .cut .all)) (.two .all (.two (.two .all (.one (.one (.two .all (.two .all .cut))))) .all)))))) (by decide) (by kernel_rfl)
theorem sfok80:FOk Proofs.Tryz.prog (80,sf80):=fOkP (m:=(.two .all (.two .all (.two (.two .all (.two .cut .all)) (.two (.two .all (.two .all (.two .cut .all))) (.two .all (.two .all (.two (.two .all (.two .all (.two .cut .all))) .all)))))))) (by decide) (by kernel_rfl)
theorem sfok81:FOk Proofs.Tryz.prog (81,sf81):=fOk (by decide) (by kernel_rfl)
theorem sfok82:FOk Proofs.Tryz.prog (82,sf82):=fOk (by decide) (by kernel_rfl)
theorem sfok84:FOk Proofs.Tryz.prog (84,sf84):=fOkP (m:=(.two .all (.two (.two .all (.two .cut .all)) .all))) (by decide) (by kernel_rfl)
theorem sfok85:FOk Proofs.Tryz.prog (85,sf85):=fOkP (m:=(.two .all (.two (.two .all (.two .cut .all)) (.two .all (.two (.one (.two .all (.two .cut (.two .all (.two .cut .all))))) (.two .all (.two .all (.two (.two .all (.one (.one (.two .all (.two .all (.two (.one (.two .all (.two .all (.two (.two .all (.two .cut .all)) (.two .all (.two .all (.two (.two .all (.two .cut .all)) .all))))))) .all)))))) .all)))))))) (by decide) (by kernel_rfl)
theorem sfok86:FOk Proofs.Tryz.prog (86,sf86):=fOk (by decide) (by kernel_rfl)
theorem sfok90:FOk Proofs.Tryz.prog (90,sf90):=fOkP (m:=(.two .all (.two (.two .all (.two .cut .all)) (.two .all (.two (.two .all (.two .cut .all)) .all))))) (by decide) (by kernel_rfl)
theorem sfok91:FOk Proofs.Tryz.prog (91,sf91):=fOkP (m:=(.two .all (.two (.two .all (.two .cut .all)) (.two .all (.two .all (.two .all (.two (.two .all (.one (.one (.two .all (.two .all .cut))))) (.two .all (.two .all (.two (.two .all (.one (.one (.two .all (.two .all (.two (.one (.two .all (.two (.two .all (.two .cut .all)) (.two .all (.two .all (.one (.two .all (.two .cut (.two .all (.two .cut .all)))))))))) .all)))))) .all)))))))))) (by decide) (by kernel_rfl)
theorem sfok92:FOk Proofs.Tryz.prog (92,sf92):=fOkP (m:=(.two .all (.two (.two .all (.two .cut .all)) .all))) (by decide) (by kernel_rfl)
theorem sfok95:FOk Proofs.Tryz.prog (95,sf95):=fOkP (m:=(.two .all (.two .all (.two (.two .all (.one (.one (.two .all (.two .all (.one (.two .all (.two .all (.two .cut .all))))))))) .all)))) (by decide) (by kernel_rfl)
theorem sfok97:FOk Proofs.Tryz.prog (97,sf97):=fOkP (m:=(.two .all (.two (.two .all (.two .cut .all)) (.two (.two .all (.two .cut .all)) (.two (.two .all (.two .all (.two .cut .all))) .all))))) (by decide) (by kernel_rfl)
theorem sfok102:FOk Proofs.Tryz.prog (102,sf102):=fOkP (m:=(.two .all (.two .all (.two (.two .all (.one (.two .all (.two .all .cut)))) .cut)))) (by decide) (by kernel_rfl)
theorem sfok103:FOk Proofs.Tryz.prog (103,sf103):=fOkP (m:=(.two .all (.two (.two .all (.two .cut .all)) (.two .all (.two (.two .all (.two .cut .all)) .all))))) (by decide) (by kernel_rfl)
theorem sfok105:FOk Proofs.Tryz.prog (105,sf105):=fOk (by decide) (by kernel_rfl)
theorem sfok106:FOk Proofs.Tryz.prog (106,sf106):=fOk (by decide) (by kernel_rfl)
theorem sfok109:FOk Proofs.Tryz.prog (109,sf109):=fOkP (m:=(.two .all (.two (.two .all (.two .cut .all)) (.two .all (.two .all (.two (.two .all (.two .cut .all)) (.two (.two .all (.two .all .cut)) (.two (.two .all (.two .cut .all)) (.two (.two .all (.two .cut .all)) .all))))))))) (by decide) (by kernel_rfl)
theorem sfok110:FOk Proofs.Tryz.prog (110,sf110):=fOkP (m:=(.two .all (.two (.two .all (.two .cut .all)) .all))) (by decide) (by kernel_rfl)
theorem sfok111:FOk Proofs.Tryz.prog (111,sf111):=fOk (by decide) (by kernel_rfl)
theorem sfok112:FOk Proofs.Tryz.prog (112,sf112):=fOk (by decide) (by kernel_rfl)
theorem sfok114:FOk Proofs.Tryz.prog (114,sf114):=fOk (by decide) (by kernel_rfl)
theorem sfok118:FOk Proofs.Tryz.prog (118,sf118):=fOk (by decide) (by kernel_rfl)
theorem sfok119:FOk Proofs.Tryz.prog (119,sf119):=fOkP (m:=(.two .all (.two .all (.two (.two .all (.two .cut .all)) (.two (.two .all (.one (.one (.two .all (.two (.two .all .cut) (.two (.one (.two .all (.two (.two .all (.two .cut .all)) (.two .all (.two (.two .all (.two .cut .all)) .all))))) .cut)))))) .cut))))) (by decide) (by kernel_rfl)
theorem sfok120:FOk Proofs.Tryz.prog (120,sf120):=fOkP (m:=(.two .all (.two (.two .all (.two .cut .all)) (.two (.two .all (.two .cut .all)) (.two .all (.two (.two .all (.one (.one (.two .all (.two .all (.two (.one (.two .all (.two .all (.two .all (.two .cut .all))))) .all)))))) (.two (.two .all (.one (.one (.two .all (.two .all .cut))))) (.two (.two .all (.one (.one (.two .all (.two .all (.two (.one (.two .all (.two .all (.two .cut .all)))) .all)))))) .all)))))))) (by decide) (by kernel_rfl)
theorem sfok121:FOk Proofs.Tryz.prog (121,sf121):=fOk (by decide) (by kernel_rfl)
theorem sfok122:FOk Proofs.Tryz.prog (122,sf122):=fOkP (m:=(.two .all (.two .all (.two .all (.two (.two .all (.one (.one (.two .all (.two .all .cut))))) .all))))) (by decide) (by kernel_rfl)
theorem sfok123:FOk Proofs.Tryz.prog (123,sf123):=fOkP (m:=(.two .all (.two .all (.two .all (.two .all (.two (.two .all (.one (.one (.two .all (.two .all (.two (.one (.two .all (.one (.two .all (.two .all (.two .all (.two .all (.two (.two .all (.one (.one (.two .all (.two .all .cut))))) (.two (.two .all (.two .cut .all)) .all))))))))) .all)))))) .all)))))) (by decide) (by kernel_rfl)
theorem sfok124:FOk Proofs.Tryz.prog (124,sf124):=fOkP (m:=(.two .all (.two (.two .all (.one (.one (.two .all .cut)))) .all))) (by decide) (by kernel_rfl)
theorem sfok125:FOk Proofs.Tryz.prog (125,sf125):=fOkP (m:=(.two .all (.two .all .cut))) (by decide) (by kernel_rfl)
theorem sfok127:FOk Proofs.Tryz.prog (127,sf127):=fOkP (m:=(.two .all (.two .all (.two (.two .all (.two .cut .all)) (.two .all (.two (.one (.two .all (.two .cut .all))) .all)))))) (by decide) (by kernel_rfl)
theorem sfok128:FOk Proofs.Tryz.prog (128,sf128):=fOk (by decide) (by kernel_rfl)
theorem sfok129:FOk Proofs.Tryz.prog (129,sf129):=fOkP (m:=(.two .all (.two .all (.two .all (.two .all (.two (.two .all (.two .cut .all)) (.two .all (.two (.two .all (.one (.one (.two (.two .all (.two .all .cut)) (.two (.one (.two .all (.two .all (.two .all (.two (.two .all (.two .cut .all)) .all))))) .all))))) .cut)))))))) (by decide) (by kernel_rfl)
theorem sfok130:FOk Proofs.Tryz.prog (130,sf130):=fOk (by decide) (by kernel_rfl)
theorem sfok131:FOk Proofs.Tryz.prog (131,sf131):=fOkP (m:=(.two .all (.two (.two .all (.two .cut .all)) .all))) (by decide) (by kernel_rfl)
theorem sfok132:FOk Proofs.Tryz.prog (132,sf132):=fOk (by decide) (by kernel_rfl)
theorem sfok133:FOk Proofs.Tryz.prog (133,sf133):=fOkP (m:=(.two .all (.two .all (.two .all (.two (.one (.two .all (.two .cut (.two .all (.two .cut (.two .all (.two .cut (.two .all (.two .cut (.two .all (.two .cut (.two .all (.two .cut .all))))))))))))) .all))))) (by decide) (by kernel_rfl)
theorem sfok134:FOk Proofs.Tryz.prog (134,sf134):=fOk (by decide) (by kernel_rfl)
theorem sfok135:FOk Proofs.Tryz.prog (135,sf135):=fOkP (m:=(.two .all (.two .all (.two (.two .all (.two .cut .all)) .all)))) (by decide) (by kernel_rfl)
theorem sfok136:FOk Proofs.Tryz.prog (136,sf136):=fOk (by decide) (by kernel_rfl)
theorem sfok137:FOk Proofs.Tryz.prog (137,sf137):=fOk (by decide) (by kernel_rfl)
theorem sfok138:FOk Proofs.Tryz.prog (138,sf138):=fOk (by decide) (by kernel_rfl)
theorem sfok139:FOk Proofs.Tryz.prog (139,sf139):=fOkP (m:=(.two .all (.two .all (.two (.two .all (.two (.two .all (.two (.two .all (.two .cut .all)) (.two .all (.two (.two .all (.one (.one (.two .all (.two .all (.two (.one (.two .all (.two .all (.two (.two .all (.two .cut .all)) .all)))) .all)))))) (.two (.two .all (.two .cut .all)) .all))))) .all)) .cut)))) (by decide) (by kernel_rfl)
theorem sfok141:FOk Proofs.Tryz.prog (141,sf141):=fOkP (m:=(.two .all (.two .all (.two (.two .all (.two .cut .all)) .all)))) (by decide) (by kernel_rfl)
theorem sfok142:FOk Proofs.Tryz.prog (142,sf142):=fOk (by decide) (by kernel_rfl)
theorem sfok143:FOk Proofs.Tryz.prog (143,sf143):=fOk (by decide) (by kernel_rfl)
theorem sfok144:FOk Proofs.Tryz.prog (144,sf144):=fOkP (m:=(.two .all (.two .all (.two .all (.two .cut .all))))) (by decide) (by kernel_rfl)
theorem sfok145:FOk Proofs.Tryz.prog (145,sf145):=fOkP (m:=(.two .all (.two (.two .all (.two .cut .all)) .all))) (by decide) (by kernel_rfl)
theorem sfok146:FOk Proofs.Tryz.prog (146,sf146):=fOk (by decide) (by kernel_rfl)
theorem sfok147:FOk Proofs.Tryz.prog (147,sf147):=fOk (by decide) (by kernel_rfl)
theorem sfok148:FOk Proofs.Tryz.prog (148,sf148):=fOkP (m:=(.two .all (.two (.two .all (.two .cut .all)) (.two (.two .all (.two .all (.two .cut .all))) .all)))) (by decide) (by kernel_rfl)
theorem sfok149:FOk Proofs.Tryz.prog (149,sf149):=fOkP (m:=(.two .all (.two .all (.two .all (.two .all (.two .all (.two (.two .all (.one (.one (.two .all (.two .all .cut))))) .all))))))) (by decide) (by kernel_rfl)
theorem sfok150:FOk Proofs.Tryz.prog (150,sf150):=fOkP (m:=(.two .all (.two (.two .all (.two .all (.two .cut .all))) (.two (.one (.two .all (.two .cut (.two .all (.two .cut .all))))) .all)))) (by decide) (by kernel_rfl)
theorem sfok151:FOk Proofs.Tryz.prog (151,sf151):=fOk (by decide) (by kernel_rfl)
theorem sfok152:FOk Proofs.Tryz.prog (152,sf152):=fOkP (m:=(.two .all (.two .all (.one (.one (.one (.two .all (.two .all .cut)))))))) (by decide) (by kernel_rfl)
theorem sfok153:FOk Proofs.Tryz.prog (153,sf153):=fOkP (m:=(.two .all (.two (.two .cut .all) .all))) (by decide) (by kernel_rfl)
theorem sfok154:FOk Proofs.Tryz.prog (154,sf154):=fOkP (m:=(.two .all (.two (.two .all (.two .cut .all)) .all))) (by decide) (by kernel_rfl)
theorem sfok155:FOk Proofs.Tryz.prog (155,sf155):=fOkP (m:=(.two .all (.two (.two .all (.two .cut .all)) .all))) (by decide) (by kernel_rfl)
theorem sfok156:FOk Proofs.Tryz.prog (156,sf156):=fOkP (m:=(.two .all (.two (.two .all (.two .all (.two .cut .all))) (.two .all (.two (.one (.two .all (.two .cut (.two .all (.two .cut .all))))) (.two .all (.two .all (.two (.two .all (.one (.two .all (.two .all .cut)))) .cut)))))))) (by decide) (by kernel_rfl)
theorem sfok157:FOk Proofs.Tryz.prog (157,sf157):=fOkP (m:=(.two .all (.two .all (.two .all .cut)))) (by decide) (by kernel_rfl)
theorem sfok158:FOk Proofs.Tryz.prog (158,sf158):=fOk (by decide) (by kernel_rfl)
theorem sfok166:FOk Proofs.Tryz.prog (166,sf166):=fOk (by decide) (by kernel_rfl)
end Go.AM

namespace Go.AM
open Go
set_option maxHeartbeats 0
set_option maxRecDepth 100000
theorem sfok170:FOk Proofs.Tryz.prog (170,sf170):=fOkP (m:=(.two .all (.two (.two .all (.two .cut .all)) (.two .all (.two (.one (.two .all (.two .cut (.two .all (.two .cut .all))))) .all))))) (by decide) (by kernel_rfl)
theorem sfok171:FOk Proofs.Tryz.prog (171,sf171):=fOk (by decide) (by kernel_rfl)
theorem sfok172:FOk Proofs.Tryz.prog (172,sf172):=fOkP (m:=(.two .all (.two .all (.two .all .cut)))) (by decide) (by kernel_rfl)
theorem sfok173:FOk Proofs.Tryz.prog (173,sf173):=fOk (by decide) (by kernel_rfl)
theorem sfok174:FOk Proofs.Tryz.prog (174,sf174):=fOkP (m:=(.two .all (.two (.two .all (.two .cut .all)) .all))) (by decide) (by kernel_rfl)
theorem sfok179:FOk Proofs.Tryz.prog (179,sf179):=fOkP (m:=(.two .all (.two .all (.two (.two .all (.two .cut .all)) (.two .all (.two .all (.two .all (.two .all (.two (.two .all (.two .cut .all)) (.two .all (.two (.two .all (.one (.one (.two .all .cut)))) .all))))))))))) (by decide) (by kernel_rfl)
theorem sfok182:FOk Proofs.Tryz.prog (182,sf182):=fOkP (m:=(.two .all (.two (.two .all (.two .cut .all)) .all))) (by decide) (by kernel_rfl)
theorem sfok185:FOk Proofs.Tryz.prog (185,sf185):=fOkP (m:=(.two .all (.two (.two .all (.two .cut .all)) (.two (.two .all (.one (.one (.two .all (.two .all (.two (.one (.two .all (.two .all (.two .cut .all)))) .all)))))) .all)))) (by decide) (by kernel_rfl)
theorem sfok186:FOk Proofs.Tryz.prog (186,sf186):=fOkP (m:=(.two .all (.two (.one (.two .all (.two .cut (.two .all (.two .cut (.two .all (.two .cut .all))))))) .all))) (by decide) (by kernel_rfl)
theorem sfok194:FOk Proofs.Tryz.prog (194,sf194):=fOk (by decide) (by kernel_rfl)
theorem sfok197:FOk Proofs.Tryz.prog (197,sf197):=fOkP (m:=(.two .all (.two (.two .all (.two .cut .all)) (.two (.two .all (.two .cut .all)) (.two (.two .all (.two .cut .all)) .all))))) (by decide) (by kernel_rfl)
theorem sfok199:FOk Proofs.Tryz.prog (199,sf199):=fOk (by decide) (by kernel_rfl)
theorem sfok200:FOk Proofs.Tryz.prog (200,sf200):=fOkP (m:=(.two .all (.two (.two .cut .all) .all))) (by decide) (by kernel_rfl)
theorem sfok201:FOk Proofs.Tryz.prog (201,sf201):=fOk (by decide) (by kernel_rfl)
theorem sfok202:FOk Proofs.Tryz.prog (202,sf202):=fOkP (m:=(.two .all (.two .all (.two (.two .all (.two .cut .all)) (.two (.two .all (.one (.one (.two .all (.two (.two .all .cut) (.two .all .cut)))))) .cut))))) (by decide) (by kernel_rfl)
theorem sfok203:FOk Proofs.Tryz.prog (203,sf203):=fOkP (m:=(.two .all (.two (.two .all (.two .cut .all)) .all))) (by decide) (by kernel_rfl)
theorem sfok204:FOk Proofs.Tryz.prog (204,sf204):=fOk (by decide) (by kernel_rfl)
theorem sfok207:FOk Proofs.Tryz.prog (207,sf207):=fOkP (m:=(.two .all (.two (.two .all (.two .cut .all)) .all))) (by decide) (by kernel_rfl)
theorem sfok208:FOk Proofs.Tryz.prog (208,sf208):=fOkP (m:=(.two .all (.two .all (.two .all (.two (.one (.two .all (.two .cut (.two .all (.two .all (.two .all (.two .cut .all))))))) .cut))))) (by decide) (by kernel_rfl)
theorem sfok209:FOk Proofs.Tryz.prog (209,sf209):=fOkP (m:=(.two .all (.two .all (.two .all (.two .all (.two (.two .all (.two .all (.two .cut .all))) .all)))))) (by decide) (by kernel_rfl)
theorem sfok210:FOk Proofs.Tryz.prog (210,sf210):=fOk (by decide) (by kernel_rfl)
theorem sfok211:FOk Proofs.Tryz.prog (211,sf211):=fOkP (m:=(.two .all (.two (.two .all (.two .cut .all)) (.two (.two .all (.one (.one (.two .all (.two .all (.two (.one (.two .all (.two (.two .all (.two .cut .all)) (.two (.two .all (.two .cut .all)) (.two .all (.two (.two .all (.one (.one (.two .all (.two .all (.two (.one (.two .all (.two (.two .all (.two .cut .all)) .all))) .all)))))) (.two .all (.two .cut .all)))))))) .all)))))) .all)))) (by decide) (by kernel_rfl)
theorem sfok213:FOk Proofs.Tryz.prog (213,sf213):=fOkP (m:=(.two .all (.two .all (.two (.two .all (.one (.one (.two .all (.two .all (.two (.one (.two .all (.two .all (.two .all (.two .cut .all))))) .all)))))) .all)))) (by decide) (by kernel_rfl)
theorem sfok214:FOk Proofs.Tryz.prog (214,sf214):=fOk (by decide) (by kernel_rfl)
theorem sfok215:FOk Proofs.Tryz.prog (215,sf215):=fOkP (m:=(.two .all (.two (.two .all (.two .cut .all)) (.two .all (.two (.two .all (.two .cut .all)) (.two (.two .all (.two .cut .all)) (.two .all (.two (.two .all (.two .cut .all)) (.two (.two .all (.two .cut .all)) .all))))))))) (by decide) (by kernel_rfl)
theorem sfok217:FOk Proofs.Tryz.prog (217,sf217):=fOk (by decide) (by kernel_rfl)
theorem sfok218:FOk Proofs.Tryz.prog (218,sf218):=fOkP (m:=(.two .all (.two .all (.two .all (.two (.two .all (.two .cut .all)) .all))))) (by decide) (by kernel_rfl)
theorem sfok219:FOk Proofs.Tryz.prog (219,sf219):=fOk (by decide) (by kernel_rfl)
theorem sfok220:FOk Proofs.Tryz.prog (220,sf220):=fOkP (m:=(.two .all (.two (.two .all (.two .cut .all)) (.two .all (.two .all (.two .all (.two .all (.two .all (.two .all (.two (.two .all (.one (.one (.two .all (.two .all .cut))))) (.two .all (.two (.two .all (.one (.one (.two .all (.two .all .cut))))) (.two .all (.two (.two .all (.two .cut .all)) .all)))))))))))))) (by decide) (by kernel_rfl)
theorem sfok221:FOk Proofs.Tryz.prog (221,sf221):=⟨by decide,sf221p,by kernel_rfl,(.seq (.refl _) (.seq (.refl _) (.seq (.spl free_ok) (.refl _))))⟩
theorem sfok222:FOk Proofs.Tryz.prog (222,sf222):=fOkP (m:=(.two .all (.two .all (.one (.one (.one (.two .all (.two .all (.two .all (.two (.two .all (.two .cut .all)) .all)))))))))) (by decide) (by kernel_rfl)
theorem sfok223:FOk Proofs.Tryz.prog (223,sf223):=fOkP (m:=(.two .all (.two (.two .all (.two .cut .all)) (.two .all (.two .all (.two (.two .all (.two .cut .all)) .all)))))) (by decide) (by kernel_rfl)
theorem sfok224:FOk Proofs.Tryz.prog (224,sf224):=fOk (by decide) (by kernel_rfl)
theorem sfok225:FOk Proofs.Tryz.prog (225,sf225):=fOk (by decide) (by kernel_rfl)
theorem sfok226:FOk Proofs.Tryz.prog (226,sf226):=fOk (by decide) (by kernel_rfl)
theorem sfok227:FOk Proofs.Tryz.prog (227,sf227):=fOk (by decide) (by kernel_rfl)
theorem sfok228:FOk Proofs.Tryz.prog (228,sf228):=fOk (by decide) (by kernel_rfl)
theorem sfok229:FOk Proofs.Tryz.prog (229,sf229):=fOk (by decide) (by kernel_rfl)
theorem sfok230:FOk Proofs.Tryz.prog (230,sf230):=fOk (by decide) (by kernel_rfl)
theorem sfok236:FOk Proofs.Tryz.prog (236,sf236):=fOk (by decide) (by kernel_rfl)
theorem sfok237:FOk Proofs.Tryz.prog (237,sf237):=fOk (by decide) (by kernel_rfl)
theorem sfok238:FOk Proofs.Tryz.prog (238,sf238):=fOkP (m:=(.two .all (.two (.one (.two .all (.two .cut .all))) .all))) (by decide) (by kernel_rfl)
theorem sfok239:FOk Proofs.Tryz.prog (239,sf239):=fOk (by decide) (by kernel_rfl)
theorem sfok240:FOk Proofs.Tryz.prog (240,sf240):=fOkP (m:=(.two .all (.one (.one (.two .all .cut))))) (by decide) (by kernel_rfl)
theorem sfok250:FOk Proofs.Tryz.prog (250,sf250):=fOkP (m:=(.two .all (.two .all .cut))) (by decide) (by kernel_rfl)
theorem sfok251:FOk Proofs.Tryz.prog (251,sf251):=fOkP (m:=(.two .all (.two .all (.two .all (.two (.two .all (.two .cut .all)) .all))))) (by decide) (by kernel_rfl)
theorem sfok255:FOk Proofs.Tryz.prog (255,sf255):=fOk (by decide) (by kernel_rfl)
theorem sfok260:FOk Proofs.Tryz.prog (260,sf260):=fOkP (m:=(.two .all (.two .all (.two .all (.two (.two .all (.one (.one (.two .all (.two (.one (.two .all (.two .all (.two .cut .all)))) .all))))) .all))))) (by decide) (by kernel_rfl)
theorem sfok261:FOk Proofs.Tryz.prog (261,sf261):=fOk (by decide) (by kernel_rfl)
theorem sfok265:FOk Proofs.Tryz.prog (265,sf265):=fOkP (m:=(.two .all (.two (.two .all (.two .all (.two .cut .all))) (.two .all (.two (.one (.two .all (.two .cut (.two .all (.two .cut (.two .all (.two .cut .all))))))) .all))))) (by decide) (by kernel_rfl)
theorem sfok268:FOk Proofs.Tryz.prog (268,sf268):=fOk (by decide) (by kernel_rfl)
theorem sfok269:FOk Proofs.Tryz.prog (269,sf269):=fOk (by decide) (by kernel_rfl)
theorem sfok271:FOk Proofs.Tryz.prog (271,sf271):=fOkP (m:=(.two .all (.two (.two .all (.one (.one (.two .all (.two (.two .all .cut) (.two .all .cut)))))) .cut))) (by decide) (by kernel_rfl)
theorem sfok272:FOk Proofs.Tryz.prog (272,sf272):=fOk (by decide) (by kernel_rfl)
theorem sfok273:FOk Proofs.Tryz.prog (273,sf273):=fOk (by decide) (by kernel_rfl)
theorem sfok274:FOk Proofs.Tryz.prog (274,sf274):=fOkP (m:=(.two .all (.two .all (.two (.two .all (.one (.one (.two .all (.two .all .cut))))) .all)))) (by decide) (by kernel_rfl)
theorem sfok279:FOk Proofs.Tryz.prog (279,sf279):=fOkP (m:=(.two .all (.two (.two .all (.two .cut .all)) .all))) (by decide) (by kernel_rfl)
theorem sfok280:FOk Proofs.Tryz.prog (280,sf280):=fOk (by decide) (by kernel_rfl)
theorem sfok281:FOk Proofs.Tryz.prog (281,sf281):=fOk (by decide) (by kernel_rfl)
theorem sfok282:FOk Proofs.Tryz.prog (282,sf282):=fOkP (m:=(.two .all (.two .all (.two .all (.two (.two .all (.one (.one (.two .all (.two .all .cut))))) (.two .all (.two (.two .all (.one (.one (.two .all (.two .all .cut))))) .all))))))) (by decide) (by kernel_rfl)
theorem sfok283:FOk Proofs.Tryz.prog (283,sf283):=fOk (by decide) (by kernel_rfl)
theorem sfok291:FOk Proofs.Tryz.prog (291,sf291):=fOk (by decide) (by kernel_rfl)
theorem sfok292:FOk Proofs.Tryz.prog (292,sf292):=fOk (by decide) (by kernel_rfl)
theorem sfok293:FOk Proofs.Tryz.prog (293,sf293):=fOk (by decide) (by kernel_rfl)
theorem sfok296:FOk Proofs.Tryz.prog (296,sf296):=fOk (by decide) (by kernel_rfl)
end Go.AM

namespace Go.AM
open Go
set_option maxHeartbeats 0
set_option maxRecDepth 100000
theorem sfok297:FOk Proofs.Tryz.prog (297,sf297):=fOkP (m:=(.two .all (.two .all (.two (.two .all (.two .cut .all)) (.two .all (.two (.two .all (.two .cut .all)) (.two .all (.two (.two .all (.two .cut .all)) (.two (.two .all (.one (.one (.two .all (.two .all (.two (.one (.two .all (.two .all (.two .cut .all)))) .all)))))) .all))))))))) (by decide) (by kernel_rfl)
theorem sfok298:FOk Proofs.Tryz.prog (298,sf298):=fOkP (m:=(.two .all (.two (.two .all (.two .cut .all)) .all))) (by decide) (by kernel_rfl)
theorem sfok299:FOk Proofs.Tryz.prog (299,sf299):=fOkP (m:=(.two .all (.two .cut .all))) (by decide) (by kernel_rfl)
theorem sfok300:FOk Proofs.Tryz.prog (300,sf300):=fOkP (m:=(.two .all (.two .all (.two .all (.two (.two .all (.one (.one (.two .all .cut)))) (.two (.two .all (.one (.one (.two .all .cut)))) .all)))))) (by decide) (by kernel_rfl)
theorem sfok301:FOk Proofs.Tryz.prog (301,sf301):=fOkP (m:=(.two .all (.two (.two .all (.two .cut .all)) (.two .all (.two .all (.two (.two .all (.one (.two (.one (.two (.one (.two (.one (.two (.one (.one (.two (.two .all (.two .all (.two .all .cut))) .cut))) (.two .all .cut))) .all)) .cut)) .cut))) .all)))))) (by decide) (by kernel_rfl)
theorem sfok304:FOk Proofs.Tryz.prog (304,sf304):=fOkP (m:=(.two .all (.two (.two .all (.two .cut .all)) .all))) (by decide) (by kernel_rfl)
theorem sfok305:FOk Proofs.Tryz.prog (305,sf305):=fOk (by decide) (by kernel_rfl)
theorem sfok306:FOk Proofs.Tryz.prog (306,sf306):=fOk (by decide) (by kernel_rfl)
theorem sfok307:FOk Proofs.Tryz.prog (307,sf307):=fOk (by decide) (by kernel_rfl)
theorem sfok309:FOk Proofs.Tryz.prog (309,sf309):=fOk (by decide) (by kernel_rfl)
theorem sfok310:FOk Proofs.Tryz.prog (310,sf310):=fOkP (m:=(.two .all (.two (.two .all (.two .cut .all)) .all))) (by decide) (by kernel_rfl)
theorem sfok311:FOk Proofs.Tryz.prog (311,sf311):=fOk (by decide) (by kernel_rfl)
theorem sfok312:FOk Proofs.Tryz.prog (312,sf312):=fOkP (m:=(.two .all (.two (.one (.two .all (.two .cut (.two .all (.two .cut .all))))) (.two .all (.two (.two .all (.one (.one (.two .all (.two .all (.two (.one (.two .all (.two .all (.two (.two .all (.two .cut .all)) .all)))) .all)))))) .all))))) (by decide) (by kernel_rfl)
theorem sfok313:FOk Proofs.Tryz.prog (313,sf313):=fOk (by decide) (by kernel_rfl)
theorem sfok318:FOk Proofs.Tryz.prog (318,sf318):=fOk (by decide) (by kernel_rfl)
theorem sfok319:FOk Proofs.Tryz.prog (319,sf319):=fOk (by decide) (by kernel_rfl)
theorem sfok320:FOk Proofs.Tryz.prog (320,sf320):=fOk (by decide) (by kernel_rfl)
theorem sfok328:FOk Proofs.Tryz.prog (328,sf328):=fOkP (m:=(.two .all (.two (.two .all (.two .cut .all)) (.two .all (.two .all (.two .all (.two .all (.two .all (.two .all (.two (.one (.one (.two .all .cut))) .all)))))))))) (by decide) (by kernel_rfl)
theorem sfok330:FOk Proofs.Tryz.prog (330,sf330):=fOk (by decide) (by kernel_rfl)
theorem sfok331:FOk Proofs.Tryz.prog (331,sf331):=fOkP (m:=(.two .all (.two (.two .all (.one (.one (.two .all (.two .all (.two .all .cut)))))) .all))) (by decide) (by kernel_rfl)
theorem sfok333:FOk Proofs.Tryz.prog (333,sf333):=fOkP (m:=(.two .all (.two .all (.two .all (.two (.two .all (.one (.one (.two .all (.two .all (.two (.one (.two .all (.two (.two .all (.two .cut .all)) .all))) .cut)))))) .all))))) (by decide) (by kernel_rfl)
theorem sfok334:FOk Proofs.Tryz.prog (334,sf334):=fOkP (m:=(.two .all (.two .all (.two .all .cut)))) (by decide) (by kernel_rfl)
theorem sfok335:FOk Proofs.Tryz.prog (335,sf335):=fOkP (m:=(.two .all (.two .all (.two (.two .all (.one (.one (.two .all (.two .all .cut))))) .all)))) (by decide) (by kernel_rfl)
theorem sfok336:FOk Proofs.Tryz.prog (336,sf336):=fOkP (m:=(.two .all (.two (.two .all (.one (.one (.two .all (.two (.two .all .cut) .all))))) .cut))) (by decide) (by kernel_rfl)
theorem sfok339:FOk Proofs.Tryz.prog (339,sf339):=fOk (by decide) (by kernel_rfl)
theorem sfok340:FOk Proofs.Tryz.prog (340,sf340):=fOk (by decide) (by kernel_rfl)
theorem sfok341:FOk Proofs.Tryz.prog (341,sf341):=fOk (by decide) (by kernel_rfl)
theorem sfok342:FOk Proofs.Tryz.prog (342,sf342):=fOkP (m:=(.two .all (.two (.two .all (.one (.one (.two .all (.two .all .cut))))) .all))) (by decide) (by kernel_rfl)
theorem sfok344:FOk Proofs.Tryz.prog (344,sf344):=fOkP (m:=(.two .all (.two (.two .all (.two .cut .all)) .all))) (by decide) (by kernel_rfl)
theorem sfok346:FOk Proofs.Tryz.prog (346,sf346):=fOkP (m:=(.two .all (.two (.two .all (.one (.one (.two .all (.two .all (.two (.one (.two .all (.two .all (.two .cut .all)))) .all)))))) .all))) (by decide) (by kernel_rfl)
theorem sfok347:FOk Proofs.Tryz.prog (347,sf347):=fOk (by decide) (by kernel_rfl)
theorem sfok348:FOk Proofs.Tryz.prog (348,sf348):=fOkP (m:=(.two .all (.two (.two .all (.two .cut .all)) (.two .all (.two (.two .all (.two .cut .all)) (.two .all (.two (.two .all (.one (.one (.two .all (.two .all (.two (.one (.two .all (.two .all (.two (.two .all (.two .cut .all)) .all)))) .all)))))) .all))))))) (by decide) (by kernel_rfl)
theorem sfok349:FOk Proofs.Tryz.prog (349,sf349):=fOkP (m:=(.two .all (.two .all (.two (.two .all (.two .cut .all)) .all)))) (by decide) (by kernel_rfl)
theorem sfok350:FOk Proofs.Tryz.prog (350,sf350):=fOkP (m:=(.two .all (.two .all (.two (.two .all (.two .cut .all)) .all)))) (by decide) (by kernel_rfl)
theorem sfok351:FOk Proofs.Tryz.prog (351,sf351):=fOkP (m:=(.two .all (.two (.two .all (.two .cut .all)) (.two .all (.two (.two .all (.two .cut .all)) .all))))) (by decide) (by kernel_rfl)
theorem sfok353:FOk Proofs.Tryz.prog (353,sf353):=fOkP (m:=(.two .all (.two .all (.two (.two .all (.two .cut .all)) (.two .all (.two (.one (.one (.two .all (.one (.two .all (.two .all (.two (.two .all (.two .cut .all)) .all))))))) .all)))))) (by decide) (by kernel_rfl)
theorem sfok354:FOk Proofs.Tryz.prog (354,sf354):=fOk (by decide) (by kernel_rfl)
theorem sfok357:FOk Proofs.Tryz.prog (357,sf357):=fOkP (m:=(.two .all (.two .all (.two .all (.two (.two .all (.two .cut .all)) .all))))) (by decide) (by kernel_rfl)
theorem sfok358:FOk Proofs.Tryz.prog (358,sf358):=fOkP (m:=(.two .all (.two (.two .all (.two .cut .all)) (.two .all (.two .all (.two (.two .all (.one (.one (.two .all (.two .all (.two (.one (.two .all (.two (.two .all (.two .cut .all)) .all))) .all)))))) .all)))))) (by decide) (by kernel_rfl)
theorem sfok359:FOk Proofs.Tryz.prog (359,sf359):=fOk (by decide) (by kernel_rfl)
theorem sfok362:FOk Proofs.Tryz.prog (362,sf362):=fOkP (m:=(.two .all (.two .all .cut))) (by decide) (by kernel_rfl)
theorem sfok363:FOk Proofs.Tryz.prog (363,sf363):=fOkP (m:=(.two .all (.two .all (.two (.two .all (.two .cut .all)) .all)))) (by decide) (by kernel_rfl)
theorem sfok365:FOk Proofs.Tryz.prog (365,sf365):=fOkP (m:=(.two .all (.two .all .cut))) (by decide) (by kernel_rfl)
theorem sfok367:FOk Proofs.Tryz.prog (367,sf367):=fOk (by decide) (by kernel_rfl)
theorem sfok371:FOk Proofs.Tryz.prog (371,sf371):=fOk (by decide) (by kernel_rfl)
theorem sfok372:FOk Proofs.Tryz.prog (372,sf372):=fOkP (m:=(.two .all (.two (.two .all (.two .cut .all)) .all))) (by decide) (by kernel_rfl)
theorem sfok373:FOk Proofs.Tryz.prog (373,sf373):=fOkP (m:=(.two .all (.two .all (.two .all (.two (.two .all (.two .all (.two .cut .all))) (.two .all (.two .all (.two (.two .all (.two .cut .all)) .all)))))))) (by decide) (by kernel_rfl)
theorem sfok376:FOk Proofs.Tryz.prog (376,sf376):=fOkP (m:=(.two .all (.two (.two .all (.two .cut .all)) .all))) (by decide) (by kernel_rfl)
theorem sfok377:FOk Proofs.Tryz.prog (377,sf377):=fOkP (m:=(.two .all (.two .all (.two (.two .all (.two .cut .all)) (.two .all (.two (.two .all (.two .cut .all)) .all)))))) (by decide) (by kernel_rfl)
theorem sfok378:FOk Proofs.Tryz.prog (378,sf378):=fOkP (m:=(.two .all (.two .all (.two (.two .all (.two .cut .all)) (.two .all (.two .all (.two (.two .all (.one (.one (.two .all (.two .all (.two (.one (.two .all (.two (.two .all (.two .cut .all)) (.two .all (.two (.one (.one (.two .all .cut))) (.two .all (.two (.two .all (.one (.one (.two .all (.two .all (.two (.one (.two (.two .all (.two .cut .all)) (.two .all (.two (.two .all (.two .cut .all)) .all)))) .all)))))) .all))))))) .all)))))) (.two (.two .all (.two .cut .all)) .all)))))))) (by decide) (by kernel_rfl)
theorem sfok379:FOk Proofs.Tryz.prog (379,sf379):=fOkP (m:=(.two .all (.two (.two .all (.two .cut .all)) .all))) (by decide) (by kernel_rfl)
theorem sfok395:FOk Proofs.Tryz.prog (395,sf395):=fOk (by decide) (by kernel_rfl)
theorem sfok396:FOk Proofs.Tryz.prog (396,sf396):=fOkP (m:=(.two .all (.two (.two .all (.two .cut .all)) .all))) (by decide) (by kernel_rfl)
theorem sfok397:FOk Proofs.Tryz.prog (397,sf397):=fOk (by decide) (by kernel_rfl)
theorem sfok398:FOk Proofs.Tryz.prog (398,sf398):=fOkP (m:=(.two .all (.two .all (.two .all (.two .all (.two (.two .all (.two .cut .all)) .all)))))) (by decide) (by kernel_rfl)
theorem sfok399:FOk Proofs.Tryz.prog (399,sf399):=fOkP (m:=(.two .all (.two (.two .all (.two .cut .all)) (.two .all (.two .all (.two (.two .all (.two .cut .all)) .all)))))) (by decide) (by kernel_rfl)
theorem sfok410:FOk Proofs.Tryz.prog (410,sf410):=fOk (by decide) (by kernel_rfl)
theorem sfok411:FOk Proofs.Tryz.prog (411,sf411):=fOk (by decide) (by kernel_rfl)
theorem sfok413:FOk Proofs.Tryz.prog (413,sf413):=fOk (by decide) (by kernel_rfl)
theorem sfok414:FOk Proofs.Tryz.prog (414,sf414):=fOkP (m:=(.two .all (.two .all .cut))) (by decide) (by kernel_rfl)
theorem sfok415:FOk Proofs.Tryz.prog (415,sf415):=fOkP (m:=(.two .all (.two (.two .all (.one (.one (.two .all (.two .all (.two (.one (.two .all (.two .all (.two .cut .all)))) .all)))))) .all))) (by decide) (by kernel_rfl)
theorem sflok1232:LOk Proofs.Tryz.prog (1232,sfl1232):=⟨by decide,by kernel_rfl⟩
theorem sflok2416:LOk Proofs.Tryz.prog (2416,sfl2416):=⟨by decide,by kernel_rfl⟩
theorem sflok3680:LOk Proofs.Tryz.prog (3680,sfl3680):=⟨by decide,by kernel_rfl⟩
end Go.AM

namespace Go.AM
open Go
set_option maxHeartbeats 0
set_option maxRecDepth 1000000
noncomputable def sffc0:List (Nat × AFn):=[(3,sf3),(4,sf4),(5,sf5),(6,sf6),(7,sf7),(8,sf8),(9,sf9),(10,sf10),(11,sf11),(12,sf12),(13,sf13),(14,sf14),(15,sf15),(16,sf16),(17,sf17),(18,sf18),(19,sf19),(20,sf20),(21,sf21),(22,sf22),(23,sf23),(24,sf24),(25,sf25),(26,sf26),(27,sf27),(28,sf28),(29,sf29),(31,sf31),(32,sf32),(33,sf33),(34,sf34),(35,sf35),(36,sf36),(37,sf37),(38,sf38),(39,sf39),(40,sf40),(41,sf41),(42,sf42),(43,sf43)]
theorem sffc0_ok:All (FOk Proofs.Tryz.prog) sffc0:=⟨sfok3,sfok4,sfok5,sfok6,sfok7,sfok8,sfok9,sfok10,sfok11,sfok12,sfok13,sfok14,sfok15,sfok16,sfok17,sfok18,sfok19,sfok20,sfok21,sfok22,sfok23,sfok24,sfok25,sfok26,sfok27,sfok28,sfok29,sfok31,sfok32,sfok33,sfok34,sfok35,sfok36,sfok37,sfok38,sfok39,sfok40,sfok41,sfok42,sfok43,trivial⟩
noncomputable def sffc1:List (Nat × AFn):=[(44,sf44),(45,sf45),(46,sf46),(47,sf47),(48,sf48),(49,sf49),(51,sf51),(52,sf52),(53,sf53),(54,sf54),(55,sf55),(56,sf56),(57,sf57),(58,sf58),(59,sf59),(63,sf63),(64,sf64),(66,sf66),(67,sf67),(68,sf68),(69,sf69),(70,sf70),(71,sf71),(72,sf72),(73,sf73),(74,sf74),(76,sf76),(77,sf77),(78,sf78),(79,sf79),(80,sf80),(81,sf81),(82,sf82),(84,sf84),(85,sf85),(86,sf86),(90,sf90),(91,sf91),(92,sf92),(95,sf95)]
theorem sffc1_ok:All (FOk Proofs.Tryz.prog) sffc1:=⟨sfok44,sfok45,sfok46,sfok47,sfok48,sfok49,sfok51,sfok52,sfok53,sfok54,sfok55,sfok56,sfok57,sfok58,sfok59,sfok63,sfok64,sfok66,sfok67,sfok68,sfok69,sfok70,sfok71,sfok72,sfok73,sfok74,sfok76,sfok77,sfok78,sfok79,sfok80,sfok81,sfok82,sfok84,sfok85,sfok86,sfok90,sfok91,sfok92,sfok95,trivial⟩
noncomputable def sffc2:List (Nat × AFn):=[(97,sf97),(102,sf102),(103,sf103),(105,sf105),(106,sf106),(109,sf109),(110,sf110),(111,sf111),(112,sf112),(114,sf114),(118,sf118),(119,sf119),(120,sf120),(121,sf121),(122,sf122),(123,sf123),(124,sf124),(125,sf125),(127,sf127),(128,sf128),(129,sf129),(130,sf130),(131,sf131),(132,sf132),(133,sf133),(134,sf134),(135,sf135),(136,sf136),(137,sf137),(138,sf138),(139,sf139),(141,sf141),(142,sf142),(143,sf143),(144,sf144),(145,sf145),(146,sf146),(147,sf147),(148,sf148),(149,sf149)]
theorem sffc2_ok:All (FOk Proofs.Tryz.prog) sffc2:=⟨sfok97,sfok102,sfok103,sfok105,sfok106,sfok109,sfok110,sfok111,sfok112,sfok114,sfok118,sfok119,sfok120,sfok121,sfok122,sfok123,sfok124,sfok125,sfok127,sfok128,sfok129,sfok130,sfok131,sfok132,sfok133,sfok134,sfok135,sfok136,sfok137,sfok138,sfok139,sfok141,sfok142,sfok143,sfok144,sfok145,sfok146,sfok147,sfok148,sfok149,trivial⟩
noncomputable def sffc3:List (Nat × AFn):=[(150,sf150),(151,sf151),(152,sf152),(153,sf153),(154,sf154),(155,sf155),(156,sf156),(157,sf157),(158,sf158),(166,sf166),(170,sf170),(171,sf171),(172,sf172),(173,sf173),(174,sf174),(179,sf179),(182,sf182),(185,sf185),(186,sf186),(194,sf194),(197,sf197),(199,sf199),(200,sf200),(201,sf201),(202,sf202),(203,sf203),(204,sf204),(207,sf207),(208,sf208),(209,sf209),(210,sf210),(211,sf211),(213,sf213),(214,sf214),(215,sf215),(217,sf217),(218,sf218),(219,sf219),(220,sf220),(221,sf221)]
theorem sffc3_ok:All (FOk Proofs.Tryz.prog) sffc3:=⟨sfok150,sfok151,sfok152,sfok153,sfok154,sfok155,sfok156,sfok157,sfok158,sfok166,sfok170,sfok171,sfok172,sfok173,sfok174,sfok179,sfok182,sfok185,sfok186,sfok194,sfok197,sfok199,sfok200,sfok201,sfok202,sfok203,sfok204,sfok207,sfok208,sfok209,sfok210,sfok211,sfok213,sfok214,sfok215,sfok217,sfok218,sfok219,sfok220,sfok221,trivial⟩
noncomputable def sffc4:List (Nat × AFn):=[(222,sf222),(223,sf223),(224,sf224),(225,sf225),(226,sf226),(227,sf227),(228,sf228),(229,sf229),(230,sf230),(236,sf236),(237,sf237),(238,sf238),(239,sf239),(240,sf240),(250,sf250),(251,sf251),(255,sf255),(260,sf260),(261,sf261),(265,sf265),(268,sf268),(269,sf269),(271,sf271),(272,sf272),(273,sf273),(274,sf274),(279,sf279),(280,sf280),(281,sf281),(282,sf282),(283,sf283),(291,sf291),(292,sf292),(293,sf293),(295,(.sp tzS)),(296,sf296),(297,sf297),(298,sf298),(299,sf299),(300,sf300)]
theorem sffc4_ok:All (FOk Proofs.Tryz.prog) sffc4:=⟨sfok222,sfok223,sfok224,sfok225,sfok226,sfok227,sfok228,sfok229,sfok230,sfok236,sfok237,sfok238,sfok239,sfok240,sfok250,sfok251,sfok255,sfok260,sfok261,sfok265,sfok268,sfok269,sfok271,sfok272,sfok273,sfok274,sfok279,sfok280,sfok281,sfok282,sfok283,sfok291,sfok292,sfok293,sfsp295,sfok296,sfok297,sfok298,sfok299,sfok300,trivial⟩
noncomputable def sffc5:List (Nat × AFn):=[(301,sf301),(304,sf304),(305,sf305),(306,sf306),(307,sf307),(309,sf309),(310,sf310),(311,sf311),(312,sf312),(313,sf313),(318,sf318),(319,sf319),(320,sf320),(328,sf328),(330,sf330),(331,sf331),(333,sf333),(334,sf334),(335,sf335),(336,sf336),(339,sf339),(340,sf340),(341,sf341),(342,sf342),(344,sf344),(346,sf346),(347,sf347),(348,sf348),(349,sf349),(350,sf350),(351,sf351),(353,sf353),(354,sf354),(357,sf357),(358,sf358),(359,sf359),(362,sf362),(363,sf363),(365,sf365),(367,sf367)]
theorem sffc5_ok:All (FOk Proofs.Tryz.prog) sffc5:=⟨sfok301,sfok304,sfok305,sfok306,sfok307,sfok309,sfok310,sfok311,sfok312,sfok313,sfok318,sfok319,sfok320,sfok328,sfok330,sfok331,sfok333,sfok334,sfok335,sfok336,sfok339,sfok340,sfok341,sfok342,sfok344,sfok346,sfok347,sfok348,sfok349,sfok350,sfok351,sfok353,sfok354,sfok357,sfok358,sfok359,sfok362,sfok363,sfok365,sfok367,trivial⟩
noncomputable def sffc6:List (Nat × AFn):=[(371,sf371),(372,sf372),(373,sf373),(376,sf376),(377,sf377),(378,sf378),(379,sf379),(395,sf395),(396,sf396),(397,sf397),(398,sf398),(399,sf399),(410,sf410),(411,sf411),(413,sf413),(414,sf414),(415,sf415)]
theorem sffc6_ok:All (FOk Proofs.Tryz.prog) sffc6:=⟨sfok371,sfok372,sfok373,sfok376,sfok377,sfok378,sfok379,sfok395,sfok396,sfok397,sfok398,sfok399,sfok410,sfok411,sfok413,sfok414,sfok415,trivial⟩
noncomputable def sflc0:List (Nat × ALp):=[(1232,sfl1232),(2416,sfl2416),(3680,sfl3680)]
theorem sflc0_ok:All (LOk Proofs.Tryz.prog) sflc0:=⟨sflok1232,sflok2416,sflok3680,trivial⟩
theorem sffl_eq:sffl=sffc0 ++ (sffc1 ++ (sffc2 ++ (sffc3 ++ (sffc4 ++ (sffc5 ++ (sffc6 ++ [])))))):=by kernel_rfl
theorem sfll_eq:sfll=sflc0 ++ []:=by kernel_rfl
theorem sftb:TbOk sfT Proofs.Tryz.prog:=by
 rw [sfT_eq,sffl_eq,sfll_eq]
 exact tbOk (All.app sffc0_ok (All.app sffc1_ok (All.app sffc2_ok (All.app sffc3_ok (All.app sffc4_ok (All.app sffc5_ok (All.app sffc6_ok trivial))))))) (All.app sflc0_ok trivial)
end Go.AM

namespace Go.AM
open Go Go.Proofs
set_option maxRecDepth 1000000
set_option maxHeartbeats 0
theorem sfmo:Tryz.prog.follows .mixedOrders=true:=by kernel_rfl
theorem sfsp38:FOk Tryz.prog (38,.sp (pickSA 2)):=by
 have h:(trF Tryz.prog 38).isSome=true:=by kernel_rfl
 obtain ⟨u,hu⟩:=Option.isSome_iff_exists.1 h
 exact fOk_sp (by decide) hu (pickSA_ok sftb sfmo 2 sfpick)
theorem wS0_i:wS0.all isI=true:=by kernel_rfl
theorem wS1_i:wS1.all isI=true:=by kernel_rfl
theorem sfsp311:FOk Tryz.prog (311,.sp (wordS wS0 wS1)):=by
 have h:(trF Tryz.prog 311).isSome=true:=by kernel_rfl
 obtain ⟨u,hu⟩:=Option.isSome_iff_exists.1 h
 exact fOk_sp (by decide) hu (word_ok sftb sfmo wS0_i wS1_i wRun0 wRun1)
end Go.AM

namespace Go.AM
open Go
noncomputable def sfT5:Tb:=.mk (mF 3 (mF 2 (mF 1 (mF0 z0 z0 z0 (some sf3) (some sf4) (some sf5) (some sf6) (some sf7)) (mF0 (some sf8) (some sf9) (some sf10) (some sf11) (some sf12) (some sf13) (some sf14) (some sf15)) (mF0 (some sf16) (some sf17) (some sf18) (some sf19) (some sf20) (some sf21) (some sf22) (some sf23)) (mF0 (some sf24) (some sf25) (some sf26) (some sf27) (some sf28) (some sf29) z0 (some sf31)) (mF0 (some sf32) (some sf33) (some sf34) (some sf35) (some sf36) (some sf37) (some (.sp (pickSA 2))) (some sf39)) (mF0 (some sf40) (some sf41) (some sf42) (some sf43) (some sf44) (some sf45) (some sf46) (some sf47)) (mF0 (some sf48) (some sf49) z0 (some sf51) (some sf52) (some sf53) (some sf54) (some sf55)) (mF0 (some sf56) (some sf57) (some sf58) (some sf59) z0 z0 z0 (some sf63))) (mF 1 (mF0 (some sf64) z0 (some sf66) (some sf67) (some sf68) (some sf69) (some sf70) (some sf71)) (mF0 (some sf72) (some sf73) (some sf74) z0 (some sf76) (some sf77) (some sf78) (some sf79)) (mF0 (some sf80) (some sf81) (some sf82) z0 (some sf84) (some sf85) (some sf86) z0) (mF0 z0 z0 (some sf90) (some sf91) (some sf92) z0 z0 (some sf95)) (mF0 z0 (some sf97) z0 z0 z0 z0 (some sf102) (some sf103)) (mF0 z0 (some sf105) (some sf106) z0 z0 (some sf109) (some sf110) (some sf111)) (mF0 (some sf112) z0 (some sf114) z0 z0 z0 (some sf118) (some sf119)) (mF0 (some sf120) (some sf121) (some sf122) (some sf123) (some sf124) (some sf125) z0 (some sf127))) (mF 1 (mF0 (some sf128) (some sf129) (some sf130) (some sf131) (some sf132) (some sf133) (some sf134) (some sf135)) (mF0 (some sf136) (some sf137) (some sf138) (some sf139) z0 (some sf141) (some sf142) (some sf143)) (mF0 (some sf144) (some sf145) (some sf146) (some sf147) (some sf148) (some sf149) (some sf150) (some sf151)) (mF0 (some sf152) (some sf153) (some sf154) (some sf155) (some sf156) (some sf157) (some sf158) z0) (mF0 z0 z0 z0 z0 z0 z0 (some sf166) z0) (mF0 z0 z0 (some sf170) (some sf171) (some sf172) (some sf173) (some sf174) z0) (mF0 z0 z0 z0 (some sf179) z0 z0 (some sf182) z0) (mF0 z0 (some sf185) (some sf186) z0 z0 z0 z0 z0)) (mF 1 (mF0 z0 z0 (some sf194) z0 z0 (some sf197) z0 (some sf199)) (mF0 (some sf200) (some sf201) (some sf202) (some sf203) (some sf204) z0 z0 (some sf207)) (mF0 (some sf208) (some sf209) (some sf210) (some sf211) z0 (some sf213) (some sf214) (some sf215)) (mF0 z0 (some sf217) (some sf218) (some sf219) (some sf220) (some sf221) (some sf222) (some sf223)) (mF0 (some sf224) (some sf225) (some sf226) (some sf227) (some sf228) (some sf229) (some sf230) z0) (mF0 z0 z0 z0 z0 (some sf236) (some sf237) (some sf238) (some sf239)) (mF0 (some sf240) z0 z0 z0 z0 z0 z0 z0) (mF0 z0 z0 (some sf250) (some sf251) z0 z0 z0 (some sf255))) (mF 1 (mF0 z0 z0 z0 z0 (some sf260) (some sf261) z0 z0) (mF0 z0 (some sf265) z0 z0 (some sf268) (some sf269) z0 (some sf271)) (mF0 (some sf272) (some sf273) (some sf274) z0 z0 z0 z0 (some sf279)) (mF0 (some sf280) (some sf281) (some sf282) (some sf283) z0 z0 z0 z0) (mF0 z0 z0 z0 (some sf291) (some sf292) (some sf293) z0 (some (.sp tzS))) (mF0 (some sf296) (some sf297) (some sf298) (some sf299) (some sf300) (some sf301) z0 z0) (mF0 (some sf304) (some sf305) (some sf306) (some sf307) z0 (some sf309) (some sf310) (some (.sp (wordS wS0 wS1)))) (mF0 (some sf312) (some sf313) z0 z0 z0 z0 (some sf318) (some sf319))) (mF 1 (mF0 (some sf320) z0 z0 z0 z0 z0 z0 z0) (mF0 (some sf328) z0 (some sf330) (some sf331) z0 (some sf333) (some sf334) (some sf335)) (mF0 (some sf336) z0 z0 (some sf339) (some sf340) (some sf341) (some sf342) z0) (mF0 (some sf344) z0 (some sf346) (some sf347) (some sf348) (some sf349) (some sf350) (some sf351)) (mF0 z0 (some sf353) (some sf354) z0 z0 (some sf357) (some sf358) (some sf359)) (mF0 z0 z0 (some sf362) (some sf363) z0 (some sf365) z0 (some sf367)) (mF0 z0 z0 z0 (some sf371) (some sf372) (some sf373) z0 z0) (mF0 (some sf376) (some sf377) (some sf378) (some sf379) z0 z0 z0 z0)) (mF 1 (zF 1) (mF0 z0 z0 z0 (some sf395) (some sf396) (some sf397) (some sf398) (some sf399)) (zF 1) (mF0 z0 z0 (some sf410) (some sf411) z0 (some sf413) (some sf414) (some sf415)) (zF 1) (zF 1) (zF 1) (zF 1)) (zF 2)) (zF 3) (zF 3) (zF 3) (zF 3) (zF 3) (zF 3) (zF 3)) (mL 4 (mL 3 (zL 3) (zL 3) (mL 2 (zL 2) (zL 2) (zL 2) (mL 1 (zL 1) (zL 1) (mL 0 (some sfl1232) y0 y0 y0 y0 y0 y0 y0) (zL 1) (zL 1) (zL 1) (zL 1) (zL 1)) (zL 2) (zL 2) (zL 2) (zL 2)) (zL 3) (mL 2 (zL 2) (zL 2) (zL 2) (zL 2) (zL 2) (mL 1 (zL 1) (zL 1) (zL 1) (zL 1) (zL 1) (zL 1) (mL 0 (some sfl2416) y0 y0 y0 y0 y0 y0 y0) (zL 1)) (zL 2) (zL 2)) (zL 3) (zL 3) (mL 2 (zL 2) (mL 1 (zL 1) (zL 1) (zL 1) (zL 1) (mL 0 (some sfl3680) y0 y0 y0 y0 y0 y0 y0) (zL 1) (zL 1) (zL 1)) (zL 2) (zL 2) (zL 2) (zL 2) (zL 2) (zL 2))) (zL 4) (zL 4) (zL 4) (zL 4) (zL 4) (zL 4) (zL 4)) true
noncomputable def sffl_5:List (Nat × AFn):=[(3,sf3),(4,sf4),(5,sf5),(6,sf6),(7,sf7),(8,sf8),(9,sf9),(10,sf10),(11,sf11),(12,sf12),(13,sf13),(14,sf14),(15,sf15),(16,sf16),(17,sf17),(18,sf18),(19,sf19),(20,sf20),(21,sf21),(22,sf22),(23,sf23),(24,sf24),(25,sf25),(26,sf26),(27,sf27),(28,sf28),(29,sf29),(31,sf31),(32,sf32),(33,sf33),(34,sf34),(35,sf35),(36,sf36),(37,sf37),(38,(.sp (pickSA 2))),(39,sf39),(40,sf40),(41,sf41),(42,sf42),(43,sf43),(44,sf44),(45,sf45),(46,sf46),(47,sf47),(48,sf48),(49,sf49),(51,sf51),(52,sf52),(53,sf53),(54,sf54),(55,sf55),(56,sf56),(57,sf57),(58,sf58),(59,sf59),(63,sf63),(64,sf64),(66,sf66),(67,sf67),(68,sf68),(69,sf69),(70,sf70),(71,sf71),(72,sf72),(73,sf73),(74,sf74),(76,sf76),(77,sf77),(78,sf78),(79,sf79),(80,sf80),(81,sf81),(82,sf82),(84,sf84),(85,sf85),(86,sf86),(90,sf90),(91,sf91),(92,sf92),(95,sf95),(97,sf97),(102,sf102),(103,sf103),(105,sf105),(106,sf106),(109,sf109),(110,sf110),(111,sf111),(112,sf112),(114,sf114),(118,sf118),(119,sf119),(120,sf120),(121,sf121),(122,sf122),(123,sf123),(124,sf124),(125,sf125),(127,sf127),(128,sf128),(129,sf129),(130,sf130),(131,sf131),(132,sf132),(133,sf133),(134,sf134),(135,sf135),(136,sf136),(137,sf137),(138,sf138),(139,sf139),(141,sf141),(142,sf142),(143,sf143),(144,sf144),(145,sf145),(146,sf146),(147,sf147),(148,sf148),(149,sf149),(150,sf150),(151,sf151),(152,sf152),(153,sf153),(154,sf154),(155,sf155),(156,sf156),(157,sf157),(158,sf158),(166,sf166),(170,sf170),(171,sf171),(172,sf172),(173,sf173),(174,sf174),(179,sf179),(182,sf182),(185,sf185),(186,sf186),(194,sf194),(197,sf197),(199,sf199),(200,sf200),(201,sf201),(202,sf202),(203,sf203),(204,sf204),(207,sf207),(208,sf208),(209,sf209),(210,sf210),(211,sf211),(213,sf213),(214,sf214),(215,sf215),(217,sf217),(218,sf218),(219,sf219),(220,sf220),(221,sf221),(222,sf222),(223,sf223),(224,sf224),(225,sf225),(226,sf226),(227,sf227),(228,sf228),(229,sf229),(230,sf230),(236,sf236),(237,sf237),(238,sf238),(239,sf239),(240,sf240),(250,sf250),(251,sf251),(255,sf255),(260,sf260),(261,sf261),(265,sf265),(268,sf268),(269,sf269),(271,sf271),(272,sf272),(273,sf273),(274,sf274),(279,sf279),(280,sf280),(281,sf281),(282,sf282),(283,sf283),(291,sf291),(292,sf292),(293,sf293),(295,(.sp tzS)),(296,sf296),(297,sf297),(298,sf298),(299,sf299),(300,sf300),(301,sf301),(304,sf304),(305,sf305),(306,sf306),(307,sf307),(309,sf309),(310,sf310),(311,(.sp (wordS wS0 wS1))),(312,sf312),(313,sf313),(318,sf318),(319,sf319),(320,sf320),(328,sf328),(330,sf330),(331,sf331),(333,sf333),(334,sf334),(335,sf335),(336,sf336),(339,sf339),(340,sf340),(341,sf341),(342,sf342),(344,sf344),(346,sf346),(347,sf347),(348,sf348),(349,sf349),(350,sf350),(351,sf351),(353,sf353),(354,sf354),(357,sf357),(358,sf358),(359,sf359),(362,sf362),(363,sf363),(365,sf365),(367,sf367),(371,sf371),(372,sf372),(373,sf373),(376,sf376),(377,sf377),(378,sf378),(379,sf379),(395,sf395),(396,sf396),(397,sf397),(398,sf398),(399,sf399),(410,sf410),(411,sf411),(413,sf413),(414,sf414),(415,sf415)]
theorem sfT5_eq:sfT5 = .mk (mkT 4 sffl_5) (mkT 5 sfll) true:=by kernel_rfl
end Go.AM

namespace Go.AM
open Go
set_option maxHeartbeats 0
set_option maxRecDepth 1000000
noncomputable def sfg5c0:List (Nat × AFn):=[(3,sf3),(4,sf4),(5,sf5),(6,sf6),(7,sf7),(8,sf8),(9,sf9),(10,sf10),(11,sf11),(12,sf12),(13,sf13),(14,sf14),(15,sf15),(16,sf16),(17,sf17),(18,sf18),(19,sf19),(20,sf20),(21,sf21),(22,sf22),(23,sf23),(24,sf24),(25,sf25),(26,sf26),(27,sf27),(28,sf28),(29,sf29),(31,sf31),(32,sf32),(33,sf33),(34,sf34),(35,sf35),(36,sf36),(37,sf37),(38,(.sp (pickSA 2))),(39,sf39),(40,sf40),(41,sf41),(42,sf42),(43,sf43)]
theorem sfg5c0_ok:All (FOk Proofs.Tryz.prog) sfg5c0:=⟨sfok3,sfok4,sfok5,sfok6,sfok7,sfok8,sfok9,sfok10,sfok11,sfok12,sfok13,sfok14,sfok15,sfok16,sfok17,sfok18,sfok19,sfok20,sfok21,sfok22,sfok23,sfok24,sfok25,sfok26,sfok27,sfok28,sfok29,sfok31,sfok32,sfok33,sfok34,sfok35,sfok36,sfok37,sfsp38,sfok39,sfok40,sfok41,sfok42,sfok43,trivial⟩
noncomputable def sfg5c1:List (Nat × AFn):=[(44,sf44),(45,sf45),(46,sf46),(47,sf47),(48,sf48),(49,sf49),(51,sf51),(52,sf52),(53,sf53),(54,sf54),(55,sf55),(56,sf56),(57,sf57),(58,sf58),(59,sf59),(63,sf63),(64,sf64),(66,sf66),(67,sf67),(68,sf68),(69,sf69),(70,sf70),(71,sf71),(72,sf72),(73,sf73),(74,sf74),(76,sf76),(77,sf77),(78,sf78),(79,sf79),(80,sf80),(81,sf81),(82,sf82),(84,sf84),(85,sf85),(86,sf86),(90,sf90),(91,sf91),(92,sf92),(95,sf95)]
theorem sfg5c1_ok:All (FOk Proofs.Tryz.prog) sfg5c1:=⟨sfok44,sfok45,sfok46,sfok47,sfok48,sfok49,sfok51,sfok52,sfok53,sfok54,sfok55,sfok56,sfok57,sfok58,sfok59,sfok63,sfok64,sfok66,sfok67,sfok68,sfok69,sfok70,sfok71,sfok72,sfok73,sfok74,sfok76,sfok77,sfok78,sfok79,sfok80,sfok81,sfok82,sfok84,sfok85,sfok86,sfok90,sfok91,sfok92,sfok95,trivial⟩
noncomputable def sfg5c2:List (Nat × AFn):=[(97,sf97),(102,sf102),(103,sf103),(105,sf105),(106,sf106),(109,sf109),(110,sf110),(111,sf111),(112,sf112),(114,sf114),(118,sf118),(119,sf119),(120,sf120),(121,sf121),(122,sf122),(123,sf123),(124,sf124),(125,sf125),(127,sf127),(128,sf128),(129,sf129),(130,sf130),(131,sf131),(132,sf132),(133,sf133),(134,sf134),(135,sf135),(136,sf136),(137,sf137),(138,sf138),(139,sf139),(141,sf141),(142,sf142),(143,sf143),(144,sf144),(145,sf145),(146,sf146),(147,sf147),(148,sf148),(149,sf149)]
theorem sfg5c2_ok:All (FOk Proofs.Tryz.prog) sfg5c2:=⟨sfok97,sfok102,sfok103,sfok105,sfok106,sfok109,sfok110,sfok111,sfok112,sfok114,sfok118,sfok119,sfok120,sfok121,sfok122,sfok123,sfok124,sfok125,sfok127,sfok128,sfok129,sfok130,sfok131,sfok132,sfok133,sfok134,sfok135,sfok136,sfok137,sfok138,sfok139,sfok141,sfok142,sfok143,sfok144,sfok145,sfok146,sfok147,sfok148,sfok149,trivial⟩
noncomputable def sfg5c3:List (Nat × AFn):=[(150,sf150),(151,sf151),(152,sf152),(153,sf153),(154,sf154),(155,sf155),(156,sf156),(157,sf157),(158,sf158),(166,sf166),(170,sf170),(171,sf171),(172,sf172),(173,sf173),(174,sf174),(179,sf179),(182,sf182),(185,sf185),(186,sf186),(194,sf194),(197,sf197),(199,sf199),(200,sf200),(201,sf201),(202,sf202),(203,sf203),(204,sf204),(207,sf207),(208,sf208),(209,sf209),(210,sf210),(211,sf211),(213,sf213),(214,sf214),(215,sf215),(217,sf217),(218,sf218),(219,sf219),(220,sf220),(221,sf221)]
theorem sfg5c3_ok:All (FOk Proofs.Tryz.prog) sfg5c3:=⟨sfok150,sfok151,sfok152,sfok153,sfok154,sfok155,sfok156,sfok157,sfok158,sfok166,sfok170,sfok171,sfok172,sfok173,sfok174,sfok179,sfok182,sfok185,sfok186,sfok194,sfok197,sfok199,sfok200,sfok201,sfok202,sfok203,sfok204,sfok207,sfok208,sfok209,sfok210,sfok211,sfok213,sfok214,sfok215,sfok217,sfok218,sfok219,sfok220,sfok221,trivial⟩
noncomputable def sfg5c4:List (Nat × AFn):=[(222,sf222),(223,sf223),(224,sf224),(225,sf225),(226,sf226),(227,sf227),(228,sf228),(229,sf229),(230,sf230),(236,sf236),(237,sf237),(238,sf238),(239,sf239),(240,sf240),(250,sf250),(251,sf251),(255,sf255),(260,sf260),(261,sf261),(265,sf265),(268,sf268),(269,sf269),(271,sf271),(272,sf272),(273,sf273),(274,sf274),(279,sf279),(280,sf280),(281,sf281),(282,sf282),(283,sf283),(291,sf291),(292,sf292),(293,sf293),(295,(.sp tzS)),(296,sf296),(297,sf297),(298,sf298),(299,sf299),(300,sf300)]
theorem sfg5c4_ok:All (FOk Proofs.Tryz.prog) sfg5c4:=⟨sfok222,sfok223,sfok224,sfok225,sfok226,sfok227,sfok228,sfok229,sfok230,sfok236,sfok237,sfok238,sfok239,sfok240,sfok250,sfok251,sfok255,sfok260,sfok261,sfok265,sfok268,sfok269,sfok271,sfok272,sfok273,sfok274,sfok279,sfok280,sfok281,sfok282,sfok283,sfok291,sfok292,sfok293,sfsp295,sfok296,sfok297,sfok298,sfok299,sfok300,trivial⟩
noncomputable def sfg5c5:List (Nat × AFn):=[(301,sf301),(304,sf304),(305,sf305),(306,sf306),(307,sf307),(309,sf309),(310,sf310),(311,(.sp (wordS wS0 wS1))),(312,sf312),(313,sf313),(318,sf318),(319,sf319),(320,sf320),(328,sf328),(330,sf330),(331,sf331),(333,sf333),(334,sf334),(335,sf335),(336,sf336),(339,sf339),(340,sf340),(341,sf341),(342,sf342),(344,sf344),(346,sf346),(347,sf347),(348,sf348),(349,sf349),(350,sf350),(351,sf351),(353,sf353),(354,sf354),(357,sf357),(358,sf358),(359,sf359),(362,sf362),(363,sf363),(365,sf365),(367,sf367)]
theorem sfg5c5_ok:All (FOk Proofs.Tryz.prog) sfg5c5:=⟨sfok301,sfok304,sfok305,sfok306,sfok307,sfok309,sfok310,sfsp311,sfok312,sfok313,sfok318,sfok319,sfok320,sfok328,sfok330,sfok331,sfok333,sfok334,sfok335,sfok336,sfok339,sfok340,sfok341,sfok342,sfok344,sfok346,sfok347,sfok348,sfok349,sfok350,sfok351,sfok353,sfok354,sfok357,sfok358,sfok359,sfok362,sfok363,sfok365,sfok367,trivial⟩
noncomputable def sfg5c6:List (Nat × AFn):=[(371,sf371),(372,sf372),(373,sf373),(376,sf376),(377,sf377),(378,sf378),(379,sf379),(395,sf395),(396,sf396),(397,sf397),(398,sf398),(399,sf399),(410,sf410),(411,sf411),(413,sf413),(414,sf414),(415,sf415)]
theorem sfg5c6_ok:All (FOk Proofs.Tryz.prog) sfg5c6:=⟨sfok371,sfok372,sfok373,sfok376,sfok377,sfok378,sfok379,sfok395,sfok396,sfok397,sfok398,sfok399,sfok410,sfok411,sfok413,sfok414,sfok415,trivial⟩
theorem sffl_5_eq:sffl_5=sfg5c0 ++ (sfg5c1 ++ (sfg5c2 ++ (sfg5c3 ++ (sfg5c4 ++ (sfg5c5 ++ (sfg5c6 ++ [])))))):=by kernel_rfl
theorem sftb5:TbOk sfT5 Proofs.Tryz.prog:=by
 rw [sfT5_eq,sffl_5_eq,sfll_eq]
 exact tbOk (All.app sfg5c0_ok (All.app sfg5c1_ok (All.app sfg5c2_ok (All.app sfg5c3_ok (All.app sfg5c4_ok (All.app sfg5c5_ok (All.app sfg5c6_ok trivial))))))) (All.app sflc0_ok trivial)
end Go.AM

namespace Go.AM
open Go
noncomputable def crS:SpF:=sumS sfT5 39 2 4 [71] 32 48 [7,71] [7,54,62,79,81,71,69,60,72,78,83] 2000000 12
end Go.AM

namespace Go.AM
open Go
noncomputable def sfT6:Tb:=.mk (mF 3 (mF 2 (mF 1 (mF0 z0 z0 z0 (some sf3) (some sf4) (some sf5) (some sf6) (some sf7)) (mF0 (some sf8) (some sf9) (some sf10) (some sf11) (some sf12) (some sf13) (some sf14) (some sf15)) (mF0 (some sf16) (some sf17) (some sf18) (some sf19) (some sf20) (some sf21) (some sf22) (some sf23)) (mF0 (some sf24) (some sf25) (some sf26) (some sf27) (some sf28) (some sf29) z0 (some sf31)) (mF0 (some sf32) (some sf33) (some sf34) (some sf35) (some sf36) (some sf37) (some (.sp (pickSA 2))) (some (.sp crS))) (mF0 (some sf40) (some sf41) (some sf42) (some sf43) (some sf44) (some sf45) (some sf46) (some sf47)) (mF0 (some sf48) (some sf49) z0 (some sf51) (some sf52) (some sf53) (some sf54) (some sf55)) (mF0 (some sf56) (some sf57) (some sf58) (some sf59) z0 z0 z0 (some sf63))) (mF 1 (mF0 (some sf64) z0 (some sf66) (some sf67) (some sf68) (some sf69) (some sf70) (some sf71)) (mF0 (some sf72) (some sf73) (some sf74) z0 (some sf76) (some sf77) (some sf78) (some sf79)) (mF0 (some sf80) (some sf81) (some sf82) z0 (some sf84) (some sf85) (some sf86) z0) (mF0 z0 z0 (some sf90) (some sf91) (some sf92) z0 z0 (some sf95)) (mF0 z0 (some sf97) z0 z0 z0 z0 (some sf102) (some sf103)) (mF0 z0 (some sf105) (some sf106) z0 z0 (some sf109) (some sf110) (some sf111)) (mF0 (some sf112) z0 (some sf114) z0 z0 z0 (some sf118) (some sf119)) (mF0 (some sf120) (some sf121) (some sf122) (some sf123) (some sf124) (some sf125) z0 (some sf127))) (mF 1 (mF0 (some sf128) (some sf129) (some sf130) (some sf131) (some sf132) (some sf133) (some sf134) (some sf135)) (mF0 (some sf136) (some sf137) (some sf138) (some sf139) z0 (some sf141) (some sf142) (some sf143)) (mF0 (some sf144) (some sf145) (some sf146) (some sf147) (some sf148) (some sf149) (some sf150) (some sf151)) (mF0 (some sf152) (some sf153) (some sf154) (some sf155) (some sf156) (some sf157) (some sf158) z0) (mF0 z0 z0 z0 z0 z0 z0 (some sf166) z0) (mF0 z0 z0 (some sf170) (some sf171) (some sf172) (some sf173) (some sf174) z0) (mF0 z0 z0 z0 (some sf179) z0 z0 (some sf182) z0) (mF0 z0 (some sf185) (some sf186) z0 z0 z0 z0 z0)) (mF 1 (mF0 z0 z0 (some sf194) z0 z0 (some sf197) z0 (some sf199)) (mF0 (some sf200) (some sf201) (some sf202) (some sf203) (some sf204) z0 z0 (some sf207)) (mF0 (some sf208) (some sf209) (some sf210) (some sf211) z0 (some sf213) (some sf214) (some sf215)) (mF0 z0 (some sf217) (some sf218) (some sf219) (some sf220) (some sf221) (some sf222) (some sf223)) (mF0 (some sf224) (some sf225) (some sf226) (some sf227) (some sf228) (some sf229) (some sf230) z0) (mF0 z0 z0 z0 z0 (some sf236) (some sf237) (some sf238) (some sf239)) (mF0 (some sf240) z0 z0 z0 z0 z0 z0 z0) (mF0 z0 z0 (some sf250) (some sf251) z0 z0 z0 (some sf255))) (mF 1 (mF0 z0 z0 z0 z0 (some sf260) (some sf261) z0 z0) (mF0 z0 (some sf265) z0 z0 (some sf268) (some sf269) z0 (some sf271)) (mF0 (some sf272) (some sf273) (some sf274) z0 z0 z0 z0 (some sf279)) (mF0 (some sf280) (some sf281) (some sf282) (some sf283) z0 z0 z0 z0) (mF0 z0 z0 z0 (some sf291) (some sf292) (some sf293) z0 (some (.sp tzS))) (mF0 (some sf296) (some sf297) (some sf298) (some sf299) (some sf300) (some sf301) z0 z0) (mF0 (some sf304) (some sf305) (some sf306) (some sf307) z0 (some sf309) (some sf310) (some (.sp (wordS wS0 wS1)))) (mF0 (some sf312) (some sf313) z0 z0 z0 z0 (some sf318) (some sf319))) (mF 1 (mF0 (some sf320) z0 z0 z0 z0 z0 z0 z0) (mF0 (some sf328) z0 (some sf330) (some sf331) z0 (some sf333) (some sf334) (some sf335)) (mF0 (some sf336) z0 z0 (some sf339) (some sf340) (some sf341) (some sf342) z0) (mF0 (some sf344) z0 (some sf346) (some sf347) (some sf348) (some sf349) (some sf350) (some sf351)) (mF0 z0 (some sf353) (some sf354) z0 z0 (some sf357) (some sf358) (some sf359)) (mF0 z0 z0 (some sf362) (some sf363) z0 (some sf365) z0 (some sf367)) (mF0 z0 z0 z0 (some sf371) (some sf372) (some sf373) z0 z0) (mF0 (some sf376) (some sf377) (some sf378) (some sf379) z0 z0 z0 z0)) (mF 1 (zF 1) (mF0 z0 z0 z0 (some sf395) (some sf396) (some sf397) (some sf398) (some sf399)) (zF 1) (mF0 z0 z0 (some sf410) (some sf411) z0 (some sf413) (some sf414) (some sf415)) (zF 1) (zF 1) (zF 1) (zF 1)) (zF 2)) (zF 3) (zF 3) (zF 3) (zF 3) (zF 3) (zF 3) (zF 3)) (mL 4 (mL 3 (zL 3) (zL 3) (mL 2 (zL 2) (zL 2) (zL 2) (mL 1 (zL 1) (zL 1) (mL 0 (some sfl1232) y0 y0 y0 y0 y0 y0 y0) (zL 1) (zL 1) (zL 1) (zL 1) (zL 1)) (zL 2) (zL 2) (zL 2) (zL 2)) (zL 3) (mL 2 (zL 2) (zL 2) (zL 2) (zL 2) (zL 2) (mL 1 (zL 1) (zL 1) (zL 1) (zL 1) (zL 1) (zL 1) (mL 0 (some sfl2416) y0 y0 y0 y0 y0 y0 y0) (zL 1)) (zL 2) (zL 2)) (zL 3) (zL 3) (mL 2 (zL 2) (mL 1 (zL 1) (zL 1) (zL 1) (zL 1) (mL 0 (some sfl3680) y0 y0 y0 y0 y0 y0 y0) (zL 1) (zL 1) (zL 1)) (zL 2) (zL 2) (zL 2) (zL 2) (zL 2) (zL 2))) (zL 4) (zL 4) (zL 4) (zL 4) (zL 4) (zL 4) (zL 4)) true
noncomputable def sffl_6:List (Nat × AFn):=[(3,sf3),(4,sf4),(5,sf5),(6,sf6),(7,sf7),(8,sf8),(9,sf9),(10,sf10),(11,sf11),(12,sf12),(13,sf13),(14,sf14),(15,sf15),(16,sf16),(17,sf17),(18,sf18),(19,sf19),(20,sf20),(21,sf21),(22,sf22),(23,sf23),(24,sf24),(25,sf25),(26,sf26),(27,sf27),(28,sf28),(29,sf29),(31,sf31),(32,sf32),(33,sf33),(34,sf34),(35,sf35),(36,sf36),(37,sf37),(38,(.sp (pickSA 2))),(39,(.sp crS)),(40,sf40),(41,sf41),(42,sf42),(43,sf43),(44,sf44),(45,sf45),(46,sf46),(47,sf47),(48,sf48),(49,sf49),(51,sf51),(52,sf52),(53,sf53),(54,sf54),(55,sf55),(56,sf56),(57,sf57),(58,sf58),(59,sf59),(63,sf63),(64,sf64),(66,sf66),(67,sf67),(68,sf68),(69,sf69),(70,sf70),(71,sf71),(72,sf72),(73,sf73),(74,sf74),(76,sf76),(77,sf77),(78,sf78),(79,sf79),(80,sf80),(81,sf81),(82,sf82),(84,sf84),(85,sf85),(86,sf86),(90,sf90),(91,sf91),(92,sf92),(95,sf95),(97,sf97),(102,sf102),(103,sf103),(105,sf105),(106,sf106),(109,sf109),(110,sf110),(111,sf111),(112,sf112),(114,sf114),(118,sf118),(119,sf119),(120,sf120),(121,sf121),(122,sf122),(123,sf123),(124,sf124),(125,sf125),(127,sf127),(128,sf128),(129,sf129),(130,sf130),(131,sf131),(132,sf132),(133,sf133),(134,sf134),(135,sf135),(136,sf136),(137,sf137),(138,sf138),(139,sf139),(141,sf141),(142,sf142),(143,sf143),(144,sf144),(145,sf145),(146,sf146),(147,sf147),(148,sf148),(149,sf149),(150,sf150),(151,sf151),(152,sf152),(153,sf153),(154,sf154),(155,sf155),(156,sf156),(157,sf157),(158,sf158),(166,sf166),(170,sf170),(171,sf171),(172,sf172),(173,sf173),(174,sf174),(179,sf179),(182,sf182),(185,sf185),(186,sf186),(194,sf194),(197,sf197),(199,sf199),(200,sf200),(201,sf201),(202,sf202),(203,sf203),(204,sf204),(207,sf207),(208,sf208),(209,sf209),(210,sf210),(211,sf211),(213,sf213),(214,sf214),(215,sf215),(217,sf217),(218,sf218),(219,sf219),(220,sf220),(221,sf221),(222,sf222),(223,sf223),(224,sf224),(225,sf225),(226,sf226),(227,sf227),(228,sf228),(229,sf229),(230,sf230),(236,sf236),(237,sf237),(238,sf238),(239,sf239),(240,sf240),(250,sf250),(251,sf251),(255,sf255),(260,sf260),(261,sf261),(265,sf265),(268,sf268),(269,sf269),(271,sf271),(272,sf272),(273,sf273),(274,sf274),(279,sf279),(280,sf280),(281,sf281),(282,sf282),(283,sf283),(291,sf291),(292,sf292),(293,sf293),(295,(.sp tzS)),(296,sf296),(297,sf297),(298,sf298),(299,sf299),(300,sf300),(301,sf301),(304,sf304),(305,sf305),(306,sf306),(307,sf307),(309,sf309),(310,sf310),(311,(.sp (wordS wS0 wS1))),(312,sf312),(313,sf313),(318,sf318),(319,sf319),(320,sf320),(328,sf328),(330,sf330),(331,sf331),(333,sf333),(334,sf334),(335,sf335),(336,sf336),(339,sf339),(340,sf340),(341,sf341),(342,sf342),(344,sf344),(346,sf346),(347,sf347),(348,sf348),(349,sf349),(350,sf350),(351,sf351),(353,sf353),(354,sf354),(357,sf357),(358,sf358),(359,sf359),(362,sf362),(363,sf363),(365,sf365),(367,sf367),(371,sf371),(372,sf372),(373,sf373),(376,sf376),(377,sf377),(378,sf378),(379,sf379),(395,sf395),(396,sf396),(397,sf397),(398,sf398),(399,sf399),(410,sf410),(411,sf411),(413,sf413),(414,sf414),(415,sf415)]
theorem sfT6_eq:sfT6 = .mk (mkT 4 sffl_6) (mkT 5 sfll) true:=by kernel_rfl
end Go.AM

namespace Go.AM
open Go Go.Proofs
set_option maxRecDepth 1000000
set_option maxHeartbeats 0
theorem sfsp39:FOk Tryz.prog (39,.sp crS):=by
 have h:(trF Tryz.prog 39).isSome=true:=by kernel_rfl
 obtain ⟨u,hu⟩:=Option.isSome_iff_exists.1 h
 exact fOk_sp (by decide) hu (sum_ok sftb5 sfmo (by kernel_rfl) (by kernel_rfl) (by kernel_rfl))
end Go.AM

namespace Go.AM
open Go
set_option maxHeartbeats 0
set_option maxRecDepth 1000000
noncomputable def sfg6c0:List (Nat × AFn):=[(3,sf3),(4,sf4),(5,sf5),(6,sf6),(7,sf7),(8,sf8),(9,sf9),(10,sf10),(11,sf11),(12,sf12),(13,sf13),(14,sf14),(15,sf15),(16,sf16),(17,sf17),(18,sf18),(19,sf19),(20,sf20),(21,sf21),(22,sf22),(23,sf23),(24,sf24),(25,sf25),(26,sf26),(27,sf27),(28,sf28),(29,sf29),(31,sf31),(32,sf32),(33,sf33),(34,sf34),(35,sf35),(36,sf36),(37,sf37),(38,(.sp (pickSA 2))),(39,(.sp crS)),(40,sf40),(41,sf41),(42,sf42),(43,sf43)]
theorem sfg6c0_ok:All (FOk Proofs.Tryz.prog) sfg6c0:=⟨sfok3,sfok4,sfok5,sfok6,sfok7,sfok8,sfok9,sfok10,sfok11,sfok12,sfok13,sfok14,sfok15,sfok16,sfok17,sfok18,sfok19,sfok20,sfok21,sfok22,sfok23,sfok24,sfok25,sfok26,sfok27,sfok28,sfok29,sfok31,sfok32,sfok33,sfok34,sfok35,sfok36,sfok37,sfsp38,sfsp39,sfok40,sfok41,sfok42,sfok43,trivial⟩
noncomputable def sfg6c1:List (Nat × AFn):=[(44,sf44),(45,sf45),(46,sf46),(47,sf47),(48,sf48),(49,sf49),(51,sf51),(52,sf52),(53,sf53),(54,sf54),(55,sf55),(56,sf56),(57,sf57),(58,sf58),(59,sf59),(63,sf63),(64,sf64),(66,sf66),(67,sf67),(68,sf68),(69,sf69),(70,sf70),(71,sf71),(72,sf72),(73,sf73),(74,sf74),(76,sf76),(77,sf77),(78,sf78),(79,sf79),(80,sf80),(81,sf81),(82,sf82),(84,sf84),(85,sf85),(86,sf86),(90,sf90),(91,sf91),(92,sf92),(95,sf95)]
theorem sfg6c1_ok:All (FOk Proofs.Tryz.prog) sfg6c1:=⟨sfok44,sfok45,sfok46,sfok47,sfok48,sfok49,sfok51,sfok52,sfok53,sfok54,sfok55,sfok56,sfok57,sfok58,sfok59,sfok63,sfok64,sfok66,sfok67,sfok68,sfok69,sfok70,sfok71,sfok72,sfok73,sfok74,sfok76,sfok77,sfok78,sfok79,sfok80,sfok81,sfok82,sfok84,sfok85,sfok86,sfok90,sfok91,sfok92,sfok95,trivial⟩
noncomputable def sfg6c2:List (Nat × AFn):=[(97,sf97),(102,sf102),(103,sf103),(105,sf105),(106,sf106),(109,sf109),(110,sf110),(111,sf111),(112,sf112),(114,sf114),(118,sf118),(119,sf119),(120,sf120),(121,sf121),(122,sf122),(123,sf123),(124,sf124),(125,sf125),(127,sf127),(128,sf128),(129,sf129),(130,sf130),(131,sf131),(132,sf132),(133,sf133),(134,sf134),(135,sf135),(136,sf136),(137,sf137),(138,sf138),(139,sf139),(141,sf141),(142,sf142),(143,sf143),(144,sf144),(145,sf145),(146,sf146),(147,sf147),(148,sf148),(149,sf149)]
theorem sfg6c2_ok:All (FOk Proofs.Tryz.prog) sfg6c2:=⟨sfok97,sfok102,sfok103,sfok105,sfok106,sfok109,sfok110,sfok111,sfok112,sfok114,sfok118,sfok119,sfok120,sfok121,sfok122,sfok123,sfok124,sfok125,sfok127,sfok128,sfok129,sfok130,sfok131,sfok132,sfok133,sfok134,sfok135,sfok136,sfok137,sfok138,sfok139,sfok141,sfok142,sfok143,sfok144,sfok145,sfok146,sfok147,sfok148,sfok149,trivial⟩
noncomputable def sfg6c3:List (Nat × AFn):=[(150,sf150),(151,sf151),(152,sf152),(153,sf153),(154,sf154),(155,sf155),(156,sf156),(157,sf157),(158,sf158),(166,sf166),(170,sf170),(171,sf171),(172,sf172),(173,sf173),(174,sf174),(179,sf179),(182,sf182),(185,sf185),(186,sf186),(194,sf194),(197,sf197),(199,sf199),(200,sf200),(201,sf201),(202,sf202),(203,sf203),(204,sf204),(207,sf207),(208,sf208),(209,sf209),(210,sf210),(211,sf211),(213,sf213),(214,sf214),(215,sf215),(217,sf217),(218,sf218),(219,sf219),(220,sf220),(221,sf221)]
theorem sfg6c3_ok:All (FOk Proofs.Tryz.prog) sfg6c3:=⟨sfok150,sfok151,sfok152,sfok153,sfok154,sfok155,sfok156,sfok157,sfok158,sfok166,sfok170,sfok171,sfok172,sfok173,sfok174,sfok179,sfok182,sfok185,sfok186,sfok194,sfok197,sfok199,sfok200,sfok201,sfok202,sfok203,sfok204,sfok207,sfok208,sfok209,sfok210,sfok211,sfok213,sfok214,sfok215,sfok217,sfok218,sfok219,sfok220,sfok221,trivial⟩
noncomputable def sfg6c4:List (Nat × AFn):=[(222,sf222),(223,sf223),(224,sf224),(225,sf225),(226,sf226),(227,sf227),(228,sf228),(229,sf229),(230,sf230),(236,sf236),(237,sf237),(238,sf238),(239,sf239),(240,sf240),(250,sf250),(251,sf251),(255,sf255),(260,sf260),(261,sf261),(265,sf265),(268,sf268),(269,sf269),(271,sf271),(272,sf272),(273,sf273),(274,sf274),(279,sf279),(280,sf280),(281,sf281),(282,sf282),(283,sf283),(291,sf291),(292,sf292),(293,sf293),(295,(.sp tzS)),(296,sf296),(297,sf297),(298,sf298),(299,sf299),(300,sf300)]
theorem sfg6c4_ok:All (FOk Proofs.Tryz.prog) sfg6c4:=⟨sfok222,sfok223,sfok224,sfok225,sfok226,sfok227,sfok228,sfok229,sfok230,sfok236,sfok237,sfok238,sfok239,sfok240,sfok250,sfok251,sfok255,sfok260,sfok261,sfok265,sfok268,sfok269,sfok271,sfok272,sfok273,sfok274,sfok279,sfok280,sfok281,sfok282,sfok283,sfok291,sfok292,sfok293,sfsp295,sfok296,sfok297,sfok298,sfok299,sfok300,trivial⟩
noncomputable def sfg6c5:List (Nat × AFn):=[(301,sf301),(304,sf304),(305,sf305),(306,sf306),(307,sf307),(309,sf309),(310,sf310),(311,(.sp (wordS wS0 wS1))),(312,sf312),(313,sf313),(318,sf318),(319,sf319),(320,sf320),(328,sf328),(330,sf330),(331,sf331),(333,sf333),(334,sf334),(335,sf335),(336,sf336),(339,sf339),(340,sf340),(341,sf341),(342,sf342),(344,sf344),(346,sf346),(347,sf347),(348,sf348),(349,sf349),(350,sf350),(351,sf351),(353,sf353),(354,sf354),(357,sf357),(358,sf358),(359,sf359),(362,sf362),(363,sf363),(365,sf365),(367,sf367)]
theorem sfg6c5_ok:All (FOk Proofs.Tryz.prog) sfg6c5:=⟨sfok301,sfok304,sfok305,sfok306,sfok307,sfok309,sfok310,sfsp311,sfok312,sfok313,sfok318,sfok319,sfok320,sfok328,sfok330,sfok331,sfok333,sfok334,sfok335,sfok336,sfok339,sfok340,sfok341,sfok342,sfok344,sfok346,sfok347,sfok348,sfok349,sfok350,sfok351,sfok353,sfok354,sfok357,sfok358,sfok359,sfok362,sfok363,sfok365,sfok367,trivial⟩
noncomputable def sfg6c6:List (Nat × AFn):=[(371,sf371),(372,sf372),(373,sf373),(376,sf376),(377,sf377),(378,sf378),(379,sf379),(395,sf395),(396,sf396),(397,sf397),(398,sf398),(399,sf399),(410,sf410),(411,sf411),(413,sf413),(414,sf414),(415,sf415)]
theorem sfg6c6_ok:All (FOk Proofs.Tryz.prog) sfg6c6:=⟨sfok371,sfok372,sfok373,sfok376,sfok377,sfok378,sfok379,sfok395,sfok396,sfok397,sfok398,sfok399,sfok410,sfok411,sfok413,sfok414,sfok415,trivial⟩
theorem sffl_6_eq:sffl_6=sfg6c0 ++ (sfg6c1 ++ (sfg6c2 ++ (sfg6c3 ++ (sfg6c4 ++ (sfg6c5 ++ (sfg6c6 ++ [])))))):=by kernel_rfl
theorem sftb6:TbOk sfT6 Proofs.Tryz.prog:=by
 rw [sfT6_eq,sffl_6_eq,sfll_eq]
 exact tbOk (All.app sfg6c0_ok (All.app sfg6c1_ok (All.app sfg6c2_ok (All.app sfg6c3_ok (All.app sfg6c4_ok (All.app sfg6c5_ok (All.app sfg6c6_ok trivial))))))) (All.app sflc0_ok trivial)
end Go.AM

namespace Go.AM
open Go
set_option maxHeartbeats 0
set_option maxRecDepth 1000000
def hexD (n:Nat):Nat:=if n < 10 then 48 + n else 87 + n
def csT (l:List Nat):List AV:=l.map fun n=>.i 4 (.ofNat n)
def hxT (h l:AV):List AV:=[h,l,h,l,h,l,h,l,h,l,h,l,h,l,h,l,h,l,h,l,h,l,h,l,h,l,h,l,h,l,h,l]
def dg0:AV:=.i 4 (.ofNat 48)
def hiB (s m:Nat):AV:=.l 4 (lanB (fun j=>hexD ((s + j % m) / 16)) 12 0)
def loB (s m:Nat):AV:=.l 4 (lanB (fun j=>hexD ((s + j % m) % 16)) 12 0)
def hiC (s m t:Nat):AV:=.l 4 (lanB (fun j=>hexD (cOf s m t j / 16)) 12 0)
def loC (s m t:Nat):AV:=.l 4 (lanB (fun j=>hexD (cOf s m t j % 16)) 12 0)
def uS0:List Nat:=[99,114,101,97,116,101,32,97,32,48,32,52,32,46,10,119,114,105,116,101,32,97,32,49,32]
def uS1:List Nat:=[10,102,108,117,115,104,32,97,10,119,114,105,116,101,32,97,32,49,32]
def uS2:List Nat:=[10,115,104,111,116,32,97,32,115,10,99,114,97,115,104,32]
def uS3:List Nat:=[10,114,101,97,100,32,97,32,49,32,49,10,105,110,102,111,32,97,10,114,101,112,97,105,114,32,97,10,99,104,101,99,107,32,97,10,117,115,101,100,10]
def uT0:List Nat:=[99,114,101,97,116,101,32,97,32,48,32,52,32,46,10,112,111,119,101,114,32]
def uT1:List Nat:=[10,119,114,105,116,101,32,97,32,49,32]
def uT2:List Nat:=[10,102,108,117,115,104,32,97,10,99,114,97,115,104,32]
def uT3:List Nat:=[10,99,104,101,99,107,32,97,10,114,101,97,100,32,97,32,48,32,49,10]
def tS (bh bl ch cl:AV):List AV:=csT uS0 ++ (hxT bh bl ++ (csT uS1 ++ (hxT ch cl ++ (csT uS2 ++ (pickTl 2 ++ csT uS3)))))
def oS (bh bl:AV):AV:=.t (csT [111,107,10,111,107,10,111,107,10,111,107,10,111,107,10,111,107,10,111,107,32] ++ (hxT bh bl ++ csT [10,111,107,32,52,32,48,10,111,107,32,48,10,111,107,32,48,32,48,10,111,107,32,49,53,10]))
def oS0:AV:=.s [111,107,10,111,107,10,111,107,10,111,107,10,111,107,10,111,107,10,111,107,32,48,48,48,48,48,48,48,48,48,48,48,48,48,48,48,48,48,48,48,48,48,48,48,48,48,48,48,48,48,48,48,48,10,111,107,32,52,32,48,10,111,107,32,48,10,111,107,32,48,32,48,10,111,107,32,49,52,10]
def tT (bh bl:AV) (p:Nat) (a b c d:Option Bool):List AV:=csT uT0 ++ (.i 4 (.ofNat (Nat.add 48 p)) :: (csT uT1 ++ (hxT bh bl ++ (csT uT2 ++ (pickTm 2 a b c d ++ csT uT3)))))
def oT:List Nat:=[111,107,10,111,107,10,111,107,10,101,114,114,111,114,32,56,10,111,107,10,111,107,32,48,32,48,10,111,107,32,48,48,48,48,48,48,48,48,48,48,48,48,48,48,48,48,48,48,48,48,48,48,48,48,48,48,48,48,48,48,48,48,10]
def oT1:List Nat:=[111,107,10,111,107,10,101,114,114,111,114,32,56,10,101,114,114,111,114,32,56,10,111,107,10,111,107,32,48,32,48,10,111,107,32,48,48,48,48,48,48,48,48,48,48,48,48,48,48,48,48,48,48,48,48,48,48,48,48,48,48,48,48,48,48,48,48,10]
noncomputable def forceL (l:List AV) (κ:List AV→R):R:=@List.rec AV (fun _=>(List AV→R)→R) (fun κ=>κ []) (fun x _ ih κ=>ih fun r=>κ (x :: r)) l κ
theorem forceL_eq:∀ (l:List AV) (κ:List AV→R),forceL l κ=κ l
 | [],_=>rfl
 | x :: l,κ=>forceL_eq l fun r=>κ (x :: r)
def ksV1:List (List Nat):=[[0,1,2,8,9,10,39,42,43,58,59,297,299,311,327],[0,1,2,8,9,10,39,42,43,58,59,299,311,431,495,502,518,519,530],[0,1,2,8,9,10,39,42,43,58,59,431,502,518,519,1755,1757,1787,1799,1801,1807],[0,1,2,8,9,10,39,42,43,58,59,431,1755,1757,1787,1799,1801,1976,1978,2167,2177,2179,2223],[0,1,2,8,9,10,39,42,43,58,59,431,1755,1757,1787,1799,1801,1976,1978,2167,2370,2372,2551,2553,2555,2562,2564,2570]]
def ksV3:List (List Nat):=[[0,1,2,8,9,10,39,42,43,58,59,297,299,311,327],[0,1,2,8,9,10,39,42,43,58,59,299,311,431,495,502,518,519,530],[0,1,2,8,9,10,39,42,43,58,59,431,502,518,519,1755,1757,1787,1799,1801,1807],[0,1,2,8,9,10,39,42,43,58,59,431,502,1755,1757,1787,1799,1801,1976,1978,2003,2005,2048],[0,1,2,8,9,10,39,42,43,58,59,431,502,1755,1757,1787,1799,1801,1976,1978,2185,2187,2352,2354,2356,2363,2365,2371]]
def ksV4:List (List Nat):=[[0,1,2,8,9,10,39,42,43,58,59,297,299,311,327],[0,1,2,8,9,10,39,42,43,58,59,299,311,431,495,502,518,519,530],[0,1,2,8,9,10,39,42,43,58,59,431,502,518,519,1755,1757,1787,1799,1801,1807],[0,1,2,8,9,10,39,42,43,58,59,431,502,1755,1757,1787,1799,1801,1976,1978,2045,2047,2057,2059,2103],[0,1,2,8,9,10,39,42,43,58,59,431,502,1755,1757,1787,1799,1801,1976,1978,2045,2047,2250,2252,2431,2433,2435,2442,2444,2450]]
def ksV5:List (List Nat):=[[0,1,2,8,9,10,39,42,43,58,59,297,299,311,327],[0,1,2,8,9,10,39,42,43,58,59,297,299,311,431,457,458,469],[0,1,2,8,9,10,39,42,43,58,59,431,457,458,1636,1638,1666,1678,1680,1686],[0,1,2,8,9,10,39,42,43,58,59,431,1636,1638,1666,1678,1680,1845,1847,2014,2024,2026,2069],[0,1,2,8,9,10,39,42,43,58,59,431,1636,1638,1666,1678,1680,1845,1847,2014,2216,2218,2397,2399,2401,2408,2410,2416]]
def ksV6:List (List Nat):=[[0,1,2,8,9,10,39,42,43,58,59,297,299,311,327],[0,1,2,8,9,10,39,42,43,58,59,297,299,311,431,457,458,469],[0,1,2,8,9,10,39,42,43,58,59,431,457,458,1636,1638,1666,1678,1680,1686],[0,1,2,8,9,10,39,42,43,58,59,431,1636,1638,1666,1678,1680,1845,1847,1870,1872,1914],[0,1,2,8,9,10,39,42,43,58,59,431,1636,1638,1666,1678,1680,1845,1847,2051,2053,2218,2220,2222,2229,2231,2237]]
noncomputable def gS (bh bl ch cl o:AV) (kss:List (List Nat)):Bool:=forceL (tS bh bl ch cl) fun l=>enterK sfT6 6 [.t l] false [] h0 0 (fun s=>runQ sfT6 2000000 (fun v _ _=>oneOf v [o]) kss s)
noncomputable def gT (bh bl:AV) (p:Nat) (a b c d:Option Bool) (o:List Nat):Bool:=forceL (tT bh bl p a b c d) fun l=>enterK sfT5 6 [.t l] false [] h0 0 (fun s=>runN sfT5 39 2 4 [71] 64 100000 [7,71] [7,54,62,79,81,71,69,60,72,78,83] 2000000 (fun v _ _=>oneOf v [.s o]) 40 s)
noncomputable def sS (bh bl ch cl o:AV):SpF:=spAlt [.t (tS bh bl ch cl)] [o]
noncomputable def sT (bh bl:AV) (p:Nat) (o:List Nat):SpF:=spAlt [.t (tT bh bl p none none none none)] [.s o]
noncomputable def sTs (bh bl:AV) (o1:List Nat):SpF:=spOr (sT bh bl 1 o1) (spOr (sT bh bl 2 oT) (spOr (sT bh bl 3 oT) (spOr (sT bh bl 4 oT) (spOr (sT bh bl 5 oT) (spOr (sT bh bl 6 oT) (spOr (sT bh bl 7 oT) (spOr (sT bh bl 8 oT) (sT bh bl 9 oT))))))))
noncomputable def lwT (c:SpF):Tb:=.mk (mkT 4 [(3,sf3),(4,sf4),(5,sf5),(6,.sp c),(7,sf7),(8,.sp spTrue)]) (mkT 5 []) true
noncomputable def lwG (b c:AV) (s t:SpF):Bool:=goF (lwT (spOr s t)) 200000 3 [b,c,.xi 2 4 0 1,.xi 3 4 0 1] (fun v _ _=>match v with | .b c=>c | _=>false)
end Go.AM

namespace Go.AM
open Go
def Told (P:Program) (f:Nat) (A:List AV) (o:List Nat):Prop:=∀ (X:Nat→Value) (hX:∀ n,(X n).oneCell' = true) (w:World),GloW P w→Oks (θ0 X hX) [.t A]→
 Calls P f (toVs (θ0 X hX) [.t A]).toArray w fun r w'=>∃ v h nx θ' u,r = .returned u∧VR θ' v u∧HR P w [] θ' h nx w'∧oneOf v [.s o]=true∧(θ0 X hX).le θ'
theorem toldN {P:Program} {tb:Tb} (ht:TbOk tb P) (hm:P.follows .mixedOrders=true) {f g b b4 lo hi n k:Nat} {k4 kt ft:List Nat} (h4:k4.all (Nat.blt · 512)=true) (hk:kt.all (Nat.blt · 512)=true) (hf:ft.all (Nat.blt · 512)=true) {A:List AV} {o:List Nat}
  (e:enterK tb f [.t A] false [] h0 0 (fun s=>runN tb g b b4 k4 lo hi kt ft n (fun v _ _=>oneOf v [.s o]) k s)=true):Told P f A o:=by
 have hl:∀ l:List Nat,l.all (Nat.blt · 512)=true→∀ t ∈ l,t < 512:=fun l h t hm=>by
  have:=List.all_eq_true.1 h t hm
  simpa [Nat.blt_eq] using this
 intro X hX w hg hv cs0
 obtain ⟨_,_,_,s,m1,h1,h2,h3⟩:=enter_ok (f0:=⟨f,[],θ0 X hX⟩) (cs0:=cs0) (κ:=fun s=>runN tb g b b4 k4 lo hi kt ft n (fun v _ _=>oneOf v [.s o]) k s) ht e hv (hr0 P w hX hg) (Fs:=[]) ⟨rfl,rfl,rfl,rfl,.refl _⟩
 obtain ⟨v,h,nx,m2,k1,k2,k3⟩:=runN_ok ht hm (hl k4 h4) (hl kt hk) (hl ft hf) k s m1 h2 h3
 cases k2 with
 | @fin _ u _ _ θ' F w' hR hv' hl' hfn hle=>
  exact ⟨.returned u,w',F,⟨v,h,nx,θ',u,rfl,hv',hR,k3,hle⟩,h1.trans k1,hfn,hl'⟩
theorem sp_turn {P:Program} {f:Nat} {o:List Nat} {B:List AV}
  (told:∀ θ:Th,Oks θ [.t B]→∃ A X,∃ hX:∀ n,(X n).oneCell' = true,Told P f A o∧Oks (θ0 X hX) [.t A]∧toVs (θ0 X hX) [.t A]=toVs θ [.t B]) :
  SpOk P f (spAlt [.t B] [.s o]):=by
 intro w0 pd θ h nx w vs κ hR hv e1
 obtain ⟨g1,e2⟩:=br_t (show br (beqVs vs [.t B]) (eachK [.s o] fun v=>κ v h nx) false=true from e1)
 have hvs:=beqVs_eq vs _ g1
 subst hvs
 obtain ⟨A,X,hX,t1,t2,t3⟩:=told θ hv
 have hc:=t1 X hX w hR.gloW t2
 rw [t3] at hc
 refine hc.mono fun r w' ⟨v,h',nx',θ',u,h1,h2,h3,h4,h5⟩=>?_
 have hmem:=oneOf_mem h4
 have hs:v = .s o:=by simpa using hmem
 subst hs
 exact ⟨.s o,u,θ,h,nx,h1,.refl θ,⟨h2.1,h2.2⟩,hR.wider ⟨h3.plain.1,h3.plain.2.1,h3.plain.2.2⟩ h3.size (fun b hb=>h3.kept b hb (by rw [h5.ini];exact id)),eachK_mem e2 _ hmem⟩
theorem csT_map (θ:Th) (l:List Nat):(csT l).map (byV θ)=l.map UInt8.ofNat:=by
 unfold csT
 rw [List.map_map]
 rfl
theorem csT_ok {l:List Nat} (h:l.all (Nat.blt · 256)=true):∀ v ∈ csT l,byOk v:=by
 intro v hv
 obtain ⟨n,hn,rfl⟩:=List.mem_map.1 hv
 have:=List.all_eq_true.1 h n hn
 exact .inl ⟨n,rfl,by simpa [Nat.blt_eq] using this⟩
theorem hxT_mem {h l:AV}:∀ v ∈ hxT h l,v=h∨v=l:=by
 unfold hxT
 simp
theorem hxT_map (θ:Th) (h l:AV):(hxT h l).map (byV θ)=(List.replicate 16 [byV θ h,byV θ l]).flatten:=rfl
def pkT (x p q r s:Nat):List UInt8:=[UInt8.ofNat (48 + x / 2 ^ 0 % 2),UInt8.ofNat (48 + x / 2 ^ 1 % 2),UInt8.ofNat (48 + x / 2 ^ 2 % 2),UInt8.ofNat (48 + x / 2 ^ 3 % 2),UInt8.ofNat (48 + p),UInt8.ofNat (48 + q),UInt8.ofNat (48 + r),UInt8.ofNat (48 + s),
 UInt8.ofNat (48 + x / 2 ^ 0 % 2),UInt8.ofNat (48 + x / 2 ^ 1 % 2),UInt8.ofNat (48 + x / 2 ^ 2 % 2),UInt8.ofNat (48 + x / 2 ^ 3 % 2)]
theorem pkT_map (θ:Th) {x:Nat} (hx:(xnat (θ.ext 2)).toNat=x) (a b c d:Option Bool):(pickTm 2 a b c d).map (byV θ)=pkT x (dV x 4 a) (dV x 5 b) (dV x 6 c) (dV x 7 d):=by
 have e:∀ k,byV θ (.xi 2 22 k 0)=UInt8.ofNat (48 + x / 2 ^ k % 2):=fun k=>dT_byte θ 2 k hx none
 unfold pickTm pkT
 simp only [List.map_cons,List.map_nil,e,dT_byte θ 2 _ hx]
theorem tT_map {θ:Th} {x:Nat} (hx:(xnat (θ.ext 2)).toNat=x) (h l:AV) (p:Nat) (a b c d:Option Bool):(tT h l p a b c d).map (byV θ) =
  uT0.map UInt8.ofNat ++ (UInt8.ofNat (48 + p) :: (uT1.map UInt8.ofNat ++ ((List.replicate 16 [byV θ h,byV θ l]).flatten ++ (uT2.map UInt8.ofNat ++ (pkT x (dV x 4 a) (dV x 5 b) (dV x 6 c) (dV x 7 d) ++ uT3.map UInt8.ofNat))))):=by
 unfold tT
 rw [List.map_append,List.map_cons,List.map_append,List.map_append,List.map_append,List.map_append,csT_map,csT_map,csT_map,csT_map,hxT_map,pkT_map θ hx]
 rfl
theorem pk_ok (a b c d:Option Bool):∀ v ∈ pickTm 2 a b c d,byOk v:=by
 have hd:∀ k c,byOk (dTo 2 k c):=fun k c=>match c with
  | some true=>.inl ⟨49,rfl,by decide⟩
  | some false=>.inl ⟨48,rfl,by decide⟩
  | none=>.inr (.inr ⟨2,k,0,rfl⟩)
 intro v hv
 simp only [pickTm,List.mem_cons,List.not_mem_nil,or_false] at hv
 rcases hv with rfl | rfl | rfl | rfl | rfl | rfl | rfl | rfl | rfl | rfl | rfl | rfl<;>first | exact hd _ _ | exact hd _ none
theorem tT_ok {h l:AV} (hh:byOk h) (hl:byOk l) {p:Nat} (hp:p < 100) (a b c d:Option Bool):∀ v ∈ tT h l p a b c d,byOk v:=by
 intro v hv
 unfold tT at hv
 rcases List.mem_append.1 hv with hv | hv
 ·exact csT_ok (by decide) v hv
 rcases List.mem_cons.1 hv with rfl | hv
 ·exact .inl ⟨48 + p,rfl,by omega⟩
 rcases List.mem_append.1 hv with hv | hv
 ·exact csT_ok (by decide) v hv
 rcases List.mem_append.1 hv with hv | hv
 ·rcases hxT_mem v hv with rfl | rfl
  ·exact hh
  ·exact hl
 rcases List.mem_append.1 hv with hv | hv
 ·exact csT_ok (by decide) v hv
 rcases List.mem_append.1 hv with hv | hv
 ·exact pk_ok _ _ _ _ v hv
 ·exact csT_ok (by decide) v hv
def FitD (a:Bool) (o:Option Bool):Prop:=∀ z,o=some z→z=a
theorem fit_n (a:Bool):FitD a none:=fun _ h=>by cases h
theorem fit_s (a:Bool):FitD a (some a):=fun _ h=>(Option.some.inj h).symm
theorem dV_fit {x k:Nat} {o:Option Bool} (h:FitD (x / 2 ^ k % 2 == 1) o):dV x k o=dV x k none:=by
 cases o with
 | none=>rfl
 | some z=>
  obtain rfl:=h z rfl
  show (if (x / 2 ^ k % 2 == 1)=true then 1 else 0)=x / 2 ^ k % 2
  rcases Nat.mod_two_eq_zero_or_one (x / 2 ^ k) with e | e<;>rw [e]<;>rfl
theorem turn_ok {P:Program} {f p:Nat} (hp:p < 100) {HA LA HB LB:AV} {o:List Nat} (oh:byOk HA) (ol:byOk LA)
  (dig:∀ j,j < 4096→∃ j',j' < 4096∧∀ θ θ':Th,θ.lane=j→θ'.lane=j'→byV θ' HA=byV θ HB∧byV θ' LA=byV θ LB)
  (sel:∀ a b c d:Bool,∃ oa ob oc od,FitD a oa∧FitD b ob∧FitD c oc∧FitD d od∧Told P f (tT HA LA p oa ob oc od) o):SpOk P f (sT HB LB p o):=by
 refine sp_turn fun θ hv=>?_
 generalize hx:(xnat (θ.ext 2)).toNat=x
 obtain ⟨oa,ob,oc,od,f1,f2,f3,f4,ht⟩:=sel (x / 2 ^ 4 % 2 == 1) (x / 2 ^ 5 % 2 == 1) (x / 2 ^ 6 % 2 == 1) (x / 2 ^ 7 % 2 == 1)
 obtain ⟨j',hj,hd⟩:=dig θ.lane θ.lane_lt
 have hX:∀ n,(if n=65535 then Value.int .u8 (j':Int) else θ.ext n).oneCell' = true:=fun n=>by
  split
  ·rfl
  ·exact θ.ext1 n
 refine ⟨_,_,hX,ht,⟨tT_ok oh ol hp oa ob oc od,trivial⟩,?_⟩
 have hlane:(θ0 _ hX).lane=j':=by
  show (xnat (if 65535=65535 then Value.int .u8 (j':Int) else θ.ext 65535)).toNat % 4096=j'
  rw [if_pos rfl]
  exact Nat.mod_eq_of_lt hj
 have hx':(xnat ((θ0 _ hX).ext 2)).toNat=x:=hx
 obtain ⟨d1,d2⟩:=hd θ _ rfl hlane
 have htx:txV (θ0 _ hX) (tT HA LA p oa ob oc od)=txV θ (tT HB LB p none none none none):=by
  unfold txV
  rw [tT_map hx',tT_map hx,d1,d2,dV_fit f1,dV_fit f2,dV_fit f3,dV_fit f4]
 simp only [toVs,toV,htx]
theorem hexD_lt {n:Nat} (h:n < 16):hexD n < 256:=by
 unfold hexD
 split<;>omega
theorem hexD_lt' (n:Nat):hexD (n % 16) < 2 ^ 128:=Nat.lt_of_lt_of_le (hexD_lt (Nat.mod_lt _ (by decide))) (by decide)
theorem bs_lt {s m:Nat} (hm:0 < m) (hs:s + m≤256) (j:Nat):s + j % m < 256:=by
 have:=Nat.mod_lt j hm
 omega
theorem ln_hi {s m j:Nat} (hm:0 < m) (hs:s + m≤256) (hj:j < 4096):ln j (lanB (fun j=>hexD ((s + j % m) / 16)) 12 0)=hexD ((s + j % m) / 16):=by
 have h:∀ n,hexD ((s + n % m) / 16) < 2 ^ 128:=fun n=>by
  have:=bs_lt hm hs n
  exact Nat.lt_of_lt_of_le (hexD_lt (by omega)) (by decide)
 rw [ln_lanB h 12 0 j hj,Nat.zero_add]
theorem ln_lo {s m j:Nat} (hj:j < 4096):ln j (lanB (fun j=>hexD ((s + j % m) % 16)) 12 0)=hexD ((s + j % m) % 16):=by
 rw [ln_lanB (fun n=>hexD_lt' _) 12 0 j hj,Nat.zero_add]
theorem hi_ok {s m:Nat} (hm:0 < m) (hs:s + m≤256):byOk (hiB s m):=.inr (.inl ⟨_,rfl,fun j hj=>by
 rw [ln_hi hm hs hj]
 have:=bs_lt hm hs j
 exact hexD_lt (by omega)⟩)
theorem lo_ok' {s m:Nat}:byOk (loB s m):=.inr (.inl ⟨_,rfl,fun j hj=>by
 rw [ln_lo hj]
 exact hexD_lt (Nat.mod_lt _ (by decide))⟩)
theorem dig_b {s m:Nat} (h1:1≤s) (hm:0 < m) (hs:s + m≤256):∀ j,j < 4096→∃ j',j' < 4096∧∀ θ θ':Th,θ.lane=j→θ'.lane=j'→byV θ' (hiB 1 255)=byV θ (hiB s m)∧byV θ' (loB 1 255)=byV θ (loB s m):=by
 intro j hj
 have hb:=bs_lt hm hs j
 refine ⟨s + j % m - 1,by omega,fun θ θ' h h'=>?_⟩
 have e:1 + (s + j % m - 1) % 255=s + j % m:=by
  rw [Nat.mod_eq_of_lt (by omega)]
  omega
 constructor
 ·show UInt8.ofNat (ln θ'.lane _)=UInt8.ofNat (ln θ.lane _)
  rw [h,h',ln_hi hm hs hj,ln_hi (by decide) (by decide) (by omega),e]
 ·show UInt8.ofNat (ln θ'.lane _)=UInt8.ofNat (ln θ.lane _)
  rw [h,h',ln_lo hj,ln_lo (by omega),e]
theorem dig_z:∀ j,j < 4096→∃ j',j' < 4096∧∀ θ θ':Th,θ.lane=j→θ'.lane=j'→byV θ' dg0=byV θ dg0∧byV θ' dg0=byV θ dg0:=fun j hj=>⟨j,hj,fun _ _ _ _=>⟨rfl,rfl⟩⟩
theorem dg0_ok:byOk dg0:=.inl ⟨48,rfl,by decide⟩
theorem laB_at {s m j b:Nat} (hm:0 < m) (hs:s + m≤256) (hj:ln j (laB s m)=b):∀ θ:Th,θ.lane=j→Ok θ (.l 4 (laB s m))∧toV θ (.l 4 (laB s m)) = .int .u8 (b:Int):=by
 intro θ h
 refine ⟨lane_ok fun i hi=>by rw [ln_laB hs hm hi];exact bs_lt hm hs i,?_⟩
 show lV 4 (ln θ.lane _)=_
 rw [h,hj]
 rfl
theorem laD_at {s m t j c:Nat} (hj:ln j (laD s m t)=c):∀ θ:Th,θ.lane=j→Ok θ (.l 4 (laD s m t))∧toV θ (.l 4 (laD s m t)) = .int .u8 (c:Int):=by
 intro θ h
 refine ⟨lane_ok fun i hi=>by rw [ln_laD hi];exact cOf_lt,?_⟩
 show lV 4 (ln θ.lane _)=_
 rw [h,hj]
 rfl
theorem nul_at (θ:Th):Ok θ (.i 4 (.ofNat 0))∧toV θ (.i 4 (.ofNat 0)) = .int .u8 ((0:Nat):Int):=⟨trivial,rfl⟩
end Go.AM

namespace Go.AM
open Go
set_option maxHeartbeats 0
set_option maxRecDepth 1000000
theorem sfawake:goF sfT6 2000000 8 [] (fun v _ _=>match v with | .b c=>c | _=>false)=true:=by kernel_rfl
end Go.AM
