/- A part of the proof of this: the law CarryApplies. Conditions: none. Joined of M20CF, M20CT, M20CO0, M20CO, M20AR, DenA, DenB, DenC. -/
import Derived.Test.YtllgedaeidbenaaGreatC3
import Derived.Test.YtllgedaeidbenaaGreatProg
import GoSem.Claim
import GoSem.ClaimData
import Derived.Orders
import Derived.WalkKit
import Derived.Maps.AppendAt
namespace Go.AM
open Go
noncomputable section
abbrev vM (s : DsF) (x : XF) (r : SegF) : SegF := sOp s (oMv x) r
def q0 : XF := xC (.i 3 (.ofNat 0))
def q1 : XF := xC (.i 3 (.ofNat 1))
def q2 : XF := xC (.i 3 (.ofNat 2))
def q16 : XF := xC (.i 3 (.ofNat 16))
def q8 : XF := xC (.i 3 (.ofNat 8))
def q65536 : XF := xC (.i 3 (.ofNat 65536))
def q4096 : XF := xC (.i 3 (.ofNat 4096))
def q4 : XF := xC (.i 3 (.ofNat 4))
def q1048576 : XF := xC (.i 3 (.ofNat 1048576))
def q15 : XF := xC (.i 3 (.ofNat 15))
def q6 : XF := xC (.i 3 (.ofNat 6))
def nc11:AFn:=.mk (.seq (.rg (.fin (sOp S2 (oMv (xC (.b false)))<|sNil))) (.seq (.rg (.call (sNil) gN S7 49 (xsC (xC .ns)<|xsC (xC (.s []))<|xsN)<| .fin (vM S6 G7<|sOp S8 (oExt G6 0)<|sOp S9 (oExt G6 1)<|vM S3 G8<|vM S4 G9<|sNil))) (.seq (.rg (.fin (sOp S5 (oMv (xC .np))<|sNil))) (.seq (.rg (.call (vM S10 G4<|sNil) gN S11 50 (xsC G10<|xsN)<| .call (sOp S12 (oEq false 3 G11 q15)<|vM S13 G12<|sOpG (gG G13 true) S14 (oMv G5)<|sOpG (gG G13 true) S15 (oMv G0)<|sNil) (gG G13 true) S16 51 (xsC G14<|xsC G15<|xsN)<| .call (sNil) (gG G13 true) S17 50 (xsC G16<|xsN)<| .call (sOpG (gG G13 true) S18 (oEq false 3 G17 q15)<|sOp S19 (oPick G13 G18 (xC (.b false)))<|vM S20 G19<|sNil) (gG G20 true) S21 46 xsN<| .fin (sOp S22 (oPick G20 G21 (xC (.b false)))<|vM S2 G22<|sNil))) (.ret))))) (r1 (.t 2))
def nc13:AFn:=.mk (.seq (.rg (.fin (sOp S2 (oMv (xC .np))<|vM S3 q0<|sNil))) (.seq (.seq (.rg (.fin (vM S4 G0<|sOp S5 (oLt 3 G4 q1)<|vM S6 G5<|sOpG (gG G6 false) S7 (oMv G0)<|sOpG (gG G6 false) S8 (oGt 3 G7 q1048576)<|sOp S9 (oPick G6 (xC (.b true)) G8)<|sNil))) (.cond G9 (.bad) (.skip))) (.seq (.rg (.fin (vM S10 G0<|sOp S11 (oMkm)<|sOp S12 (oBld [(.i 3 (.ofNat 0)),.nm,.ns,(.i 3 (.ofNat 0)),(.b false),(.i 3 (.ofNat 0))] (pPt 0 1 G10<|pPt 1 1 G11<|pNil))<|sOp S13 (oBx G12)<|vM S2 G13<|vM S3 q0<|sNil))) (.ret)))) (dRs [.t 2,.t 3])
def nc14:AFn:=.mk (.seq (.rg (.fin (vM S4 q0<|sNil))) (.seq (.seq (.rg (.call (vM S6 G0<|sNil) gN S7 54 (xsC G6<|xsN)<| .fin (vM S5 G7<|sNil))) (.seq (.rg (.fin (vM S8 G5<|sOp S9 (oEq true 3 G8 q0)<|sNil))) (.cond G9 (.bad) (.skip)))) (.seq (.blk 0 (.seq (.rg (.fin (vM S12 G1<|sOp S13 (oSQ false G12 (xC (.s [])))<|vM S14 G13<|sOpG (gG G14 false) S15 (oMv G1)<|sOpG (gG G14 false) S16 (oLens G15)<|sOpG (gG G14 false) S17 (oGt 3 G16 q16)<|sOp S18 (oPick G14 (xC (.b true)) G17)<|vM S11 G18<|sNil))) (.cond G11 (.bad) (.seq (.rg (.fin (vM S20 G0<|sOp S21 (oNc G20)<|sOp S22 (oFa G21 1)<|sOp S23 (oLd1 G22)<|vM S24 G1<|sOp S25 (oLkp false [8] G23 G24 false .np)<|sOp S26 (oEqn false 0 G25 (xC .np))<|vM S27 G26<|sOpG (gG G27 true) S28 (oMv G0)<|sOpG (gG G27 true) S29 (oNc G28)<|sOpG (gG G27 true) S30 (oFa G29 1)<|sOpG (gG G27 true) S31 (oLd1 G30)<|sOpG (gG G27 true) S32 (oLenm G31)<|sOpG (gG G27 true) S33 (oGe 3 G32 (xC (.i 3 (.ofNat 32))))<|sOp S34 (oPick G27 G33 (xC (.b false)))<|vM S19 G34<|sNil))) (.cond G19 (.bad) (.skip)))))) (.seq (.rg (.call (vM S35 G0<|vM S36 G1<|sNil) gN S37 55 (xsC G35<|xsC G36<|xsC q0<|xsN)<| .fin (sNil))) (.seq (.rg (.fin (vM S38 G0<|sOp S39 (oNc G38)<|sOp S40 (oFa G39 1)<|sOp S41 (oLd1 G40)<|vM S42 G1<|sOp S43 (oBld [.ns,.ns] pNil)<|sOp S44 (oBx G43)<|sOp dN (oMpu false [8] G41 G42 G44)<|sNil))) (.seq (.rg (.fin (vM S4 q0<|sNil))) (.ret))))))) (r1 (.t 4))
def nc15:AFn:=.mk (.seq (.rg (.fin (vM S8 q0<|sNil))) (.seq (.rg (.call (vM S15 G0<|vM S16 G1<|sNil) gN S17 56 (xsC G15<|xsC G16<|xsN)<| .fin (vM S14 G17<|sOp S18 (oExt G14 0)<|sOp S19 (oExt G14 1)<|vM S9 G18<|vM S10 G19<|sNil))) (.seq (.rg (.fin (vM S20 G3<|sOp S21 (oLenl G20)<|sOp S22 (oAr arQuo 3 G21 q16)<|vM S11 G22<|sNil))) (.seq (.blk 0 (.seq (.rg (.fin (vM S24 G10<|sOp S25 (oEq true 3 G24 q0)<|vM S23 G25<|sNil))) (.cond G23 (.bad) (.seq (.rg (.fin (vM S28 G3<|sOp S29 (oLenl G28)<|sOp S30 (oRem 3 G29 q16)<|sOp S31 (oEq true 3 G30 q0)<|vM S27 G31<|sNil))) (.cond G27 (.bad) (.seq (.rg (.fin (vM S33 G2<|sOp S34 (oLt 3 G33 q0)<|vM S32 G34<|sNil))) (.cond G32 (.bad) (.seq (.rg (.fin (vM S36 G11<|sOp S37 (oEq false 3 G36 q0)<|vM S35 G37<|sNil))) (.cond G35 (.bad) (.seq (.seq (.rg (.fin (vM S39 G2<|sOp S40 (oGt 3 G39 q65536)<|vM S38 G40<|sNil))) (.cond G38 (.skip) (.rg (.fin (vM S41 G11<|vM S42 G2<|sOp S43 (oAr arSub 3 q65536 G42)<|sOp S44 (oGt 3 G41 G43)<|vM S38 G44<|sNil))))) (.cond G38 (.bad) (.seq (.rg (.call (vM S46 G2<|vM S47 G11<|sOp S48 (oAr arAdd 3 G46 G47)<|vM S49 G9<|sOp S50 (oNc G49)<|sOp S51 (oFa G50 0)<|sOp S52 (oLd1 G51)<|sOp S53 (oLenl G52)<|sOp S54 (oAr arSub 3 G48 G53)<|sOp S55 (oMm true (xsC G54<|xsC q0<|xsN))<|vM S56 G0<|sOp S57 (oNc G56)<|sOp S58 (oFa G57 0)<|sOp S59 (oLd1 G58)<|vM S60 G0<|sNil) gN S61 57 (xsC G60<|xsN)<| .fin (sAg gN G52 (oLd1 G51)<|sAg gN G53 (oLenl G52)<|sAg gN G59 (oLd1 G58)<|sOp S62 (oAr arSub 3 G59 G61)<|sOp S63 (oGt 3 G55 G62)<|vM S45 G63<|sNil))) (.cond G45 (.bad) (.skip)))))))))))))) (.seq (.seq (.rg (.fin (vM S64 G11<|vM S65 q0<|sNil))) (.blk 1 (.loop (.seq (.rg (.fin (sOp S66 (oLt 3 G65 G64)<|sNil))) (.seq (.cond G66 (.skip) (.exit 1)) (.seq (.blk 2 (.seq (.rg (.fin (vM S67 G65<|vM S12 G67<|sNil))) (.seq (.rg (.call (vM S68 G0<|vM S69 G1<|vM S70 G9<|vM S71 G2<|vM S72 G12<|sOp S73 (oAr arAdd 3 G71 G72)<|vM S74 G3<|vM S75 G12<|sOp S76 (oAr arMul 3 G75 q16)<|sOp S77 (oSlc G74 (bX G76) bNo bNo true 1)<|sNil) gN S78 58 (xsC G68<|xsC G69<|xsC G70<|xsC G73<|xsC G77<|xsN)<| .fin (vM S13 G78<|sNil))) (.seq (.rg (.fin (vM S79 G13<|sOp S80 (oEq true 3 G79 q0)<|sNil))) (.cond G80 (.bad) (.skip)))))) (.rg (.fin (sOp S82 (oAr arAdd 3 G65 q1)<|vM S65 G82<|sNil))))))))) (.seq (.rg (.fin (vM S8 q0<|sNil))) (.ret))))))) (r1 (.t 8))
def nc26:AFn:=.mk (.seq (.rg (.fin (sOp S10 (oMv (xC .np))<|vM S11 q0<|sNil))) (.seq (.rg (.fin (vM S16 G2<|vM S17 G3<|vM S18 G4<|sOp S19 (oBld [(.i 3 (.ofNat 0)),(.i 3 (.ofNat 0)),(.s []),.ns,.ns,.ns,.ns] (pPt 0 1 G16<|pPt 1 1 G17<|pPt 2 1 G18<|pNil))<|sOp S12 (oAl [(.i 3 (.ofNat 0)),(.i 3 (.ofNat 0)),(.s []),.ns,.ns,.ns,.ns] 7)<|sOp dN (oSt G12 G19 7)<|sNil))) (.seq (.seq (.rg (.call (vM S20 G1<|sNil) gN S21 71 (xsC G20<|xsN)<| .call (sOp S22 (oNt G21)<|vM S23 G22<|sOpG (gG G23 false) S24 (oLd G12 7)<|sNil) (gG G23 false) S25 72 (xsC G24<|xsN)<| .fin (sOpG (gG G23 false) S26 (oNt G25)<|sOp S27 (oPick G23 (xC (.b true)) G26)<|sNil))) (.cond G27 (.bad) (.skip))) (.seq (.seq (.rg (.call (vM S28 G0<|vM S29 G1<|sNil) gN S30 14 (xsC G28<|xsC G29<|xsN)<| .fin (vM S13 G30<|sNil))) (.seq (.rg (.fin (vM S31 G13<|sOp S32 (oEq true 3 G31 q0)<|sNil))) (.cond G32 (.bad) (.skip)))) (.seq (.rg (.call (vM S34 G0<|vM S35 G1<|sOp S36 (oLd G12 7)<|sOp S37 (oBld [(.i 3 (.ofNat 0)),(.i 3 (.ofNat 0)),(.i 3 (.ofNat 0)),(.i 6 (.ofNat 0))] pNil)<|sNil) gN S38 73 (xsC G34<|xsC G35<|xsC G36<|xsC G37<|xsN)<| .fin (vM S14 G38<|sNil))) (.seq (.rg (.fin (vM S39 G14<|sOp S40 (oNc G39)<|sOp S41 (oFa G40 21)<|sOp dN (oSt G41 (xC (.b true)) 1)<|sNil))) (.seq (.seq (.rg (.call (vM S42 G14<|sNil) gN S43 30 (xsC G42<|xsN)<| .fin (vM S15 G43<|sNil))) (.seq (.rg (.fin (vM S44 G15<|sOp S45 (oEq true 3 G44 q0)<|sNil))) (.cond G45 (.bad) (.skip)))) (.seq (.rg (.fin (vM S50 G14<|vM S10 G50<|vM S11 q0<|sNil))) (.ret))))))))) (dRs [.t 10,.t 11])
def nc30:AFn:=.mk (.seq (.rg (.fin (vM S2 q0<|sNil))) (.seq (.seq (.rg (.call (vM S11 G0<|sNil) gN S12 77 (xsC G11<|xsN)<| .fin (vM S3 G12<|sNil))) (.seq (.rg (.fin (vM S13 G3<|sOp S14 (oEq true 3 G13 q0)<|sNil))) (.cond G14 (.bad) (.skip)))) (.seq (.seq (.rg (.fin (vM S16 G0<|sOp S17 (oNc G16)<|sOp S18 (oFa G17 21)<|sOp S19 (oLd1 G18)<|sOp S20 (oNt G19)<|sNil))) (.cond G20 (.bad) (.skip))) (.seq (.rg (.call (vM S21 G0<|sOp S22 (oNc G21)<|sOp S23 (oFa G22 9)<|sOp S24 (oLd G23 7)<|sNil) gN S25 78 (xsC G24<|xsC q65536<|xsN)<| .fin (vM S4 G25<|sNil))) (.seq (.seq (.rg (.fin (vM S26 G0<|sOp S27 (oNc G26)<|sOp S28 (oFa G27 16)<|sOp S29 (oLd1 G28)<|sOp S30 (oLenl G29)<|vM S31 q0<|sNil))) (.blk 0 (.loop (.seq (.rg (.fin (sOp S32 (oLt 3 G31 G30)<|sNil))) (.seq (.cond G32 (.skip) (.exit 0)) (.bad)))))) (.seq (.rg (.call (vM S53 G0<|sOp S54 (oNc G53)<|sOp S55 (oFa G54 0)<|sOp S56 (oLd1 G55)<|vM S57 G0<|sOp S58 (oNc G57)<|sOp S59 (oFa G58 1)<|sOp S60 (oLd1 G59)<|vM S61 G0<|sOp S62 (oNc G61)<|sOp S63 (oFa G62 2)<|sOp S64 (oLd G63 7)<|vM S65 G0<|sOp S66 (oNc G65)<|sOp S67 (oFa G66 17)<|sOp S68 (oLd G67 4)<|vM S69 G4<|sOp S9 (oAl [(.i 3 (.ofNat 0)),(.i 3 (.ofNat 0)),(.i 3 (.ofNat 0)),(.i 6 (.ofNat 0))] 4)<|sNil) gN S70 53 (xsC G56<|xsC G60<|xsC G64<|xsC G68<|xsC G69<|xsN)<| .fin (vM S52 G70<|sOp S71 (oExt G52 0)<|sOp S72 (oExt G52 1)<|sOp dN (oSt G9 G71 4)<|vM S10 G72<|sNil))) (.seq (.seq (.rg (.fin (vM S73 G10<|sOp S74 (oEq true 3 G73 q0)<|sNil))) (.cond G74 (.bad) (.skip))) (.seq (.rg (.call (vM S76 G0<|vM S77 G0<|vM S78 G0<|vM S79 G0<|sOp S80 (oNc G79)<|sOp S81 (oFa G80 2)<|sOp S82 (oLd G81 7)<|sOp S84 (oLd G9 4)<|sNil) gN S83 79 (xsC G82<|xsN)<| .fin (sAg gN G84 (oLd G9 4)<|sOp S85 (oNc G76)<|sOp S86 (oFa G85 9)<|sOp dN (oSt G86 G83 7)<|sAg gN G84 (oLd G9 4)<|sOp S87 (oNc G77)<|sOp S88 (oFa G87 17)<|sOp dN (oSt G88 G84 4)<|sOp S89 (oNc G78)<|sOp S90 (oFa G89 21)<|sOp dN (oSt G90 (xC (.b false)) 1)<|sNil))) (.seq (.rg (.fin (vM S2 q0<|sNil))) (.ret)))))))))) (r1 (.t 2))
def nc31:AFn:=.mk (.seq (.rg (.fin (vM S4 q0<|vM S5 q0<|sNil))) (.seq (.seq (.rg (.fin (vM S7 G0<|sOp S8 (oEqn false 0 G7 (xC .np))<|sNil))) (.cond G8 (.bad) (.skip))) (.seq (.rg (.fin (vM S9 G0<|sOp S10 (oNc G9)<|sOp S11 (oFa G10 1)<|sOp S12 (oLd1 G11)<|vM S13 G1<|sOp S14 (oLkp false [8] G12 G13 false .np)<|vM S6 G14<|sNil))) (.seq (.seq (.rg (.fin (vM S15 G6<|sOp S16 (oEqn false 0 G15 (xC .np))<|sNil))) (.cond G16 (.bad) (.skip))) (.seq (.rg (.fin (vM S17 G6<|sOp S18 (oNc G17)<|sOp S19 (oFa G18 0)<|sOp S20 (oLd1 G19)<|sOp S21 (oLenl G20)<|vM S4 G21<|vM S5 q0<|sNil))) (.ret)))))) (dRs [.t 4,.t 5])
def nc33:AFn:=.mk (.seq (.rg (.fin (sOp S6 (oMv (xC .ns))<|vM S7 q0<|vM S8 q0<|sNil))) (.seq (.seq (.rg (.call (vM S16 G0<|sNil) gN S17 77 (xsC G16<|xsN)<| .fin (vM S9 G17<|sNil))) (.seq (.rg (.fin (vM S18 G9<|sOp S19 (oEq true 3 G18 q0)<|sNil))) (.cond G19 (.bad) (.skip)))) (.seq (.rg (.call (vM S22 G0<|vM S23 G1<|sNil) gN S24 80 (xsC G22<|xsC G23<|xsN)<| .fin (vM S21 G24<|sOp S25 (oExt G21 0)<|sOp S26 (oExt G21 1)<|sOp S27 (oExt G21 2)<|sOp S10 (oAl [.ns] 1)<|sOp dN (oSt G10 G25 1)<|vM S11 G26<|vM S12 G27<|sNil))) (.seq (.blk 0 (.seq (.rg (.fin (vM S29 G12<|sOp S30 (oNt G29)<|vM S28 G30<|sNil))) (.cond G28 (.bad) (.seq (.seq (.rg (.fin (vM S32 G2<|sOp S33 (oLt 3 G32 q0)<|vM S31 G33<|sNil))) (.cond G31 (.skip) (.rg (.fin (vM S34 G2<|vM S35 G11<|sOp S36 (oGe 3 G34 G35)<|vM S31 G36<|sNil))))) (.cond G31 (.bad) (.skip)))))) (.seq (.rg (.call (sOp S37 (oLd G10 1)<|vM S38 G2<|sNil) gN S39 81 (xsC G37<|xsC G38<|xsN)<| .fin (sOp S13 (oAl [(.i 3 (.ofNat 0)),(.i 3 (.ofNat 0)),(.i 3 (.ofNat 0)),(.i 3 (.ofNat 0)),(.i 6 (.ofNat 0))] 5)<|sOp dN (oSt G13 G39 5)<|sNil))) (.seq (.rg (.call (vM S41 G0<|sOp S42 (oLd G13 5)<|sNil) gN S43 82 (xsC G41<|xsC G42<|xsN)<| .fin (vM S40 G43<|sOp S44 (oExt G40 0)<|sOp S45 (oExt G40 1)<|vM S14 G44<|vM S15 G45<|sNil))) (.seq (.seq (.rg (.fin (vM S46 G15<|sNil))) (.blk 1 (.seq (.rg (.fin (sOp S48 (oEq false 3 G46 q0)<|vM S47 G48<|sNil))) (.cond G47 (.seq (.rg (.fin (vM S49 G14<|sOp S50 (oFa G13 0)<|sOp S51 (oLd1 G50)<|vM S6 G49<|vM S7 G51<|vM S8 q0<|sNil))) (.ret)) (.bad))))) (.bad)))))))) (dRs [.t 6,.t 7,.t 8])
def nc34:AFn:=.mk (.seq (.rg (.fin (sOp S2 (oAl [(.i 3 (.ofNat 0)),(.i 3 (.ofNat 0)),(.s []),.ns,.ns,.ns,.ns] 7)<|sNil))) (.seq (.seq (.rg (.fin (vM S6 G0<|sOp S7 (oEqn false 0 G6 (xC .np))<|sNil))) (.cond G7 (.bad) (.skip))) (.seq (.rg (.call (vM S10 G0<|sOp S11 (oNc G10)<|sOp S12 (oFa G11 0)<|sOp S13 (oLd1 G12)<|vM S14 G0<|sOp S15 (oNc G14)<|sOp S16 (oFa G15 1)<|sOp S17 (oLd1 G16)<|sNil) gN S18 31 (xsC G13<|xsC G17<|xsN)<| .fin (vM S9 G18<|sOp S19 (oExt G9 0)<|sOp S20 (oExt G9 1)<|vM S3 G19<|vM S4 G20<|sNil))) (.seq (.rg (.call (vM S21 G0<|sOp S22 (oNc G21)<|sOp S23 (oFa G22 2)<|sOp S24 (oLd G23 7)<|sNil) gN S25 79 (xsC G24<|xsN)<| .fin (sOp S5 (oAl [(.i 3 (.ofNat 0)),(.i 3 (.ofNat 0)),(.s []),.ns,.ns,.ns,.ns] 7)<|sOp dN (oSt G5 G25 7)<|sNil))) (.seq (.rg (.call (sOp S26 (oLd G5 7)<|vM S27 G3<|sNil) gN S28 78 (xsC G26<|xsC G27<|xsN)<| .fin (sOp S29 (oFa G5 6)<|sOp dN (oSt G29 G28 1)<|sNil))) (.seq (.rg (.fin (sOp S30 (oLd G5 7)<|sOp dN (oSt G2 G30 7)<|sNil))) (.ret))))))) (r1 (.c 2 7))
def nc38:AFn:=.mk (.seq (.rg (.fin (sOp S8 (oMv (xC .ns))<|vM S9 q0<|sNil))) (.seq (.rg (.call (vM S16 G0<|vM S17 G1<|sNil) gN S18 56 (xsC G16<|xsC G17<|xsN)<| .fin (vM S15 G18<|sOp S19 (oExt G15 0)<|sOp S20 (oExt G15 1)<|vM S10 G19<|vM S11 G20<|sNil))) (.seq (.blk 0 (.seq (.rg (.fin (vM S22 G11<|sOp S23 (oEq true 3 G22 q0)<|vM S21 G23<|sNil))) (.cond G21 (.bad) (.seq (.seq (.rg (.fin (vM S26 G2<|sOp S27 (oLt 3 G26 q0)<|vM S25 G27<|sNil))) (.cond G25 (.skip) (.seq (.rg (.fin (vM S28 G3<|sOp S29 (oLt 3 G28 q0)<|vM S25 G29<|sNil))) (.cond G25 (.skip) (.seq (.rg (.fin (vM S30 G2<|vM S31 G10<|sOp S32 (oNc G31)<|sOp S33 (oFa G32 0)<|sOp S34 (oLd1 G33)<|sOp S35 (oLenl G34)<|sOp S36 (oGt 3 G30 G35)<|vM S25 G36<|sNil))) (.cond G25 (.skip) (.rg (.fin (vM S37 G3<|vM S38 G10<|sOp S39 (oNc G38)<|sOp S40 (oFa G39 0)<|sOp S41 (oLd1 G40)<|sOp S42 (oLenl G41)<|vM S43 G2<|sOp S44 (oAr arSub 3 G42 G43)<|sOp S45 (oGt 3 G37 G44)<|vM S25 G45<|sNil))))))))) (.cond G25 (.bad) (.skip)))))) (.seq (.rg (.fin (sOp S12 (oMv (xC .ns))<|sNil))) (.seq (.seq (.rg (.fin (vM S46 G10<|sOp S47 (oNc G46)<|sOp S48 (oFa G47 0)<|sOp S49 (oLd1 G48)<|vM S50 G2<|vM S51 G2<|vM S52 G3<|sOp S53 (oAr arAdd 3 G51 G52)<|sOp S54 (oSlc G49 (bX G50) (bX G53) bNo true 16)<|sOp S55 (oLenl G54)<|vM S56 q0<|sNil))) (.blk 1 (.loop (.seq (.rg (.fin (sOp S57 (oLt 3 G56 G55)<|sNil))) (.seq (.cond G57 (.skip) (.exit 1)) (.bad)))))) (.seq (.rg (.fin (vM S64 G12<|vM S8 G64<|vM S9 q0<|sNil))) (.ret))))))) (dRs [.t 8,.t 9])
def nc43:AFn:=.mk (.seq (.rg (.fin (vM S2 q0<|sNil))) (.seq (.rg (.fin (vM S3 G0<|vM S2 G3<|sNil))) (.ret))) (r1 (.t 2))
def nc45:AFn:=.mk (.seq (.rg (.fin (vM S4 q0<|sNil))) (.seq (.rg (.call (vM S12 G0<|vM S13 G1<|sNil) gN S14 94 (xsC G12<|xsC G13<|xsN)<| .fin (vM S11 G14<|sOp S15 (oExt G11 0)<|sOp S16 (oExt G11 1)<|vM S5 G15<|vM S6 G16<|sNil))) (.seq (.seq (.rg (.fin (vM S17 G6<|sOp S18 (oNt G17)<|sNil))) (.cond G18 (.bad) (.skip))) (.seq (.rg (.fin (vM S19 G1<|sOp S20 (oBsl [(.s [])] 1 1 (pPt 0 1 G19<|pNil))<|vM S7 G20<|sNil))) (.blk 0 (.loop (.blk 1 (.seq (.rg (.call (vM S22 G0<|vM S23 G7<|vM S24 G7<|sOp S25 (oLenl G24)<|sOp S26 (oAr arSub 3 G25 q1)<|sOp S27 (oIas G23 G26 1)<|sOp S28 (oLd1 G27)<|sNil) gN S29 94 (xsC G22<|xsC G28<|xsN)<| .fin (vM S21 G29<|sOp S30 (oExt G21 0)<|sOp S31 (oExt G21 1)<|vM S8 G30<|vM S9 G31<|sNil))) (.seq (.seq (.rg (.fin (vM S32 G8<|sOp S33 (oSQ false G32 (xC (.s [])))<|sNil))) (.cond G33 (.seq (.rg (.fin (vM S4 q0<|sNil))) (.ret)) (.skip))) (.bad)))))))))) (r1 (.t 4))
def nc46:AFn:=.mk (.seq (.rg (.fin (sOp S0 (oMv (xC (.b false)))<|sNil))) (.seq (.rg (.call (sOp S6 (oBld [(.i 4 (.ofNat 0)),(.i 4 (.ofNat 0)),.ns] (pPt 1 1 (xC (.i 4 (.ofNat 8)))<|pNil))<|sOp S7 (oBsl [(.i 4 (.ofNat 0)),(.i 4 (.ofNat 0)),.ns] 3 1 (pPt 0 3 G6<|pNil))<|sNil) gN S8 92 (xsC G7<|xsN)<| .fin (vM S1 G8<|sNil))) (.seq (.seq (.rg (.fin (vM S9 G1<|sOp S10 (oEqn false 0 G9 (xC .np))<|sNil))) (.cond G10 (.bad) (.skip))) (.seq (.rg (.call (vM S12 G1<|sOp S13 (oNc G12)<|sOp S14 (oFa G13 1)<|sOp S15 (oLd1 G14)<|sNil) gN S16 49 (xsC G15<|xsC (xC (.s []))<|xsN)<| .fin (vM S11 G16<|sOp S17 (oExt G11 0)<|sOp S18 (oExt G11 1)<|vM S2 G17<|vM S3 G18<|sNil))) (.seq (.rg (.call (vM S20 G2<|sNil) gN S21 95 (xsC G20<|xsN)<| .fin (vM S19 G21<|sOp S22 (oExt G19 0)<|sOp S23 (oExt G19 1)<|sOp S4 (oAl [(.b false),(.i 3 (.ofNat 0)),.ns] 3)<|sOp dN (oSt G4 G22 3)<|vM S5 G23<|sNil))) (.seq (.rg (.call (vM S24 G3<|sNil) gN S25 50 (xsC G24<|xsN)<| .fin (sOp S26 (oEq false 3 G25 q0)<|vM S27 G26<|sOpG (gG G27 true) S28 (oMv G5)<|sOpG (gG G27 true) S29 (oEq false 3 G28 q0)<|sOp S30 (oPick G27 G29 (xC (.b false)))<|vM S31 G30<|sOpG (gG G31 true) S32 (oFa G4 0)<|sOpG (gG G31 true) S33 (oLd1 G32)<|sOp S34 (oPick G31 G33 (xC (.b false)))<|vM S35 G34<|sOpG (gG G35 true) S36 (oFa G4 1)<|sOpG (gG G35 true) S37 (oLd1 G36)<|sOpG (gG G35 true) S38 (oEq false 3 G37 q8)<|sOp S39 (oPick G35 G38 (xC (.b false)))<|vM S40 G39<|sOpG (gG G40 true) S41 (oFa G4 2)<|sOpG (gG G40 true) S42 (oLd1 G41)<|sOpG (gG G40 true) S43 (oLenl G42)<|sOpG (gG G40 true) S44 (oEq false 3 G43 q0)<|sOp S45 (oPick G40 G44 (xC (.b false)))<|vM S0 G45<|sNil))) (.ret))))))) (r1 (.t 0))
def nc49:AFn:=.mk (.seq (.rg (.fin (sOp S2 (oBx G0)<|sOp S4 (oAl [.ns] 1)<|sOp S5 (oAl [(.i 3 (.ofNat 0))] 1)<|sNil))) (.seq (.seq (.rg (.fin (sOp S16 (oLd1 G2)<|sOp S17 (oLenl G16)<|sOp S18 (oEq false 3 G17 q0)<|sNil))) (.cond G18 (.seq (.rg (.fin (sOp dN (oSt G4 (xC .ns) 1)<|sOp dN (oSt G5 q15 1)<|sNil))) (.ret)) (.skip))) (.seq (.rg (.call (sOp S20 (oLd1 G2)<|sOp S21 (oIas G20 q0 1)<|sOp S22 (oLd1 G21)<|sNil) gN S23 99 (xsC G22<|xsC (xC (.s []))<|xsN)<| .fin (vM S19 G23<|sOp S24 (oExt G19 0)<|sOp S25 (oExt G19 1)<|sOp S26 (oExt G19 2)<|sOp S7 (oAl [(.i 3 (.ofNat 0))] 1)<|vM S6 G24<|sOp dN (oSt G7 G25 1)<|vM S8 G26<|sNil))) (.seq (.seq (.rg (.fin (vM S27 G8<|sOp S28 (oNt G27)<|sNil))) (.cond G28 (.bad) (.skip))) (.seq (.rg (.fin (vM S29 G1<|sOp S30 (oSQ false G29 (xC (.s [])))<|sOp S9 (oAl [(.b false)] 1)<|sOp dN (oSt G9 G30 1)<|sNil))) (.seq (.rg (.call (sOp S32 (oLd1 G2)<|sOp S33 (oIas G32 q0 1)<|sOp S34 (oLd1 G33)<|vM S35 G1<|sNil) gN S36 100 (xsC G34<|xsC G35<|xsN)<| .fin (vM S31 G36<|sOp S37 (oExt G31 0)<|sOp S38 (oExt G31 1)<|sOp S10 (oAl [(.s []),(.b false),.ns] 3)<|sOp dN (oSt G10 G37 3)<|vM S11 G38<|sNil))) (.seq (.seq (.rg (.fin (sOp S39 (oLd1 G9)<|sOp S40 (oNt G39)<|vM S41 G40<|sOpG (gG G41 true) S42 (oMv G11)<|sOpG (gG G41 true) S43 (oNt G42)<|sOp S44 (oPick G41 G43 (xC (.b false)))<|sNil))) (.cond G44 (.bad) (.skip))) (.seq (.rg (.fin (sOp S45 (oLd1 G9)<|vM S46 G6<|sOp S47 (oBld [(.b false),(.i 3 (.ofNat 0)),.ns] (pPt 0 1 G45<|pPt 1 1 G46<|pNil))<|sOp S12 (oAl [(.b false),(.i 3 (.ofNat 0)),.ns] 3)<|sOp dN (oSt G12 G47 3)<|sNil))) (.seq (.seq (.rg (.call (vM S48 G6<|sOp S49 (oLd1 G7)<|sOp S50 (oShr 3 G48 G49)<|sOp S51 (oMkf 102 (xsC G9<|xsC G10<|xsN))<|sNil) gN S52 101 (xsC G50<|xsC G51<|xsN)<| .fin (sNil))) (.blk 0 (.rf G52 784))) (.seq (.rg (.call (sOp S80 (oLd G12 3)<|sNil) gN S81 106 (xsC G80<|xsN)<| .fin (sOp S82 (oExt G81 0)<|sOp S83 (oExt G81 1)<|sOp dN (oSt G4 G82 1)<|sOp dN (oSt G5 G83 1)<|sNil))) (.ret))))))))))) (dRs [.c1 4,.c1 5])
def ncl784 : ALp := .mk (asC 53<|asN0) (.rg (.fin (vM S13 G53<|sNil))) (.blk 1 (.seq (.rg (.call (sOp S55 (oLd1 G2)<|vM S56 G13<|sNil) gN S57 104 (xsC G55<|xsC (xC (.s []))<|xsC G56<|xsN)<| .fin (vM S54 G57<|sOp S58 (oExt G54 0)<|sOp S59 (oExt G54 1)<|vM S14 G58<|vM S15 G59<|sNil))) (.seq (.seq (.rg (.fin (vM S60 G15<|sOp S61 (oEq true 3 G60 q0)<|sNil))) (.cond G61 (.seq (.rg (.fin (vM S62 G15<|sOp dN (oSt G4 (xC .ns) 1)<|sOp dN (oSt G5 G62 1)<|sNil))) (.ret)) (.skip))) (.seq (.rg (.call (sOp S63 (oLd1 G9)<|sOp S64 (oNt G63)<|vM S65 G64<|sOpG (gG G65 false) S66 (oMv G14)<|sNil) (gG G65 false) S67 105 (xsC G66<|xsN)<| .fin (sOpG (gG G65 false) S68 (oNt G67)<|sOp S69 (oPick G65 (xC (.b true)) G68)<|sNil))) (.cond G69 (.rg (.fin (sOp S70 (oFa G12 2)<|sOp S71 (oLd1 G70)<|vM S72 G13<|sOp S73 (oLd1 G7)<|sOp S74 (oShl 3 G72 G73)<|vM S75 G14<|sOp S76 (oBld [(.i 3 (.ofNat 0)),.ns] (pPt 0 1 G74<|pPt 1 1 G75<|pNil))<|sOp S77 (oBsl [(.i 3 (.ofNat 0)),.ns] 2 1 (pPt 0 2 G76<|pNil))<|sOp S78 (oApn G71 G77 2 32)<|sOp S79 (oFa G12 2)<|sOp dN (oSt G79 G78 1)<|sNil))) (.skip))))))
def nc50:AFn:=.mk (.seq (.rg (.fin (vM S2 q0<|sNil))) (.seq (.rg (.fin (vM S3 G0<|vM S2 G3<|sNil))) (.ret))) (r1 (.t 2))
def nc51:AFn:=.mk (.seq (.rg (.fin (sOp S4 (oAl [(.i 3 (.ofNat 0))] 1)<|sNil))) (.seq (.seq (.rg (.fin (vM S18 G0<|sOp S19 (oEqn false 0 G18 (xC .np))<|sNil))) (.cond G19 (.seq (.rg (.fin (sOp dN (oSt G4 q15 1)<|sNil))) (.ret)) (.skip))) (.bad))) (r1 (.c1 4))
def nc53p : C := .seq (.rg (.fin (sOp S5 (oBx G0)<|sOp S6 (oBx G1)<|sOp S7 (oBx G2)<|sOp S8 (oBx G3)<|sOp S10 (oAl [(.i 3 (.ofNat 0)),(.i 3 (.ofNat 0)),(.i 3 (.ofNat 0)),(.i 6 (.ofNat 0))] 4)<|vM S11 q0<|sNil))) (.seq (.seq (.rg (.call (sOp S36 (oLd1 G5)<|sOp S37 (oLd1 G6)<|sNil) gN S38 38 (xsC G36<|xsC G37<|xsC q0<|xsC q0<|xsN)<| .fin (vM S35 G38<|sOp S39 (oExt G35 0)<|sOp S40 (oExt G35 1)<|vM S12 G39<|vM S13 G40<|sNil))) (.seq (.rg (.fin (vM S41 G13<|sOp S42 (oEq false 3 G41 q8)<|sNil))) (.cond G42 (.seq (.rg (.fin (sOp S43 (oBld [(.i 3 (.ofNat 0)),(.i 3 (.ofNat 0)),(.i 3 (.ofNat 0)),(.i 6 (.ofNat 0))] pNil)<|vM S44 G13<|sOp dN (oSt G10 G43 4)<|vM S11 G44<|sNil))) (.ret)) (.skip)))) (.seq (.rg (.fin (sOp S45 (oFa G7 6)<|sOp dN (oSt G45 (xC .ns) 1)<|sNil))) (.seq (.seq (.rg (.call (sOp S46 (oLd G7 7)<|sNil) gN S47 72 (xsC G46<|xsN)<| .fin (sOp S48 (oNt G47)<|sNil))) (.cond G48 (.seq (.rg (.fin (sOp S49 (oBld [(.i 3 (.ofNat 0)),(.i 3 (.ofNat 0)),(.i 3 (.ofNat 0)),(.i 6 (.ofNat 0))] pNil)<|sOp dN (oSt G10 G49 4)<|vM S11 q1<|sNil))) (.ret)) (.skip))) (.seq (.rg (.call (sOp S51 (oLd1 G5)<|sOp S52 (oLd1 G6)<|sNil) gN S53 31 (xsC G51<|xsC G52<|xsN)<| .fin (vM S50 G53<|sOp S54 (oExt G50 0)<|sOp S55 (oExt G50 1)<|vM S14 G54<|vM S15 G55<|sNil))) (.seq (.seq (.rg (.fin (vM S56 G15<|sOp S57 (oEq true 3 G56 q0)<|sNil))) (.cond G57 (.seq (.rg (.fin (sOp S58 (oBld [(.i 3 (.ofNat 0)),(.i 3 (.ofNat 0)),(.i 3 (.ofNat 0)),(.i 6 (.ofNat 0))] pNil)<|vM S59 G15<|sOp dN (oSt G10 G58 4)<|vM S11 G59<|sNil))) (.ret)) (.skip))) (.seq (.rg (.fin (sOp S60 (oFa G8 0)<|sOp S61 (oLd1 G60)<|vM S16 G61<|sNil))) (.seq (.seq (.rg (.call (sOp S63 (oLd1 G5)<|sOp S64 (oLd1 G6)<|sNil) gN S65 118 (xsC G63<|xsC G64<|xsN)<| .fin (vM S62 G65<|sOp S66 (oExt G62 0)<|sOp S67 (oExt G62 1)<|vM S17 G66<|vM S18 G67<|sNil))) (.seq (.rg (.fin (vM S68 G18<|sOp S69 (oEq false 3 G68 q0)<|sNil))) (.cond G69 (.seq (.rg (.fin (vM S70 G17<|sOp S71 (oLenl G70)<|vM S72 q0<|sNil))) (.blk 0 (.loop (.seq (.rg (.fin (sOp S73 (oLt 3 G72 G71)<|sNil))) (.seq (.cond G73 (.skip) (.exit 0)) (.seq (.blk 1 (.seq (.rg (.fin (sOp S74 (oIas G70 G72 4)<|sOp S75 (oLd G74 4)<|sOp S20 (oAl [(.i 3 (.ofNat 0)),(.i 3 (.ofNat 0)),(.i 3 (.ofNat 0)),(.i 6 (.ofNat 0))] 4)<|sOp dN (oSt G20 G75 4)<|sNil))) (.rg (.fin (vM S76 G16<|sOp S77 (oFa G20 0)<|sOp S78 (oLd1 G77)<|sOp S79 (oMm true (xsC G76<|xsC G78<|xsN))<|vM S16 G79<|sNil))))) (.rg (.fin (sOp S80 (oAr arAdd 3 G72 q1)<|vM S72 G80<|sNil))))))))) (.skip)))) (.seq (.seq (.rg (.fin (vM S81 G16<|sOp S82 (oLt 3 G81 q0)<|vM S83 G82<|sOpG (gG G83 false) S84 (oMv G16)<|sOpG (gG G83 false) S85 (oGe 3 G84 (xC (.i 3 (.ofNat 2147483648))))<|sOp S86 (oPick G83 (xC (.b true)) G85)<|sNil))) (.cond G86 (.seq (.rg (.fin (sOp S87 (oBld [(.i 3 (.ofNat 0)),(.i 3 (.ofNat 0)),(.i 3 (.ofNat 0)),(.i 6 (.ofNat 0))] pNil)<|sOp dN (oSt G10 G87 4)<|vM S11 q1<|sNil))) (.ret)) (.skip))) (.seq (.rg (.call (sOp S88 (oLd G7 7)<|sNil) gN S89 78 (xsC G88<|xsC q65536<|xsN)<| .fin (vM S21 G89<|sNil))) (.seq (.seq (.rg (.fin (vM S90 G4<|sOp S91 (oLenl G90)<|vM S92 q0<|sNil))) (keptC)) (.seq (.seq (.rg (.fin (sOp S112 (oFa G8 0)<|sOp S113 (oLd1 G112)<|sOp S114 (oEq true 3 G113 q0)<|sNil))) (.cond G114 (.seq (.rg (.fin (sOp S115 (oFa G8 1)<|sOp S116 (oLd1 G115)<|sOp S117 (oMm true (xsC G116<|xsC q0<|xsN))<|vM S24 G117<|sNil))) (.blk 4 (.loop (.seq (.seq (.rg (.call (vM S118 G24<|vM S119 G21<|sOp S120 (oLenl G119)<|sOp S121 (oLt 3 G118 G120)<|vM S122 G121<|sOpG (gG G122 true) S123 (oMv G24)<|sOpG (gG G122 true) S124 (oFa G8 1)<|sOpG (gG G122 true) S125 (oLd1 G124)<|sOpG (gG G122 true) S126 (oAr arSub 3 G123 G125)<|sOpG (gG G122 true) S127 (oFa G8 2)<|sOpG (gG G122 true) S128 (oLd1 G127)<|sOpG (gG G122 true) S129 (oMm false (xsC G128<|xsC q1048576<|xsN))<|sNil) (gG G122 true) S130 119 (xsC G129<|xsN)<| .fin (sAg (gG G122 true) G125 (oLd1 G124)<|sOpG (gG G122 true) S131 (oLt 3 G126 G130)<|sOp S132 (oPick G122 G131 (xC (.b false)))<|sNil))) (.cond G132 (.skip) (.exit 4))) (.seq (.blk 5 (.rg (.fin (vM S135 G21<|vM S136 G24<|sOp S137 (oIas G135 G136 1)<|sOp S138 (oLd1 G137)<|sOp S139 (oAr arAdd 3 G138 q1)<|sOp S140 (oIas G135 G136 1)<|sOp dN (oSt G140 G139 1)<|sNil)))) (.rg (.fin (vM S133 G24<|sOp S134 (oAr arAdd 3 G133 q1)<|vM S24 G134<|sNil)))))))) (.skip))) (.seq (.rg (.fin (sOp S141 (oLd G7 7)<|vM S142 G14<|vM S143 G21<|sOp S144 (oBld [(.i 3 (.ofNat 0)),(.i 3 (.ofNat 0)),(.s []),.ns,.ns,.ns,.ns,(.i 3 (.ofNat 0)),.ns] (pPt 0 7 G141<|pPt 7 1 G142<|pPt 8 1 G143<|pNil))<|sOp S145 (oBx G144)<|vM S25 G145<|sNil))) (.seq (.rg (.call (vM S147 G25<|sNil) gN S148 120 (xsC G147<|xsN)<| .fin (vM S146 G148<|sOp S149 (oExt G146 0)<|sOp S150 (oExt G146 1)<|sOp S151 (oExt G146 2)<|sOp S152 (oExt G146 3)<|sOp S26 (oAl [(.i 3 (.ofNat 0))] 1)<|sOp S27 (oAl [.ns] 1)<|sOp S28 (oAl [(.i 3 (.ofNat 0))] 1)<|sOp dN (oSt G26 G149 1)<|sOp dN (oSt G27 G150 1)<|sOp dN (oSt G28 G151 1)<|vM S15 G152<|sNil))) (.seq (.seq (.rg (.fin (vM S153 G15<|sOp S154 (oEq true 3 G153 q0)<|sNil))) (.cond G154 (.seq (.rg (.fin (sOp S155 (oBld [(.i 3 (.ofNat 0)),(.i 3 (.ofNat 0)),(.i 3 (.ofNat 0)),(.i 6 (.ofNat 0))] pNil)<|vM S156 G15<|sOp dN (oSt G10 G155 4)<|vM S11 G156<|sNil))) (.ret)) (.skip))) (.seq (.rg (.call (vM S157 G16<|sOp S158 (oAr arAdd 3 G157 q1)<|sOp S159 (oLd1 G26)<|sOp S160 (oLd1 G27)<|sOp S161 (oLenl G160)<|sOp S162 (oLd1 G27)<|sOp S29 (oAl [(.i 3 (.ofNat 0)),(.i 3 (.ofNat 0)),(.i 3 (.ofNat 0)),(.i 6 (.ofNat 0))] 4)<|sNil) gN S163 65 (xsC G162<|xsN)<| .fin (sAg gN G159 (oLd1 G26)<|sAg gN G160 (oLd1 G27)<|sAg gN G161 (oLenl G160)<|sOp S164 (oBld [(.i 3 (.ofNat 0)),(.i 3 (.ofNat 0)),(.i 3 (.ofNat 0)),(.i 6 (.ofNat 0))] (pPt 0 1 G158<|pPt 1 1 G159<|pPt 2 1 G161<|pPt 3 1 G163<|pNil))<|sOp dN (oSt G29 G164 4)<|sNil))) (.seq (.rg (.call (sOp S166 (oLd G29 4)<|sNil) gN S167 121 (xsC G166<|xsN)<| .fin (vM S165 G167<|sOp S168 (oExt G165 0)<|sOp S169 (oExt G165 1)<|sOp S30 (oAl [.ns] 1)<|sOp dN (oSt G30 G168 1)<|vM S15 G169<|sNil))) (.seq (.seq (.rg (.fin (vM S170 G15<|sOp S171 (oEq true 3 G170 q0)<|sNil))) (.cond G171 (.seq (.rg (.fin (sOp S172 (oBld [(.i 3 (.ofNat 0)),(.i 3 (.ofNat 0)),(.i 3 (.ofNat 0)),(.i 6 (.ofNat 0))] pNil)<|vM S173 G15<|sOp dN (oSt G10 G172 4)<|vM S11 G173<|sNil))) (.ret)) (.skip))) (.seq (.rg (.fin (sOp S174 (oFa G29 0)<|sOp S175 (oLd1 G174)<|sOp S176 (oRem 3 G175 q2)<|sOp S177 (oAr arSub 3 q1 G176)<|sOp S31 (oAl [(.i 3 (.ofNat 0))] 1)<|sOp dN (oSt G31 G177 1)<|sNil))) (.seq (.seq (.rg (.fin (sOp S178 (oMkf 122 (xsC G5<|xsC G6<|xsC G26<|xsC G27<|xsC G28<|xsN))<|sOp S179 (oMkf 123 (xsC G5<|xsC G6<|xsN))<|sOp S180 (oMkf 124 (xsC G5<|xsC G6<|xsC G31<|xsC G30<|xsN))<|sOp S181 (oMkf 125 (xsC G5<|xsC G6<|xsN))<|sOp S182 (oBsl [.nf,.nf,.nf,.nf] 4 4 (pPt 0 1 G178<|pPt 1 1 G179<|pPt 2 1 G180<|pPt 3 1 G181<|pNil))<|sOp S183 (oLenl G182)<|vM S184 q0<|sNil))) (.blk 6 (.loop (.seq (.rg (.fin (sOp S185 (oLt 3 G184 G183)<|sNil))) (.seq (.cond G185 (.skip) (.exit 6)) (.seq (.blk 7 (.seq (.rg (.fin (sOp S186 (oIas G182 G184 1)<|sOp S187 (oLd1 G186)<|vM S33 G187<|sNil))) (.seq (.rg (.calv (vM S188 G33<|sNil) gN S189 G188 xsN<| .fin (vM S34 G189<|sNil))) (.seq (.rg (.fin (vM S190 G34<|sOp S191 (oEq true 3 G190 q0)<|sNil))) (.cond G191 (.seq (.rg (.fin (sOp S192 (oBld [(.i 3 (.ofNat 0)),(.i 3 (.ofNat 0)),(.i 3 (.ofNat 0)),(.i 6 (.ofNat 0))] pNil)<|vM S193 G34<|sOp dN (oSt G10 G192 4)<|vM S11 G193<|sNil))) (.ret)) (.skip)))))) (.rg (.fin (sOp S194 (oAr arAdd 3 G184 q1)<|vM S184 G194<|sNil))))))))) (.seq (.rg (.fin (sOp S195 (oLd G29 4)<|sOp dN (oSt G10 G195 4)<|vM S11 q0<|sNil))) (.ret)))))))))))))))))))))
def nc53:AFn:=.mk (.seq (.rg (.fin (sOp S5 (oBx G0)<|sOp S6 (oBx G1)<|sOp S7 (oBx G2)<|sOp S8 (oBx G3)<|sOp S10 (oAl [(.i 3 (.ofNat 0)),(.i 3 (.ofNat 0)),(.i 3 (.ofNat 0)),(.i 6 (.ofNat 0))] 4)<|vM S11 q0<|sNil))) (.seq (.seq (.rg (.call (sOp S36 (oLd1 G5)<|sOp S37 (oLd1 G6)<|sNil) gN S38 38 (xsC G36<|xsC G37<|xsC q0<|xsC q0<|xsN)<| .fin (vM S35 G38<|sOp S39 (oExt G35 0)<|sOp S40 (oExt G35 1)<|vM S12 G39<|vM S13 G40<|sNil))) (.seq (.rg (.fin (vM S41 G13<|sOp S42 (oEq false 3 G41 q8)<|sNil))) (.cond G42 (.seq (.rg (.fin (sOp S43 (oBld [(.i 3 (.ofNat 0)),(.i 3 (.ofNat 0)),(.i 3 (.ofNat 0)),(.i 6 (.ofNat 0))] pNil)<|vM S44 G13<|sOp dN (oSt G10 G43 4)<|vM S11 G44<|sNil))) (.ret)) (.skip)))) (.seq (.rg (.fin (sOp S45 (oFa G7 6)<|sOp dN (oSt G45 (xC .ns) 1)<|sNil))) (.seq (.seq (.rg (.call (sOp S46 (oLd G7 7)<|sNil) gN S47 72 (xsC G46<|xsN)<| .fin (sOp S48 (oNt G47)<|sNil))) (.cond G48 (.seq (.rg (.fin (sOp S49 (oBld [(.i 3 (.ofNat 0)),(.i 3 (.ofNat 0)),(.i 3 (.ofNat 0)),(.i 6 (.ofNat 0))] pNil)<|sOp dN (oSt G10 G49 4)<|vM S11 q1<|sNil))) (.ret)) (.skip))) (.seq (.rg (.call (sOp S51 (oLd1 G5)<|sOp S52 (oLd1 G6)<|sNil) gN S53 31 (xsC G51<|xsC G52<|xsN)<| .fin (vM S50 G53<|sOp S54 (oExt G50 0)<|sOp S55 (oExt G50 1)<|vM S14 G54<|vM S15 G55<|sNil))) (.seq (.seq (.rg (.fin (vM S56 G15<|sOp S57 (oEq true 3 G56 q0)<|sNil))) (.cond G57 (.seq (.rg (.fin (sOp S58 (oBld [(.i 3 (.ofNat 0)),(.i 3 (.ofNat 0)),(.i 3 (.ofNat 0)),(.i 6 (.ofNat 0))] pNil)<|vM S59 G15<|sOp dN (oSt G10 G58 4)<|vM S11 G59<|sNil))) (.ret)) (.skip))) (.seq (.rg (.fin (sOp S60 (oFa G8 0)<|sOp S61 (oLd1 G60)<|vM S16 G61<|sNil))) (.seq (.seq (.rg (.call (sOp S63 (oLd1 G5)<|sOp S64 (oLd1 G6)<|sNil) gN S65 118 (xsC G63<|xsC G64<|xsN)<| .fin (vM S62 G65<|sOp S66 (oExt G62 0)<|sOp S67 (oExt G62 1)<|vM S17 G66<|vM S18 G67<|sNil))) (.seq (.rg (.fin (vM S68 G18<|sOp S69 (oEq false 3 G68 q0)<|sNil))) (.cond G69 (.seq (.rg (.fin (vM S70 G17<|sOp S71 (oLenl G70)<|vM S72 q0<|sNil))) (.blk 0 (.loop (.seq (.rg (.fin (sOp S73 (oLt 3 G72 G71)<|sNil))) (.seq (.cond G73 (.skip) (.exit 0)) (.seq (.blk 1 (.seq (.rg (.fin (sOp S74 (oIas G70 G72 4)<|sOp S75 (oLd G74 4)<|sOp S20 (oAl [(.i 3 (.ofNat 0)),(.i 3 (.ofNat 0)),(.i 3 (.ofNat 0)),(.i 6 (.ofNat 0))] 4)<|sOp dN (oSt G20 G75 4)<|sNil))) (.rg (.fin (vM S76 G16<|sOp S77 (oFa G20 0)<|sOp S78 (oLd1 G77)<|sOp S79 (oMm true (xsC G76<|xsC G78<|xsN))<|vM S16 G79<|sNil))))) (.rg (.fin (sOp S80 (oAr arAdd 3 G72 q1)<|vM S72 G80<|sNil))))))))) (.skip)))) (.seq (.seq (.rg (.fin (vM S81 G16<|sOp S82 (oLt 3 G81 q0)<|vM S83 G82<|sOpG (gG G83 false) S84 (oMv G16)<|sOpG (gG G83 false) S85 (oGe 3 G84 (xC (.i 3 (.ofNat 2147483648))))<|sOp S86 (oPick G83 (xC (.b true)) G85)<|sNil))) (.cond G86 (.seq (.rg (.fin (sOp S87 (oBld [(.i 3 (.ofNat 0)),(.i 3 (.ofNat 0)),(.i 3 (.ofNat 0)),(.i 6 (.ofNat 0))] pNil)<|sOp dN (oSt G10 G87 4)<|vM S11 q1<|sNil))) (.ret)) (.skip))) (.seq (.rg (.call (sOp S88 (oLd G7 7)<|sNil) gN S89 78 (xsC G88<|xsC q65536<|xsN)<| .fin (vM S21 G89<|sNil))) (.seq (.seq (.rg (.fin (vM S90 G4<|sOp S91 (oLenl G90)<|vM S92 q0<|sNil))) (.spl keptS keptC)) (.seq (.seq (.rg (.fin (sOp S112 (oFa G8 0)<|sOp S113 (oLd1 G112)<|sOp S114 (oEq true 3 G113 q0)<|sNil))) (.cond G114 (.seq (.rg (.fin (sOp S115 (oFa G8 1)<|sOp S116 (oLd1 G115)<|sOp S117 (oMm true (xsC G116<|xsC q0<|xsN))<|vM S24 G117<|sNil))) (.blk 4 (.loop (.seq (.seq (.rg (.call (vM S118 G24<|vM S119 G21<|sOp S120 (oLenl G119)<|sOp S121 (oLt 3 G118 G120)<|vM S122 G121<|sOpG (gG G122 true) S123 (oMv G24)<|sOpG (gG G122 true) S124 (oFa G8 1)<|sOpG (gG G122 true) S125 (oLd1 G124)<|sOpG (gG G122 true) S126 (oAr arSub 3 G123 G125)<|sOpG (gG G122 true) S127 (oFa G8 2)<|sOpG (gG G122 true) S128 (oLd1 G127)<|sOpG (gG G122 true) S129 (oMm false (xsC G128<|xsC q1048576<|xsN))<|sNil) (gG G122 true) S130 119 (xsC G129<|xsN)<| .fin (sAg (gG G122 true) G125 (oLd1 G124)<|sOpG (gG G122 true) S131 (oLt 3 G126 G130)<|sOp S132 (oPick G122 G131 (xC (.b false)))<|sNil))) (.cond G132 (.skip) (.exit 4))) (.seq (.blk 5 (.rg (.fin (vM S135 G21<|vM S136 G24<|sOp S137 (oIas G135 G136 1)<|sOp S138 (oLd1 G137)<|sOp S139 (oAr arAdd 3 G138 q1)<|sOp S140 (oIas G135 G136 1)<|sOp dN (oSt G140 G139 1)<|sNil)))) (.rg (.fin (vM S133 G24<|sOp S134 (oAr arAdd 3 G133 q1)<|vM S24 G134<|sNil)))))))) (.skip))) (.seq (.rg (.fin (sOp S141 (oLd G7 7)<|vM S142 G14<|vM S143 G21<|sOp S144 (oBld [(.i 3 (.ofNat 0)),(.i 3 (.ofNat 0)),(.s []),.ns,.ns,.ns,.ns,(.i 3 (.ofNat 0)),.ns] (pPt 0 7 G141<|pPt 7 1 G142<|pPt 8 1 G143<|pNil))<|sOp S145 (oBx G144)<|vM S25 G145<|sNil))) (.seq (.rg (.call (vM S147 G25<|sNil) gN S148 120 (xsC G147<|xsN)<| .fin (vM S146 G148<|sOp S149 (oExt G146 0)<|sOp S150 (oExt G146 1)<|sOp S151 (oExt G146 2)<|sOp S152 (oExt G146 3)<|sOp S26 (oAl [(.i 3 (.ofNat 0))] 1)<|sOp S27 (oAl [.ns] 1)<|sOp S28 (oAl [(.i 3 (.ofNat 0))] 1)<|sOp dN (oSt G26 G149 1)<|sOp dN (oSt G27 G150 1)<|sOp dN (oSt G28 G151 1)<|vM S15 G152<|sNil))) (.seq (.seq (.rg (.fin (vM S153 G15<|sOp S154 (oEq true 3 G153 q0)<|sNil))) (.cond G154 (.seq (.rg (.fin (sOp S155 (oBld [(.i 3 (.ofNat 0)),(.i 3 (.ofNat 0)),(.i 3 (.ofNat 0)),(.i 6 (.ofNat 0))] pNil)<|vM S156 G15<|sOp dN (oSt G10 G155 4)<|vM S11 G156<|sNil))) (.ret)) (.skip))) (.seq (.rg (.call (vM S157 G16<|sOp S158 (oAr arAdd 3 G157 q1)<|sOp S159 (oLd1 G26)<|sOp S160 (oLd1 G27)<|sOp S161 (oLenl G160)<|sOp S162 (oLd1 G27)<|sOp S29 (oAl [(.i 3 (.ofNat 0)),(.i 3 (.ofNat 0)),(.i 3 (.ofNat 0)),(.i 6 (.ofNat 0))] 4)<|sNil) gN S163 65 (xsC G162<|xsN)<| .fin (sAg gN G159 (oLd1 G26)<|sAg gN G160 (oLd1 G27)<|sAg gN G161 (oLenl G160)<|sOp S164 (oBld [(.i 3 (.ofNat 0)),(.i 3 (.ofNat 0)),(.i 3 (.ofNat 0)),(.i 6 (.ofNat 0))] (pPt 0 1 G158<|pPt 1 1 G159<|pPt 2 1 G161<|pPt 3 1 G163<|pNil))<|sOp dN (oSt G29 G164 4)<|sNil))) (.seq (.rg (.call (sOp S166 (oLd G29 4)<|sNil) gN S167 121 (xsC G166<|xsN)<| .fin (vM S165 G167<|sOp S168 (oExt G165 0)<|sOp S169 (oExt G165 1)<|sOp S30 (oAl [.ns] 1)<|sOp dN (oSt G30 G168 1)<|vM S15 G169<|sNil))) (.seq (.seq (.rg (.fin (vM S170 G15<|sOp S171 (oEq true 3 G170 q0)<|sNil))) (.cond G171 (.seq (.rg (.fin (sOp S172 (oBld [(.i 3 (.ofNat 0)),(.i 3 (.ofNat 0)),(.i 3 (.ofNat 0)),(.i 6 (.ofNat 0))] pNil)<|vM S173 G15<|sOp dN (oSt G10 G172 4)<|vM S11 G173<|sNil))) (.ret)) (.skip))) (.seq (.rg (.fin (sOp S174 (oFa G29 0)<|sOp S175 (oLd1 G174)<|sOp S176 (oRem 3 G175 q2)<|sOp S177 (oAr arSub 3 q1 G176)<|sOp S31 (oAl [(.i 3 (.ofNat 0))] 1)<|sOp dN (oSt G31 G177 1)<|sNil))) (.seq (.seq (.rg (.fin (sOp S178 (oMkf 122 (xsC G5<|xsC G6<|xsC G26<|xsC G27<|xsC G28<|xsN))<|sOp S179 (oMkf 123 (xsC G5<|xsC G6<|xsN))<|sOp S180 (oMkf 124 (xsC G5<|xsC G6<|xsC G31<|xsC G30<|xsN))<|sOp S181 (oMkf 125 (xsC G5<|xsC G6<|xsN))<|sOp S182 (oBsl [.nf,.nf,.nf,.nf] 4 4 (pPt 0 1 G178<|pPt 1 1 G179<|pPt 2 1 G180<|pPt 3 1 G181<|pNil))<|sOp S183 (oLenl G182)<|vM S184 q0<|sNil))) (.blk 6 (.loop (.seq (.rg (.fin (sOp S185 (oLt 3 G184 G183)<|sNil))) (.seq (.cond G185 (.skip) (.exit 6)) (.seq (.blk 7 (.seq (.rg (.fin (sOp S186 (oIas G182 G184 1)<|sOp S187 (oLd1 G186)<|vM S33 G187<|sNil))) (.seq (.rg (.calv (vM S188 G33<|sNil) gN S189 G188 xsN<| .fin (vM S34 G189<|sNil))) (.seq (.rg (.fin (vM S190 G34<|sOp S191 (oEq true 3 G190 q0)<|sNil))) (.cond G191 (.seq (.rg (.fin (sOp S192 (oBld [(.i 3 (.ofNat 0)),(.i 3 (.ofNat 0)),(.i 3 (.ofNat 0)),(.i 6 (.ofNat 0))] pNil)<|vM S193 G34<|sOp dN (oSt G10 G192 4)<|vM S11 G193<|sNil))) (.ret)) (.skip)))))) (.rg (.fin (sOp S194 (oAr arAdd 3 G184 q1)<|vM S184 G194<|sNil))))))))) (.seq (.rg (.fin (sOp S195 (oLd G29 4)<|sOp dN (oSt G10 G195 4)<|vM S11 q0<|sNil))) (.ret)))))))))))))))))))))) (dRs [.c 10 4,.t 11])
def nc54:AFn:=.mk (.seq (.rg (.fin (vM S2 q0<|sNil))) (.seq (.blk 0 (.seq (.rg (.fin (vM S4 G0<|sOp S5 (oEqn false 0 G4 (xC .np))<|vM S3 G5<|sNil))) (.cond G3 (.bad) (.seq (.rg (.fin (vM S7 G0<|sOp S8 (oNc G7)<|sOp S9 (oFa G8 4)<|sOp S10 (oLd1 G9)<|vM S6 G10<|sNil))) (.cond G6 (.bad) (.skip)))))) (.seq (.rg (.fin (vM S2 q0<|sNil))) (.ret)))) (r1 (.t 2))
def nc55:AFn:=.mk (.seq (.rg (.fin (sOp S4 (oBx G1)<|sOp S5 (oBx G2)<|sNil))) (.rg (.call (vM S6 G0<|vM S7 G0<|sOp S8 (oNc G7)<|sOp S9 (oFa G8 2)<|sOp S10 (oLd1 G9)<|sOp S11 (oMkf 127 (xsC G4<|xsC G5<|xsN))<|sNil) gN S12 126 (xsC G10<|xsC G11<|xsN)<| .fin (sOp S13 (oNc G6)<|sOp S14 (oFa G13 2)<|sOp dN (oSt G14 G12 1)<|sNil)))) (dRs [])
def nc56:AFn:=.mk (.seq (.rg (.fin (sOp S4 (oMv (xC .np))<|vM S5 q0<|sNil))) (.seq (.seq (.rg (.call (vM S8 G0<|sNil) gN S9 54 (xsC G8<|xsN)<| .fin (vM S6 G9<|sNil))) (.seq (.rg (.fin (vM S10 G6<|sOp S11 (oEq true 3 G10 q0)<|sNil))) (.cond G11 (.bad) (.skip)))) (.seq (.rg (.fin (vM S13 G0<|sOp S14 (oNc G13)<|sOp S15 (oFa G14 1)<|sOp S16 (oLd1 G15)<|vM S17 G1<|sOp S18 (oLkp false [8] G16 G17 false .np)<|vM S7 G18<|sNil))) (.seq (.seq (.rg (.fin (vM S19 G7<|sOp S20 (oEqn false 0 G19 (xC .np))<|sNil))) (.cond G20 (.bad) (.skip))) (.seq (.rg (.fin (vM S21 G7<|vM S4 G21<|vM S5 q0<|sNil))) (.ret)))))) (dRs [.t 4,.t 5])
def nc57:AFn:=.mk (.seq (.rg (.fin (vM S2 q0<|sNil))) (.seq (.seq (.rg (.fin (vM S6 G0<|sOp S7 (oEqn false 0 G6 (xC .np))<|sNil))) (.cond G7 (.bad) (.skip))) (.seq (.rg (.fin (vM S3 q0<|sNil))) (.seq (.seq (.rg (.fin (vM S8 G0<|sOp S9 (oNc G8)<|sOp S10 (oFa G9 1)<|sOp S11 (oLd1 G10)<|sOp S12 (oRng G11)<|sNil))) (.blk 0 (.loop (.seq (.rg (.fin (sOp S13 (oNxt G12)<|sOp S14 (oExt G13 0)<|sNil))) (.seq (.cond G14 (.skip) (.exit 0)) (.blk 1 (.seq (.rg (.fin (sOp S15 (oEty G12)<|sOp S16 (oExt G15 1)<|vM S5 G16<|sNil))) (.rg (.fin (vM S17 G3<|vM S18 G5<|sOp S19 (oNc G18)<|sOp S20 (oFa G19 0)<|sOp S21 (oLd1 G20)<|sOp S22 (oLenl G21)<|sOp S23 (oAr arAdd 3 G17 G22)<|vM S3 G23<|sNil)))))))))) (.seq (.rg (.fin (vM S24 G3<|vM S2 G24<|sNil))) (.ret)))))) (r1 (.t 2))
def nc58:AFn:=.mk (.seq (.rg (.fin (vM S10 q0<|sNil))) (.seq (.rg (.fin (vM S12 G0<|sOp S13 (oNc G12)<|sOp S14 (oFa G13 3)<|sOp S15 (oLd1 G14)<|sOp S16 (oAr arSub 3 G15 q1)<|sOp S17 (oNc G12)<|sOp S18 (oFa G17 3)<|sOp dN (oSt G18 G16 1)<|sNil))) (.seq (.seq (.rg (.fin (vM S19 G0<|sOp S20 (oNc G19)<|sOp S21 (oFa G20 3)<|sOp S22 (oLd1 G21)<|sOp S23 (oEq false 3 G22 q0)<|sNil))) (.cond G23 (.bad) (.skip))) (.seq (.rg (.fin (vM S27 G0<|vM S28 G0<|sOp S29 (oNc G28)<|sOp S30 (oFa G29 3)<|sOp S31 (oLd1 G30)<|sOp S32 (oMm true (xsC G31<|xsC q0<|xsN))<|sOp S33 (oNc G27)<|sOp S34 (oFa G33 3)<|sOp dN (oSt G34 G32 1)<|sNil))) (.seq (.rg (.call (vM S35 G0<|sOp S36 (oNc G35)<|sOp S37 (oFa G36 5)<|sNil) gN S38 128 (xsC G37<|xsC q1<|xsN)<| .fin (sNil))) (.seq (.rg (.fin (sOp S11 (oAl [(.i 4 (.ofNat 0)),(.i 4 (.ofNat 0)),(.i 4 (.ofNat 0)),(.i 4 (.ofNat 0)),(.i 4 (.ofNat 0)),(.i 4 (.ofNat 0)),(.i 4 (.ofNat 0)),(.i 4 (.ofNat 0)),(.i 4 (.ofNat 0)),(.i 4 (.ofNat 0)),(.i 4 (.ofNat 0)),(.i 4 (.ofNat 0)),(.i 4 (.ofNat 0)),(.i 4 (.ofNat 0)),(.i 4 (.ofNat 0)),(.i 4 (.ofNat 0))] 16)<|sNil))) (.seq (.rg (.fin (sOp S39 (oSla G11 bNo bNo bNo 16 1)<|vM S40 G4<|sOp S41 (oCpy G39 G40 1)<|sNil))) (.seq (.blk 0 (.loop (.seq (.seq (.rg (.fin (vM S42 G2<|sOp S43 (oNc G42)<|sOp S44 (oFa G43 0)<|sOp S45 (oLd1 G44)<|sOp S46 (oLenl G45)<|vM S47 G3<|sOp S48 (oLe 3 G46 G47)<|sNil))) (.cond G48 (.skip) (.exit 0))) (.blk 1 (.rg (.fin (vM S49 G2<|vM S50 G2<|sOp S51 (oNc G50)<|sOp S52 (oFa G51 0)<|sOp S53 (oLd1 G52)<|sOp S54 (oBld [(.i 4 (.ofNat 0)),(.i 4 (.ofNat 0)),(.i 4 (.ofNat 0)),(.i 4 (.ofNat 0)),(.i 4 (.ofNat 0)),(.i 4 (.ofNat 0)),(.i 4 (.ofNat 0)),(.i 4 (.ofNat 0)),(.i 4 (.ofNat 0)),(.i 4 (.ofNat 0)),(.i 4 (.ofNat 0)),(.i 4 (.ofNat 0)),(.i 4 (.ofNat 0)),(.i 4 (.ofNat 0)),(.i 4 (.ofNat 0)),(.i 4 (.ofNat 0))] pNil)<|sOp S55 (oBsl [(.i 4 (.ofNat 0)),(.i 4 (.ofNat 0)),(.i 4 (.ofNat 0)),(.i 4 (.ofNat 0)),(.i 4 (.ofNat 0)),(.i 4 (.ofNat 0)),(.i 4 (.ofNat 0)),(.i 4 (.ofNat 0)),(.i 4 (.ofNat 0)),(.i 4 (.ofNat 0)),(.i 4 (.ofNat 0)),(.i 4 (.ofNat 0)),(.i 4 (.ofNat 0)),(.i 4 (.ofNat 0)),(.i 4 (.ofNat 0)),(.i 4 (.ofNat 0))] 16 1 (pPt 0 16 G54<|pNil))<|sOp S56 (oApn G53 G55 16 16)<|sOp S57 (oNc G49)<|sOp S58 (oFa G57 0)<|sOp dN (oSt G58 G56 1)<|sNil))))))) (.seq (.rg (.fin (vM S59 G2<|sOp S60 (oNc G59)<|sOp S61 (oFa G60 0)<|sOp S62 (oLd1 G61)<|vM S63 G3<|sOp S64 (oLd G11 16)<|sOp S65 (oIas G62 G63 16)<|sOp dN (oSt G65 G64 16)<|sNil))) (.seq (.rg (.fin (vM S66 G0<|vM S67 G0<|sOp S68 (oNc G67)<|sOp S69 (oFa G68 2)<|sOp S70 (oLd1 G69)<|vM S71 G1<|vM S72 G3<|sOp S73 (oLd G11 16)<|sOp S74 (oBld [(.s []),(.i 3 (.ofNat 0)),(.i 4 (.ofNat 0)),(.i 4 (.ofNat 0)),(.i 4 (.ofNat 0)),(.i 4 (.ofNat 0)),(.i 4 (.ofNat 0)),(.i 4 (.ofNat 0)),(.i 4 (.ofNat 0)),(.i 4 (.ofNat 0)),(.i 4 (.ofNat 0)),(.i 4 (.ofNat 0)),(.i 4 (.ofNat 0)),(.i 4 (.ofNat 0)),(.i 4 (.ofNat 0)),(.i 4 (.ofNat 0)),(.i 4 (.ofNat 0)),(.i 4 (.ofNat 0))] (pPt 0 1 G71<|pPt 1 1 G72<|pPt 2 16 G73<|pNil))<|sOp S75 (oBsl [(.s []),(.i 3 (.ofNat 0)),(.i 4 (.ofNat 0)),(.i 4 (.ofNat 0)),(.i 4 (.ofNat 0)),(.i 4 (.ofNat 0)),(.i 4 (.ofNat 0)),(.i 4 (.ofNat 0)),(.i 4 (.ofNat 0)),(.i 4 (.ofNat 0)),(.i 4 (.ofNat 0)),(.i 4 (.ofNat 0)),(.i 4 (.ofNat 0)),(.i 4 (.ofNat 0)),(.i 4 (.ofNat 0)),(.i 4 (.ofNat 0)),(.i 4 (.ofNat 0)),(.i 4 (.ofNat 0))] 18 1 (pPt 0 18 G74<|pNil))<|sOp S76 (oApn G70 G75 18 40)<|sOp S77 (oNc G66)<|sOp S78 (oFa G77 2)<|sOp dN (oSt G78 G76 1)<|sNil))) (.seq (.rg (.fin (vM S10 q0<|sNil))) (.ret)))))))))))) (r1 (.t 10))
def nc65:AFn:=.mk (.seq (.rg (.fin (sOp S2 (oMv (xC (.i 6 (.ofNat 0))))<|sNil))) (.seq (.rg (.call (vM S3 G0<|sNil) gN S4 138 (xsC (xC (.i 6 (.ofNat 0)))<|xsC G3<|xsN)<| .fin (vM S2 G4<|sNil))) (.ret))) (r1 (.t 2))
def nc71:AFn:=.mk (.seq (.rg (.fin (sOp S2 (oMv (xC (.b false)))<|sNil))) (.seq (.seq (.rg (.fin (vM S5 G0<|sOp S6 (oSQ false G5 (xC (.s [])))<|vM S7 G6<|sOpG (gG G7 false) S8 (oMv G0)<|sOpG (gG G7 false) S9 (oLens G8)<|sOpG (gG G7 false) S10 (oGt 3 G9 q16)<|sOp S11 (oPick G7 (xC (.b true)) G10)<|sNil))) (.cond G11 (.bad) (.skip))) (.seq (.seq (.rg (.fin (vM S12 G0<|sOp S13 (oLens G12)<|vM S14 q0<|sNil))) (.blk 0 (.loop (.seq (.rg (.fin (sOp S15 (oLt 3 G14 G13)<|sNil))) (.seq (.cond G15 (.skip) (.exit 0)) (.seq (.blk 1 (.seq (.rg (.fin (vM S16 G14<|vM S3 G16<|sNil))) (.seq (.rg (.fin (vM S17 G0<|vM S18 G3<|sOp S19 (oIxs G17 G18)<|vM S4 G19<|sNil))) (.seq (.rg (.fin (vM S20 G4<|sOp S21 (oLt 4 G20 (xC (.i 4 (.ofNat 97))))<|vM S22 G21<|sOpG (gG G22 false) S23 (oMv G4)<|sOpG (gG G22 false) S24 (oGt 4 G23 (xC (.i 4 (.ofNat 122))))<|sOp S25 (oPick G22 (xC (.b true)) G24)<|vM S26 G25<|sOpG (gG G26 true) S27 (oMv G4)<|sOpG (gG G26 true) S28 (oLt 4 G27 (xC (.i 4 (.ofNat 48))))<|sOpG (gG G26 true) S29 (oMv G28)<|sOpG (gG G29 false) S30 (oMv G4)<|sOpG (gG G29 false) S31 (oGt 4 G30 (xC (.i 4 (.ofNat 57))))<|sOpG (gG G26 true) S32 (oPick G29 (xC (.b true)) G31)<|sOp S33 (oPick G26 G32 (xC (.b false)))<|vM S34 G33<|sOpG (gG G34 true) S35 (oMv G4)<|sOpG (gG G34 true) S36 (oEq true 4 G35 (xC (.i 4 (.ofNat 45))))<|sOp S37 (oPick G34 G36 (xC (.b false)))<|vM S38 G37<|sOpG (gG G38 true) S39 (oMv G4)<|sOpG (gG G38 true) S40 (oEq true 4 G39 (xC (.i 4 (.ofNat 95))))<|sOp S41 (oPick G38 G40 (xC (.b false)))<|vM S42 G41<|sOpG (gG G42 true) S43 (oMv G4)<|sOpG (gG G42 true) S44 (oEq true 4 G43 (xC (.i 4 (.ofNat 46))))<|sOp S45 (oPick G42 G44 (xC (.b false)))<|sNil))) (.cond G45 (.bad) (.skip)))))) (.rg (.fin (sOp S46 (oAr arAdd 3 G14 q1)<|vM S14 G46<|sNil))))))))) (.seq (.rg (.fin (sOp S2 (oMv (xC (.b true)))<|sNil))) (.ret))))) (r1 (.t 2))
def nc72:AFn:=.mk (.seq (.rg (.fin (sOp S1 (oBx G0)<|sOp S2 (oMv (xC (.b false)))<|sNil))) (.seq (.seq (.rg (.call (sOp S11 (oFa G1 0)<|sOp S12 (oLd1 G11)<|sOp S13 (oLt 3 G12 q0)<|vM S14 G13<|sOpG (gG G14 false) S15 (oFa G1 0)<|sOpG (gG G14 false) S16 (oLd1 G15)<|sOpG (gG G14 false) S17 (oGt 3 G16 q6)<|sOp S18 (oPick G14 (xC (.b true)) G17)<|vM S19 G18<|sOpG (gG G19 false) S20 (oFa G1 1)<|sOpG (gG G19 false) S21 (oLd1 G20)<|sOpG (gG G19 false) S22 (oFa G1 0)<|sOpG (gG G19 false) S23 (oLd1 G22)<|sNil) (gG G19 false) S24 146 (xsC G21<|xsC G23<|xsN)<| .call (sOpG (gG G19 false) S25 (oNt G24)<|sOp S26 (oPick G19 (xC (.b true)) G25)<|vM S27 G26<|sOpG (gG G27 false) S28 (oFa G1 2)<|sOpG (gG G27 false) S29 (oLd1 G28)<|sOpG (gG G27 false) S30 (oSQ true G29 (xC (.s [])))<|sOpG (gG G27 false) S31 (oMv G30)<|sOpG (gG G31 true) S32 (oFa G1 2)<|sOpG (gG G31 true) S33 (oLd1 G32)<|sNil) (gG G31 true) S34 71 (xsC G33<|xsN)<| .fin (sOpG (gG G31 true) S35 (oNt G34)<|sOpG (gG G27 false) S36 (oPick G31 G35 (xC (.b false)))<|sOp S37 (oPick G27 (xC (.b true)) G36)<|sNil))) (.cond G37 (.bad) (.skip))) (.seq (.seq (.rg (.call (sOp S38 (oFa G1 3)<|sOp S39 (oLd G38 1)<|sOp S40 (oFa G1 1)<|sOp S41 (oLd1 G40)<|sOp S42 (oFa G1 0)<|sOp S43 (oLd1 G42)<|sOp S44 (oShr 3 G41 G43)<|sOp S45 (oFa G1 0)<|sOp S46 (oLd1 G45)<|sNil) gN S47 147 (xsC G39<|xsC G44<|xsC G46<|xsN)<| .fin (sOp S48 (oNt G47)<|vM S49 G48<|sOpG (gG G49 false) S50 (oFa G1 4)<|sOpG (gG G49 false) S51 (oLd1 G50)<|sOpG (gG G49 false) S52 (oLenl G51)<|sOpG (gG G49 false) S53 (oGt 3 G52 q8)<|sOp S54 (oPick G49 (xC (.b true)) G53)<|vM S55 G54<|sOpG (gG G55 false) S56 (oFa G1 5)<|sOpG (gG G55 false) S57 (oLd1 G56)<|sOpG (gG G55 false) S58 (oLenl G57)<|sOpG (gG G55 false) S59 (oGt 3 G58 q8)<|sOp S60 (oPick G55 (xC (.b true)) G59)<|vM S61 G60<|sOpG (gG G61 false) S62 (oFa G1 6)<|sOpG (gG G61 false) S63 (oLd1 G62)<|sOpG (gG G61 false) S64 (oLenl G63)<|sOpG (gG G61 false) S65 (oGt 3 G64 q65536)<|sOp S66 (oPick G61 (xC (.b true)) G65)<|sNil))) (.cond G66 (.bad) (.skip))) (.seq (.rg (.fin (sOp S3 (oMv (xC .ns))<|sOp S4 (oMv (xC .ns))<|sNil))) (.seq (.seq (.rg (.fin (sOp S67 (oFa G1 4)<|sOp S68 (oLd1 G67)<|sOp S69 (oLenl G68)<|vM S70 q0<|sNil))) (.blk 0 (.loop (.seq (.rg (.fin (sOp S71 (oLt 3 G70 G69)<|sNil))) (.seq (.cond G71 (.skip) (.exit 0)) (.bad)))))) (.seq (.seq (.rg (.fin (sOp S99 (oFa G1 5)<|sOp S100 (oLd1 G99)<|sOp S101 (oLenl G100)<|vM S102 q0<|sNil))) (.blk 2 (.loop (.seq (.rg (.fin (sOp S103 (oLt 3 G102 G101)<|sNil))) (.seq (.cond G103 (.skip) (.exit 2)) (.bad)))))) (.seq (.seq (.rg (.fin (sOp S134 (oFa G1 6)<|sOp S135 (oLd1 G134)<|sOp S136 (oLenl G135)<|vM S137 q0<|sNil))) (.blk 4 (.loop (.seq (.rg (.fin (sOp S138 (oLt 3 G137 G136)<|sNil))) (.seq (.cond G138 (.skip) (.exit 4)) (.seq (.blk 5 (.seq (.rg (.fin (sOp S139 (oIas G135 G137 1)<|sOp S140 (oLd1 G139)<|vM S10 G140<|sNil))) (.seq (.rg (.fin (vM S141 G10<|sOp S142 (oLt 3 G141 q0)<|vM S143 G142<|sOpG (gG G143 false) S144 (oMv G10)<|sOpG (gG G143 false) S145 (oGt 3 G144 (xC (.i 3 (.ofNat 65535))))<|sOp S146 (oPick G143 (xC (.b true)) G145)<|sNil))) (.cond G146 (.bad) (.skip))))) (.rg (.fin (sOp S147 (oAr arAdd 3 G137 q1)<|vM S137 G147<|sNil))))))))) (.seq (.rg (.call (vM S148 G3<|sNil) gN S149 149 (xsC G148<|xsN)<| .call (vM S150 G149<|sOpG (gG G150 true) S151 (oMv G4)<|sNil) (gG G150 true) S152 149 (xsC G151<|xsN)<| .fin (sOp S153 (oPick G150 G152 (xC (.b false)))<|vM S2 G153<|sNil))) (.ret))))))))) (r1 (.t 2))
def nc73:AFn:=.mk (.seq (.rg (.fin (sOp S6 (oBx G2)<|sOp S7 (oBx G3)<|sOp S8 (oMv (xC .np))<|sNil))) (.seq (.rg (.call (sNil) gN S12 150 (xsC (xC (.i 3 (.ofNat 64)))<|xsN)<| .fin (vM S11 G12<|sOp S13 (oExt G11 0)<|sOp S14 (oExt G11 1)<|vM S9 G13<|vM S10 G14<|sNil))) (.seq (.rg (.call (vM S15 G0<|vM S16 G1<|sOp S17 (oLd G6 7)<|sOp S19 (oLd G6 7)<|sOp S21 (oLd G7 4)<|vM S23 G9<|sNil) gN S18 79 (xsC G17<|xsN)<| .call (sAg gN G19 (oLd G6 7)<|sAg gN G21 (oLd G7 4)<|sNil) gN S20 79 (xsC G19<|xsN)<| .call (sAg gN G21 (oLd G7 4)<|sNil) gN S22 151 xsN<| .fin (sAg gN G21 (oLd G7 4)<|sOp S24 (oBld [.np,(.s []),(.i 3 (.ofNat 0)),(.i 3 (.ofNat 0)),(.s []),.ns,.ns,.ns,.ns,(.i 3 (.ofNat 0)),(.i 3 (.ofNat 0)),(.s []),.ns,.ns,.ns,.ns,.ns,(.i 3 (.ofNat 0)),(.i 3 (.ofNat 0)),(.i 3 (.ofNat 0)),(.i 6 (.ofNat 0)),(.b false),.np,.np,(.i 3 (.ofNat 0))] (pPt 0 1 G15<|pPt 1 1 G16<|pPt 2 7 G18<|pPt 9 7 G20<|pPt 17 4 G21<|pPt 22 1 G22<|pPt 23 1 G23<|pNil))<|sOp S25 (oBx G24)<|vM S8 G25<|sNil))) (.ret)))) (r1 (.t 8))
def nc77:AFn:=.mk (.seq (.rg (.fin (vM S2 q0<|sNil))) (.seq (.seq (.rg (.fin (vM S5 G0<|sOp S6 (oEqn false 0 G5 (xC .np))<|sNil))) (.cond G6 (.bad) (.skip))) (.seq (.seq (.rg (.call (vM S8 G0<|sOp S9 (oNc G8)<|sOp S10 (oFa G9 0)<|sOp S11 (oLd1 G10)<|vM S12 G0<|sOp S13 (oNc G12)<|sOp S14 (oFa G13 1)<|sOp S15 (oLd1 G14)<|sNil) gN S16 38 (xsC G11<|xsC G15<|xsC q0<|xsC q0<|xsN)<| .fin (vM S7 G16<|sOp S17 (oExt G7 0)<|sOp S18 (oExt G7 1)<|vM S3 G17<|vM S4 G18<|sNil))) (.seq (.rg (.fin (vM S19 G4<|sOp S20 (oEq false 3 G19 q8)<|sNil))) (.cond G20 (.bad) (.skip)))) (.seq (.rg (.fin (vM S2 q0<|sNil))) (.ret))))) (r1 (.t 2))
def nc78:AFn:=.mk (.seq (.rg (.fin (sOp S2 (oBx G0)<|sOp S4 (oMv (xC .ns))<|sNil))) (.seq (.seq (.rg (.fin (vM S12 G1<|sOp S13 (oLt 3 G12 q0)<|vM S14 G13<|sOpG (gG G14 false) S15 (oMv G1)<|sOpG (gG G14 false) S16 (oGt 3 G15 q65536)<|sOp S17 (oPick G14 (xC (.b true)) G16)<|sNil))) (.cond G17 (.bad) (.skip))) (.seq (.rg (.fin (vM S18 G1<|sOp S19 (oMks G18 G18 1 [(.i 3 (.ofNat 0))] 8)<|vM S5 G19<|sNil))) (.seq (.seq (.rg (.fin (vM S20 G1<|sOp S21 (oMm false (xsC G20<|xsC q2<|xsN))<|vM S22 q0<|sNil))) (.blk 0 (.loop (.seq (.rg (.fin (sOp S23 (oLt 3 G22 G21)<|sNil))) (.seq (.cond G23 (.skip) (.exit 0)) (.seq (.blk 1 (.seq (.rg (.fin (vM S24 G22<|vM S6 G24<|sNil))) (.rg (.fin (vM S25 G5<|vM S26 G6<|sOp S27 (oIas G25 G26 1)<|sOp S28 (oLd1 G27)<|sOp S29 (oAr arAdd 3 G28 q1)<|sOp S30 (oIas G25 G26 1)<|sOp dN (oSt G30 G29 1)<|sNil))))) (.rg (.fin (sOp S31 (oAr arAdd 3 G22 q1)<|vM S22 G31<|sNil))))))))) (.seq (.seq (.rg (.call (sOp S32 (oLd G2 7)<|sNil) gN S33 155 (xsC G32<|xsN)<| .fin (sOp S34 (oLenl G33)<|vM S35 q0<|sNil))) (.blk 2 (.loop (.seq (.rg (.fin (sOp S36 (oLt 3 G35 G34)<|sNil))) (.seq (.cond G36 (.skip) (.exit 2)) (.bad)))))) (.seq (.rg (.fin (vM S96 G5<|vM S4 G96<|sNil))) (.ret))))))) (r1 (.t 4))
def nc79:AFn:=.mk (.seq (.rg (.fin (sOp S1 (oBx G0)<|sOp S2 (oAl [(.i 3 (.ofNat 0)),(.i 3 (.ofNat 0)),(.s []),.ns,.ns,.ns,.ns] 7)<|sNil))) (.seq (.rg (.call (sOp S5 (oFa G1 3)<|sOp S6 (oLd G5 1)<|sNil) gN S7 89 (xsC G6<|xsC q4096<|xsN)<| .fin (sOp S8 (oFa G1 3)<|sOp dN (oSt G8 G7 1)<|sNil))) (.seq (.rg (.call (sOp S9 (oFa G1 4)<|sOp S10 (oLd1 G9)<|sNil) gN S11 156 (xsC G10<|xsN)<| .fin (sOp S12 (oFa G1 4)<|sOp dN (oSt G12 G11 1)<|sNil))) (.seq (.seq (.rg (.fin (sOp S13 (oFa G1 4)<|sOp S14 (oLd1 G13)<|sOp S15 (oLenl G14)<|vM S16 q0<|sNil))) (.blk 0 (.loop (.seq (.rg (.fin (sOp S17 (oLt 3 G16 G15)<|sNil))) (.seq (.cond G17 (.skip) (.exit 0)) (.bad)))))) (.seq (.rg (.call (sOp S32 (oFa G1 5)<|sOp S33 (oLd1 G32)<|sNil) gN S34 157 (xsC G33<|xsN)<| .fin (sOp S35 (oFa G1 5)<|sOp dN (oSt G35 G34 1)<|sNil))) (.seq (.seq (.rg (.fin (sOp S36 (oFa G1 5)<|sOp S37 (oLd1 G36)<|sOp S38 (oLenl G37)<|vM S39 q0<|sNil))) (.blk 2 (.loop (.seq (.rg (.fin (sOp S40 (oLt 3 G39 G38)<|sNil))) (.seq (.cond G40 (.skip) (.exit 2)) (.bad)))))) (.seq (.rg (.fin (sOp S55 (oFa G1 6)<|sOp dN (oSt G55 (xC .ns) 1)<|sNil))) (.seq (.rg (.fin (sOp S56 (oLd G1 7)<|sOp dN (oSt G2 G56 7)<|sNil))) (.ret))))))))) (r1 (.c 2 7))
def nc80:AFn:=.mk (.seq (.rg (.fin (sOp S4 (oAl [.ns] 1)<|vM S5 q0<|sOp S6 (oMv (xC (.b false)))<|sNil))) (.seq (.seq (.rg (.fin (vM S9 G1<|sOp S10 (oSQ false G9 (xC (.s [])))<|sNil))) (.cond G10 (.seq (.rg (.fin (vM S11 G0<|sOp S12 (oNc G11)<|sOp S13 (oFa G12 2)<|sOp S14 (oFa G13 3)<|sOp S15 (oLd G14 1)<|vM S16 G0<|sOp S17 (oNc G16)<|sOp S18 (oFa G17 2)<|sOp S19 (oFa G18 1)<|sOp S20 (oLd1 G19)<|vM S21 G0<|sOp S22 (oNc G21)<|sOp S23 (oFa G22 2)<|sOp S24 (oFa G23 0)<|sOp S25 (oLd1 G24)<|sOp S26 (oShr 3 G20 G25)<|sOp dN (oSt G4 G15 1)<|sAg gN G20 (oLd1 G19)<|sAg gN G25 (oLd1 G24)<|vM S5 G26<|sOp S6 (oMv (xC (.b true)))<|sNil))) (.ret)) (.skip))) (.bad))) (dRs [.c 4 1,.t 5,.t 6])
def nc81:AFn:=.mk (.seq (.rg (.fin (sOp S2 (oBx G0)<|sOp S4 (oAl [(.i 3 (.ofNat 0)),(.i 3 (.ofNat 0)),(.i 3 (.ofNat 0)),(.i 3 (.ofNat 0)),(.i 6 (.ofNat 0))] 5)<|sNil))) (.seq (.seq (.rg (.fin (vM S6 G1<|sOp S7 (oLt 3 G6 q0)<|vM S8 G7<|sOpG (gG G8 false) S9 (oMv G1)<|sOpG (gG G8 false) S10 (oAr arQuo 3 G9 q8)<|sOpG (gG G8 false) S11 (oFa G2 0)<|sOpG (gG G8 false) S12 (oLd1 G11)<|sOpG (gG G8 false) S13 (oLenl G12)<|sOpG (gG G8 false) S14 (oGe 3 G10 G13)<|sOp S15 (oPick G8 (xC (.b true)) G14)<|sNil))) (.cond G15 (.seq (.rg (.fin (sOp S16 (oBld [(.i 3 (.ofNat 0)),(.i 3 (.ofNat 0)),(.i 3 (.ofNat 0)),(.i 3 (.ofNat 0)),(.i 6 (.ofNat 0))] pNil)<|sOp dN (oSt G4 G16 5)<|sNil))) (.ret)) (.skip))) (.bad))) (r1 (.c 4 5))
def nc82:AFn:=.mk (.seq (.rg (.fin (sOp S3 (oBx G1)<|sOp S4 (oMv (xC .ns))<|vM S5 q0<|sNil))) (.seq (.seq (.rg (.fin (sOp S10 (oFa G3 0)<|sOp S11 (oLd1 G10)<|sOp S12 (oEq false 3 G11 q0)<|vM S13 G12<|sOpG (gG G13 false) S14 (oFa G3 0)<|sOpG (gG G13 false) S15 (oLd1 G14)<|sOpG (gG G13 false) S16 (oEq false 3 G15 q1)<|sOp S17 (oPick G13 (xC (.b true)) G16)<|sNil))) (.cond G17 (.seq (.rg (.fin (vM S18 G0<|sOp S19 (oNc G18)<|sOp S20 (oFa G19 2)<|sOp S21 (oFa G20 0)<|sOp S22 (oLd1 G21)<|sOp S23 (oShl 3 q16 G22)<|sOp S24 (oMks G23 G23 1 [(.i 4 (.ofNat 0))] 1)<|vM S4 G24<|vM S5 q0<|sNil))) (.ret)) (.skip))) (.bad))) (dRs [.t 4,.t 5])
def nc83:AFn:=.mk (.seq (.rg (.fin (sOp S2 (oMv (xC .ns))<|sNil))) (.seq (.seq (.rg (.fin (vM S3 G0<|sOp S4 (oEqn false 1 G3 (xC .ns))<|sNil))) (.cond G4 (.bad) (.skip))) (.seq (.rg (.fin (sOp S5 (oBsl [] 0 0 pNil)<|vM S6 G0<|sOp S7 (oApn G5 G6 16 16)<|vM S2 G7<|sNil))) (.ret)))) (r1 (.t 2))
def nc84:AFn:=.mk (.seq (.rg (.fin (sOp S2 (oMv (xC (.b false)))<|sNil))) (.seq (.seq (.rg (.fin (vM S5 G0<|sOp S6 (oSQ false G5 (xC (.s [])))<|vM S7 G6<|sOpG (gG G7 false) S8 (oMv G0)<|sOpG (gG G7 false) S9 (oLens G8)<|sOpG (gG G7 false) S10 (oGt 3 G9 q16)<|sOp S11 (oPick G7 (xC (.b true)) G10)<|sNil))) (.cond G11 (.bad) (.skip))) (.seq (.seq (.rg (.fin (vM S3 q0<|sNil))) (.blk 0 (.loop (.seq (.seq (.rg (.fin (vM S12 G3<|vM S13 G0<|sOp S14 (oLens G13)<|sOp S15 (oLt 3 G12 G14)<|sNil))) (.cond G15 (.skip) (.exit 0))) (.seq (.blk 1 (.seq (.rg (.fin (vM S18 G0<|vM S19 G3<|sOp S20 (oIxs G18 G19)<|vM S4 G20<|sNil))) (.seq (.rg (.fin (vM S21 G4<|sOp S22 (oGe 4 G21 (xC (.i 4 (.ofNat 97))))<|vM S23 G22<|sOpG (gG G23 true) S24 (oMv G4)<|sOpG (gG G23 true) S25 (oLe 4 G24 (xC (.i 4 (.ofNat 122))))<|sOp S26 (oPick G23 G25 (xC (.b false)))<|vM S27 G26<|sOpG (gG G27 false) S28 (oMv G4)<|sOpG (gG G27 false) S29 (oGe 4 G28 (xC (.i 4 (.ofNat 48))))<|sOpG (gG G27 false) S30 (oMv G29)<|sOpG (gG G30 true) S31 (oMv G4)<|sOpG (gG G30 true) S32 (oLe 4 G31 (xC (.i 4 (.ofNat 57))))<|sOpG (gG G27 false) S33 (oPick G30 G32 (xC (.b false)))<|sOp S34 (oPick G27 (xC (.b true)) G33)<|vM S35 G34<|sOpG (gG G35 false) S36 (oMv G4)<|sOpG (gG G35 false) S37 (oEq false 4 G36 (xC (.i 4 (.ofNat 45))))<|sOp S38 (oPick G35 (xC (.b true)) G37)<|vM S39 G38<|sOpG (gG G39 false) S40 (oMv G4)<|sOpG (gG G39 false) S41 (oEq false 4 G40 (xC (.i 4 (.ofNat 95))))<|sOp S42 (oPick G39 (xC (.b true)) G41)<|vM S43 G42<|sOpG (gG G43 false) S44 (oMv G4)<|sOpG (gG G43 false) S45 (oEq false 4 G44 (xC (.i 4 (.ofNat 46))))<|sOp S46 (oPick G43 (xC (.b true)) G45)<|sOp S47 (oNt G46)<|sNil))) (.cond G47 (.bad) (.skip))))) (.rg (.fin (vM S16 G3<|sOp S17 (oAr arAdd 3 G16 q1)<|vM S3 G17<|sNil)))))))) (.seq (.rg (.fin (sOp S2 (oMv (xC (.b true)))<|sNil))) (.ret))))) (r1 (.t 2))
def nc89:AFn:=.mk (.seq (.rg (.fin (sOp S2 (oBx G0)<|sOp S4 (oAl [.ns] 1)<|sNil))) (.seq (.seq (.rg (.fin (vM S6 G1<|sOp S7 (oMm true (xsC G6<|xsC q0<|xsN))<|vM S5 G7<|sNil))) (.blk 0 (.loop (.seq (.seq (.rg (.fin (vM S8 G5<|sOp S9 (oFa G2 0)<|sOp S10 (oLd1 G9)<|sOp S11 (oLenl G10)<|sOp S12 (oAr arMul 3 G11 q8)<|sOp S13 (oMm false (xsC G12<|xsC q4096<|xsN))<|sOp S14 (oLt 3 G8 G13)<|sNil))) (.cond G14 (.skip) (.exit 0))) (.bad))))) (.seq (.rg (.call (sOp S26 (oLd G2 1)<|sNil) gN S27 167 (xsC G26<|xsN)<| .fin (sOp dN (oSt G4 G27 1)<|sNil))) (.ret)))) (r1 (.c 4 1))
def nc92:AFn:=.mk (.seq (.rg (.fin (sOp S2 (oMv (xC .np))<|sNil))) (.seq (.rg (.call (sNil) gN S16 13 (xsC (xC (.i 3 (.ofNat 262144)))<|xsN)<| .fin (vM S15 G16<|sOp S17 (oExt G15 0)<|sOp S18 (oExt G15 1)<|vM S3 G17<|vM S4 G18<|sNil))) (.seq (.rg (.fin (vM S19 G3<|sOp S20 (oBld [.ns,.ns] pNil)<|sOp S21 (oBx G20)<|sOp S22 (oBld [.np,.ns,.np] (pPt 0 1 G19<|pPt 2 1 G21<|pNil))<|sOp S23 (oBx G22)<|vM S5 G23<|sNil))) (.seq (.seq (.rg (.fin (vM S6 q0<|sNil))) (.blk 0 (.loop (.seq (.seq (.rg (.fin (vM S24 G6<|vM S25 G0<|sOp S26 (oLenl G25)<|sOp S27 (oLt 3 G24 G26)<|sNil))) (.cond G27 (.skip) (.exit 0))) (.seq (.blk 1 (.seq (.rg (.fin (vM S30 G0<|vM S31 G6<|sOp S32 (oIas G30 G31 3)<|sOp S33 (oFa G32 0)<|sOp S34 (oLd1 G33)<|sOp S35 (oCvi 3 G34)<|sOp S36 (oRem 3 G35 (xC (.i 3 (.ofNat 5))))<|vM S7 G36<|sNil))) (.seq (.rg (.fin (vM S37 G0<|vM S38 G6<|sOp S39 (oIas G37 G38 3)<|sOp S40 (oFa G39 1)<|sOp S41 (oLd1 G40)<|sOp S42 (oCvi 3 G41)<|sOp S43 (oRem 3 G42 (xC (.i 3 (.ofNat 65))))<|vM S44 G7<|sOp S45 (oCvi 7 G44)<|sOp S46 (oShr 3 G43 G45)<|vM S47 G7<|sOp S48 (oCvi 7 G47)<|sOp S49 (oShl 3 G46 G48)<|vM S8 G49<|sNil))) (.seq (.rg (.fin (sOp S9 (oMv (xC (.s [])))<|sNil))) (.seq (.seq (.rg (.fin (vM S50 G6<|sOp S51 (oGt 3 G50 q0)<|sNil))) (.cond G51 (.bad) (.skip))) (.seq (.rg (.call (vM S65 G3<|vM S66 G6<|sNil) gN S67 174 (xsC G66<|xsN)<| .call (vM S68 G7<|vM S69 G8<|vM S70 G9<|sNil) gN S71 26 (xsC G65<|xsC G67<|xsC G68<|xsC G69<|xsC G70<|xsN)<| .fin (vM S64 G71<|sOp S72 (oExt G64 0)<|sOp S73 (oExt G64 1)<|vM S10 G72<|vM S11 G73<|sNil))) (.seq (.rg (.call (vM S75 G5<|sOp S76 (oNc G75)<|sOp S77 (oFa G76 2)<|sOp S78 (oLd1 G77)<|vM S79 G6<|vM S81 G7<|vM S82 G8<|vM S83 G9<|sOp S12 (oAl [(.i 3 (.ofNat 0)),.ns,.ns,.ns,(.i 3 (.ofNat 0)),(.i 3 (.ofNat 0))] 6)<|sNil) gN S80 174 (xsC G79<|xsN)<| .call (sAg gN G78 (oLd1 G77)<|sOp S84 (oBld [(.i 3 (.ofNat 0)),(.s []),(.s []),(.i 3 (.ofNat 0)),(.i 3 (.ofNat 0)),(.i 3 (.ofNat 0)),.ns] (pPt 0 1 q1<|pPt 1 1 G80<|pPt 4 1 G81<|pPt 5 1 G82<|pPt 2 1 G83<|pNil))<|sNil) gN S85 175 (xsC G78<|xsC G84<|xsN)<| .fin (vM S74 G85<|sOp S86 (oExt G74 0)<|sOp S87 (oExt G74 1)<|sOp dN (oSt G12 G86 6)<|vM S13 G87<|sNil))) (.seq (.seq (.rg (.call (vM S88 G11<|sNil) gN S89 43 (xsC G88<|xsN)<| .fin (sOp S90 (oEq true 3 G89 q0)<|vM S91 G90<|sOpG (gG G91 false) S92 (oMv G10)<|sOpG (gG G91 false) S93 (oEqn false 0 G92 (xC .np))<|sOp S94 (oPick G91 (xC (.b true)) G93)<|vM S95 G94<|sOpG (gG G95 false) S96 (oFa G12 0)<|sOpG (gG G95 false) S97 (oLd1 G96)<|sOpG (gG G95 false) S98 (oEq true 3 G97 q0)<|sOp S99 (oPick G95 (xC (.b true)) G98)<|sNil))) (.cond G99 (.bad) (.skip))) (.seq (.rg (.fin (vM S100 G5<|vM S101 G10<|sOp S102 (oBsl [.np] 1 1 (pPt 0 1 G101<|pNil))<|vM S103 G5<|sOp S104 (oNc G103)<|sOp S105 (oFa G104 1)<|sOp S106 (oLd1 G105)<|sOp S107 (oApn G102 G106 1 8)<|sOp S108 (oNc G100)<|sOp S109 (oFa G108 1)<|sOp dN (oSt G109 G107 1)<|sNil))) (.seq (.rg (.fin (vM S14 q0<|sNil))) (.blk 2 (.loop (.seq (.seq (.rg (.fin (vM S110 G14<|vM S111 G0<|vM S112 G6<|sOp S113 (oIas G111 G112 3)<|sOp S114 (oFa G113 2)<|sOp S115 (oLd1 G114)<|sOp S116 (oLenl G115)<|sOp S117 (oLt 3 G110 G116)<|sNil))) (.cond G117 (.skip) (.exit 2))) (.bad)))))))))))))) (.rg (.fin (vM S28 G6<|sOp S29 (oAr arAdd 3 G28 q1)<|vM S6 G29<|sNil)))))))) (.seq (.rg (.fin (vM S131 G5<|vM S2 G131<|sNil))) (.ret)))))) (r1 (.t 2))
def nc94:AFn:=.mk (.seq (.rg (.fin (sOp S4 (oMv (xC (.s [])))<|sOp S5 (oMv (xC (.b false)))<|sNil))) (.seq (.seq (.rg (.fin (vM S6 q0<|sNil))) (.blk 0 (.loop (.seq (.seq (.rg (.fin (vM S7 G6<|vM S8 G0<|sOp S9 (oLenl G8)<|sOp S10 (oLt 3 G7 G9)<|sNil))) (.cond G10 (.skip) (.bad))) (.seq (.blk 1 (.seq (.rg (.fin (vM S13 G0<|vM S14 G6<|sOp S15 (oIas G13 G14 2)<|sOp S16 (oFa G15 0)<|sOp S17 (oLd1 G16)<|vM S18 G1<|sOp S19 (oSQ false G17 G18)<|sNil))) (.cond G19 (.seq (.rg (.fin (vM S20 G0<|vM S21 G6<|sOp S22 (oIas G20 G21 2)<|sOp S23 (oFa G22 1)<|sOp S24 (oLd1 G23)<|vM S4 G24<|sOp S5 (oMv (xC (.b true)))<|sNil))) (.ret)) (.skip)))) (.bad)))))) (.bad))) (dRs [.t 4,.t 5])
def nc95:AFn:=.mk (.seq (.rg (.fin (sOp S2 (oAl [(.b false),(.i 3 (.ofNat 0)),.ns] 3)<|vM S3 q0<|sNil))) (.seq (.seq (.rg (.fin (vM S11 G0<|sOp S12 (oLenl G11)<|sOp S13 (oLt 3 G12 (xC (.i 3 (.ofNat 13))))<|vM S14 G13<|sOpG (gG G14 false) S15 (oMv G0)<|sOpG (gG G14 false) S16 (oLenl G15)<|sOpG (gG G14 false) S17 (oGt 3 G16 (xC (.i 3 (.ofNat 262144))))<|sOp S18 (oPick G14 (xC (.b true)) G17)<|vM S19 G18<|sOpG (gG G19 false) S20 (oMv G0)<|sOpG (gG G19 false) S21 (oSlc G20 bNo (bX q4) bNo true 1)<|sOpG (gG G19 false) S22 (oB2s G21)<|sOpG (gG G19 false) S23 (oSQ true G22 (xC (.s [77,84,82,75])))<|sOp S24 (oPick G19 (xC (.b true)) G23)<|vM S25 G24<|sOpG (gG G25 false) S26 (oMv G0)<|sOpG (gG G25 false) S27 (oIas G26 q4 1)<|sOpG (gG G25 false) S28 (oLd1 G27)<|sOpG (gG G25 false) S29 (oGt 4 G28 (xC (.i 4 (.ofNat 1))))<|sOp S30 (oPick G25 (xC (.b true)) G29)<|sNil))) (.cond G30 (.bad) (.skip))) (.seq (.rg (.call (vM S32 G0<|sOp S33 (oIas G32 q4 1)<|sOp S34 (oLd1 G33)<|sOp S35 (oEq false 4 G34 (xC (.i 4 (.ofNat 1))))<|vM S36 G0<|sOp S4 (oAl [(.b false),(.i 3 (.ofNat 0)),.ns] 3)<|sNil) gN S37 178 (xsC G36<|xsC (xC (.i 3 (.ofNat 5)))<|xsC q2<|xsN)<| .fin (sAg gN G34 (oLd1 G33)<|sOp S38 (oBld [(.b false),(.i 3 (.ofNat 0)),.ns] (pPt 0 1 G35<|pPt 1 1 G37<|pNil))<|sOp dN (oSt G4 G38 3)<|sNil))) (.seq (.rg (.call (vM S39 G0<|sNil) gN S40 178 (xsC G39<|xsC (xC (.i 3 (.ofNat 7)))<|xsC q2<|xsN)<| .fin (vM S5 G40<|sNil))) (.seq (.rg (.fin (sOp S6 (oMv (xC (.i 3 (.ofNat 9))))<|sNil))) (.seq (.rg (.fin (sOp S7 (oMv (xC (.b true)))<|sNil))) (.seq (.seq (.rg (.fin (vM S8 q0<|sNil))) (.blk 0 (.loop (.seq (.seq (.rg (.fin (vM S41 G8<|vM S42 G5<|sOp S43 (oLt 3 G41 G42)<|sNil))) (.cond G43 (.skip) (.exit 0))) (.bad))))) (.seq (.seq (.rg (.call (vM S103 G0<|sOp S104 (oLenl G103)<|vM S105 G6<|sOp S106 (oAr arSub 3 G104 G105)<|sOp S107 (oEq true 3 G106 q4)<|vM S108 G107<|sOpG (gG G108 false) S109 (oLd G4 3)<|sNil) (gG G108 false) S110 98 (xsC G109<|xsN)<| .fin (sOpG (gG G108 false) S111 (oNt G110)<|sOp S112 (oPick G108 (xC (.b true)) G111)<|sNil))) (.cond G112 (.bad) (.skip))) (.seq (.seq (.rg (.call (vM S114 G7<|sOp S115 (oNt G114)<|vM S116 G115<|sOpG (gG G116 false) S117 (oMv G0)<|sOpG (gG G116 false) S118 (oMv G6)<|sOpG (gG G116 false) S120 (oMv G0)<|sOpG (gG G116 false) S121 (oMv G6)<|sOpG (gG G116 false) S122 (oSlr G120 bNo (bX G121) bNo true 1)<|sNil) (gG G116 false) S119 178 (xsC G117<|xsC G118<|xsC q4<|xsN)<| .call (sAg (gG G116 false) G122 (oSlr G120 bNo (bX G121) bNo true 1)<|sNil) (gG G116 false) S123 143 (xsC G122<|xsN)<| .fin (sOpG (gG G116 false) S124 (oCvi 3 G123)<|sOpG (gG G116 false) S125 (oEq true 3 G119 G124)<|sOp S126 (oPick G116 (xC (.b true)) G125)<|sNil))) (.cond G126 (.bad) (.skip))) (.seq (.rg (.fin (sOp S128 (oLd G4 3)<|sOp dN (oSt G2 G128 3)<|vM S3 q0<|sNil))) (.ret))))))))))) (dRs [.c 2 3,.t 3])
def nc96:AFn:=.mk (.seq (.rg (.fin (sOp S1 (oBx G0)<|sOp S2 (oMv (xC (.b false)))<|sNil))) (.seq (.seq (.rg (.fin (sOp S7 (oFa G1 1)<|sOp S8 (oLd1 G7)<|sOp S9 (oLt 3 G8 q0)<|vM S10 G9<|sOpG (gG G10 false) S11 (oFa G1 1)<|sOpG (gG G10 false) S12 (oLd1 G11)<|sOpG (gG G10 false) S13 (oGt 3 G12 q4096)<|sOp S14 (oPick G10 (xC (.b true)) G13)<|sNil))) (.cond G14 (.bad) (.skip))) (.seq (.rg (.fin (vM S3 q0<|sNil))) (.seq (.seq (.rg (.fin (sOp S15 (oFa G1 2)<|sOp S16 (oLd1 G15)<|sOp S17 (oLenl G16)<|vM S18 q0<|sNil))) (.blk 0 (.loop (.seq (.rg (.fin (sOp S19 (oLt 3 G18 G17)<|sNil))) (.seq (.cond G19 (.skip) (.exit 0)) (.bad)))))) (.seq (.rg (.fin (sOp S2 (oMv (xC (.b true)))<|sNil))) (.ret)))))) (r1 (.t 2))
def nc98:AFn:=.mk (.seq (.rg (.fin (sOp S1 (oBx G0)<|sOp S2 (oMv (xC (.b false)))<|sNil))) (.seq (.seq (.rg (.fin (sOp S7 (oFa G1 1)<|sOp S8 (oLd1 G7)<|sOp S9 (oLt 3 G8 q0)<|vM S10 G9<|sOpG (gG G10 false) S11 (oFa G1 1)<|sOpG (gG G10 false) S12 (oLd1 G11)<|sOpG (gG G10 false) S13 (oGt 3 G12 q4096)<|sOp S14 (oPick G10 (xC (.b true)) G13)<|sNil))) (.cond G14 (.bad) (.skip))) (.seq (.rg (.fin (vM S3 q0<|sNil))) (.seq (.seq (.rg (.fin (vM S4 q0<|sNil))) (.blk 0 (.loop (.seq (.seq (.rg (.fin (vM S15 G4<|sOp S16 (oFa G1 2)<|sOp S17 (oLd1 G16)<|sOp S18 (oLenl G17)<|sOp S19 (oLt 3 G15 G18)<|sNil))) (.cond G19 (.skip) (.exit 0))) (.bad))))) (.seq (.rg (.fin (sOp S2 (oMv (xC (.b true)))<|sNil))) (.ret)))))) (r1 (.t 2))
def nc99:AFn:=.mk (.seq (.rg (.fin (vM S4 q0<|vM S5 q0<|sOp S6 (oMv (xC (.b false)))<|sNil))) (.seq (.seq (.rg (.fin (vM S9 G0<|sOp S10 (oEqn false 0 G9 (xC .np))<|sNil))) (.cond G10 (.bad) (.skip))) (.seq (.rg (.call (vM S12 G0<|vM S13 G1<|sNil) gN S14 80 (xsC G12<|xsC G13<|xsN)<| .fin (vM S11 G14<|sOp S15 (oExt G11 0)<|sOp S16 (oExt G11 1)<|sOp S17 (oExt G11 2)<|sOp S7 (oAl [.ns] 1)<|sOp dN (oSt G7 G15 1)<|vM S8 G16<|vM S6 G17<|sNil))) (.seq (.rg (.fin (vM S18 G8<|vM S19 G0<|sOp S20 (oNc G19)<|sOp S21 (oFa G20 2)<|sOp S22 (oFa G21 0)<|sOp S23 (oLd1 G22)<|sOp S24 (oShl 3 G18 G23)<|vM S25 G0<|sOp S26 (oNc G25)<|sOp S27 (oFa G26 2)<|sOp S28 (oFa G27 0)<|sOp S29 (oLd1 G28)<|vM S30 G6<|vM S4 G24<|vM S5 G29<|vM S6 G30<|sNil))) (.ret))))) (dRs [.t 4,.t 5,.t 6])
def nc100:AFn:=.mk (.seq (.rg (.fin (sOp S3 (oBx G1)<|sOp S4 (oAl [(.s []),(.b false),.ns] 3)<|sOp S5 (oMv (xC (.b false)))<|sNil))) (.seq (.rg (.call (vM S8 G0<|sNil) gN S9 34 (xsC G8<|xsN)<| .fin (sOp S10 (oFl1 G9 5)<|vM S6 G10<|sNil))) (.seq (.rg (.call (vM S11 G6<|sOp S12 (oMkf 180 (xsC G3<|xsN))<|sNil) gN S13 179 (xsC G11<|xsC G12<|xsN)<| .fin (vM S7 G13<|sNil))) (.seq (.seq (.rg (.fin (vM S14 G7<|sOp S15 (oLt 3 G14 q0)<|sNil))) (.cond G15 (.seq (.rg (.fin (sOp S16 (oBld [(.s []),(.b false),.ns] pNil)<|sOp dN (oSt G4 G16 3)<|sOp S5 (oMv (xC (.b false)))<|sNil))) (.ret)) (.skip))) (.bad))))) (dRs [.c 4 3,.t 5])
def nc101:AFn:=.mk (.seq (.rg (.fin (sOp S2 (oBx G0)<|sOp S3 (oBx G1)<|sOp S4 (oMv (xC .nf))<|sNil))) (.seq (.rg (.fin (sOp S5 (oMkf 181 (xsC G2<|xsC G3<|xsN))<|vM S4 G5<|sNil))) (.ret))) (r1 (.t 4))
def nc102:AFn:=.mk (.seq (.rg (.fin (sOp S4 (oMv (xC (.b false)))<|sNil))) (.seq (.rg (.call (sOp S5 (oLd1 G1)<|vM S6 G5<|sOpG (gG G6 false) S7 (oFa G2 2)<|sOpG (gG G6 false) S8 (oLd1 G7)<|sOpG (gG G6 false) S9 (oMv G0)<|sNil) (gG G6 false) S10 103 (xsC G8<|xsC G9<|xsN)<| .fin (sOp S11 (oPick G6 (xC (.b true)) G10)<|vM S4 G11<|sNil))) (.ret))) (r1 (.t 4))
def nc104:AFn:=.mk (.seq (.rg (.fin (sOp S6 (oMv (xC .ns))<|vM S7 q0<|sNil))) (.seq (.seq (.rg (.fin (vM S11 G0<|sOp S12 (oLenl G11)<|sOp S13 (oEq false 3 G12 q0)<|sNil))) (.cond G13 (.bad) (.skip))) (.seq (.rg (.call (vM S15 G0<|sOp S16 (oIas G15 q0 1)<|sOp S17 (oLd1 G16)<|vM S18 G1<|sNil) gN S19 99 (xsC G17<|xsC G18<|xsN)<| .fin (vM S14 G19<|sOp S20 (oExt G14 0)<|sOp S21 (oExt G14 1)<|sOp S22 (oExt G14 2)<|vM S8 G20<|vM S9 G21<|vM S10 G22<|sNil))) (.seq (.blk 0 (.seq (.rg (.fin (vM S24 G10<|sOp S25 (oNt G24)<|vM S23 G25<|sNil))) (.cond G23 (.bad) (.seq (.seq (.rg (.fin (vM S27 G2<|sOp S28 (oLt 3 G27 q0)<|vM S26 G28<|sNil))) (.cond G26 (.skip) (.rg (.fin (vM S29 G2<|vM S30 G8<|vM S31 G9<|sOp S32 (oShr 3 G30 G31)<|sOp S33 (oGe 3 G29 G32)<|vM S26 G33<|sNil))))) (.cond G26 (.bad) (.skip)))))) (.seq (.rg (.call (vM S34 G0<|vM S35 G1<|vM S36 G2<|vM S37 G9<|sOp S38 (oShl 3 G36 G37)<|vM S39 G9<|sOp S40 (oShl 3 q1 G39)<|sNil) gN S41 108 (xsC G34<|xsC G35<|xsC G38<|xsC G40<|xsN)<| .fin (sOp S42 (oExt G41 0)<|sOp S43 (oExt G41 1)<|vM S6 G42<|vM S7 G43<|sNil))) (.ret)))))) (dRs [.t 6,.t 7])
def nc105:AFn:=.mk (.seq (.rg (.fin (sOp S2 (oMv (xC (.b false)))<|sNil))) (.seq (.rg (.call (vM S3 G0<|sNil) gN S4 183 (xsC G3<|xsC (xC (.fn 184 []))<|xsN)<| .fin (sOp S5 (oNt G4)<|vM S2 G5<|sNil))) (.ret))) (r1 (.t 2))
def nc106:AFn:=.mk (.seq (.rg (.fin (sOp S1 (oBx G0)<|sOp S2 (oMv (xC .ns))<|vM S3 q0<|sNil))) (.seq (.seq (.rg (.call (sOp S8 (oLd G1 3)<|sNil) gN S9 96 (xsC G8<|xsN)<| .fin (sOp S10 (oNt G9)<|sNil))) (.cond G10 (.bad) (.skip))) (.seq (.rg (.fin (sOp S11 (oBld [.ns,(.i 6 (.ofNat 0))] pNil)<|sOp S12 (oBx G11)<|vM S4 G12<|sNil))) (.seq (.rg (.call (vM S13 G4<|sOp S14 (oBsl [(.i 4 (.ofNat 0)),(.i 4 (.ofNat 0)),(.i 4 (.ofNat 0)),(.i 4 (.ofNat 0))] 4 4 (pPt 0 1 (xC (.i 4 (.ofNat 77)))<|pPt 1 1 (xC (.i 4 (.ofNat 84)))<|pPt 2 1 (xC (.i 4 (.ofNat 82)))<|pPt 3 1 (xC (.i 4 (.ofNat 75)))<|pNil))<|sOp S15 (oMsh G14)<|sNil) gN S16 185 (xsC G13<|xsC G15<|xsN)<| .fin (sNil))) (.seq (.rg (.fin (vM S5 q0<|sNil))) (.seq (.seq (.rg (.fin (sOp S17 (oFa G1 0)<|sOp S18 (oLd1 G17)<|sNil))) (.cond G18 (.rg (.fin (vM S5 q1<|sNil))) (.skip))) (.seq (.rg (.call (vM S19 G4<|vM S20 G5<|sNil) gN S21 186 (xsC G19<|xsC q1<|xsC G20<|xsN)<| .fin (sNil))) (.seq (.rg (.call (vM S22 G4<|sOp S23 (oFa G1 1)<|sOp S24 (oLd1 G23)<|sNil) gN S25 186 (xsC G22<|xsC q2<|xsC G24<|xsN)<| .fin (sNil))) (.seq (.rg (.call (vM S26 G4<|sOp S27 (oFa G1 2)<|sOp S28 (oLd1 G27)<|sOp S29 (oLenl G28)<|sNil) gN S30 186 (xsC G26<|xsC q2<|xsC G29<|xsN)<| .fin (sNil))) (.seq (.seq (.rg (.fin (sOp S31 (oFa G1 2)<|sOp S32 (oLd1 G31)<|sOp S33 (oLenl G32)<|vM S34 q0<|sNil))) (.blk 0 (.loop (.seq (.rg (.fin (sOp S35 (oLt 3 G34 G33)<|sNil))) (.seq (.cond G35 (.skip) (.exit 0)) (.bad)))))) (.seq (.rg (.call (vM S59 G4<|vM S60 G4<|sOp S61 (oNc G60)<|sOp S62 (oFa G61 1)<|sOp S63 (oLd1 G62)<|sOp S64 (oCvi 3 G63)<|sNil) gN S65 186 (xsC G59<|xsC q4<|xsC G64<|xsN)<| .fin (sNil))) (.seq (.seq (.rg (.fin (vM S66 G4<|sOp S67 (oNc G66)<|sOp S68 (oFa G67 0)<|sOp S69 (oLd1 G68)<|sOp S70 (oLenl G69)<|sOp S71 (oGt 3 G70 (xC (.i 3 (.ofNat 262144))))<|sNil))) (.cond G71 (.bad) (.skip))) (.seq (.rg (.fin (vM S72 G4<|sOp S73 (oNc G72)<|sOp S74 (oFa G73 0)<|sOp S75 (oLd1 G74)<|vM S2 G75<|vM S3 q0<|sNil))) (.ret)))))))))))))) (dRs [.t 2,.t 3])
def nc108:AFn:=.mk (.seq (.rg (.fin (sOp S8 (oMv (xC .ns))<|vM S9 q0<|sNil))) (.seq (.seq (.rg (.fin (vM S22 G0<|sOp S23 (oLenl G22)<|sOp S24 (oEq false 3 G23 q0)<|sNil))) (.cond G24 (.bad) (.skip))) (.seq (.rg (.call (vM S26 G0<|sOp S27 (oIas G26 q0 1)<|sOp S28 (oLd1 G27)<|vM S29 G1<|sNil) gN S30 99 (xsC G28<|xsC G29<|xsN)<| .fin (vM S25 G30<|sOp S31 (oExt G25 0)<|sOp S32 (oExt G25 1)<|sOp S33 (oExt G25 2)<|vM S10 G31<|vM S11 G32<|vM S12 G33<|sNil))) (.seq (.blk 0 (.seq (.rg (.fin (vM S35 G12<|sOp S36 (oNt G35)<|vM S34 G36<|sNil))) (.cond G34 (.bad) (.seq (.seq (.rg (.fin (vM S38 G2<|sOp S39 (oLt 3 G38 q0)<|vM S37 G39<|sNil))) (.cond G37 (.skip) (.seq (.rg (.fin (vM S40 G3<|sOp S41 (oLt 3 G40 q0)<|vM S37 G41<|sNil))) (.cond G37 (.skip) (.seq (.rg (.fin (vM S42 G2<|vM S43 G10<|sOp S44 (oGt 3 G42 G43)<|vM S37 G44<|sNil))) (.cond G37 (.skip) (.rg (.fin (vM S45 G3<|vM S46 G10<|vM S47 G2<|sOp S48 (oAr arSub 3 G46 G47)<|sOp S49 (oGt 3 G45 G48)<|vM S37 G49<|sNil))))))))) (.cond G37 (.bad) (.skip)))))) (.seq (.rg (.call (vM S51 G2<|vM S52 G3<|vM S53 G11<|sNil) gN S54 188 (xsC G51<|xsC G52<|xsC G53<|xsN)<| .fin (vM S50 G54<|sOp S55 (oExt G50 0)<|sOp S56 (oExt G50 1)<|vM S13 G55<|vM S14 G56<|sNil))) (.seq (.rg (.fin (sOp S15 (oMv (xC .ns))<|sNil))) (.seq (.seq (.rg (.fin (vM S57 G13<|sOp S58 (oLenl G57)<|vM S59 q0<|sNil))) (.blk 1 (.loop (.seq (.rg (.fin (sOp S60 (oLt 3 G59 G58)<|sNil))) (.seq (.cond G60 (.skip) (.exit 1)) (.seq (.blk 2 (.seq (.rg (.fin (sOp S61 (oIas G57 G59 3)<|sOp S62 (oLd G61 3)<|sOp S17 (oAl [(.i 3 (.ofNat 0)),(.i 3 (.ofNat 0)),(.i 3 (.ofNat 0))] 3)<|sOp dN (oSt G17 G62 3)<|sNil))) (.seq (.rg (.call (vM S64 G0<|sOp S65 (oIas G64 q0 1)<|sOp S66 (oLd1 G65)<|vM S67 G1<|sOp S68 (oFa G17 0)<|sOp S69 (oLd1 G68)<|sNil) gN S70 33 (xsC G66<|xsC G67<|xsC G69<|xsN)<| .fin (vM S63 G70<|sOp S71 (oExt G63 0)<|sOp S72 (oExt G63 1)<|sOp S73 (oExt G63 2)<|vM S18 G71<|vM S19 G72<|vM S20 G73<|sNil))) (.seq (.seq (.rg (.fin (vM S74 G20<|sOp S75 (oEq true 3 G74 q0)<|sNil))) (.cond G75 (.bad) (.skip))) (.seq (.rg (.fin (vM S77 G18<|sOp S78 (oFa G17 1)<|sOp S79 (oLd1 G78)<|sOp S80 (oAr arMul 3 G79 q16)<|sOp S81 (oFa G17 1)<|sOp S82 (oLd1 G81)<|sOp S83 (oFa G17 2)<|sOp S84 (oLd1 G83)<|sOp S85 (oAr arAdd 3 G82 G84)<|sOp S86 (oAr arMul 3 G85 q16)<|sOp S87 (oSlc G77 (bX G80) (bX G86) bNo true 1)<|vM S21 G87<|sNil))) (.seq (.seq (.rg (.fin (vM S88 G19<|sOp S89 (oEq false 3 G88 q0)<|sNil))) (.cond G89 (.rg (.call (vM S91 G0<|sOp S92 (oSlr G91 (bX q1) bNo bNo true 1)<|sOp S93 (oFa G17 0)<|sOp S94 (oLd1 G93)<|vM S95 G11<|sOp S96 (oShl 3 G94 G95)<|sOp S97 (oFa G17 1)<|sOp S98 (oLd1 G97)<|sOp S99 (oAr arAdd 3 G96 G98)<|sOp S100 (oFa G17 2)<|sOp S101 (oLd1 G100)<|sNil) gN S102 189 (xsC G92<|xsC G99<|xsC G101<|xsN)<| .fin (vM S90 G102<|sOp S103 (oExt G90 0)<|sOp S104 (oExt G90 1)<|vM S21 G103<|vM S20 G104<|sNil))) (.skip))) (.seq (.seq (.rg (.fin (vM S105 G20<|sOp S106 (oEq true 3 G105 q0)<|sNil))) (.cond G106 (.bad) (.skip))) (.rg (.fin (vM S108 G15<|vM S109 G21<|sOp S110 (oApn G108 G109 1 1)<|vM S15 G110<|sNil)))))))))) (.rg (.fin (sOp S111 (oAr arAdd 3 G59 q1)<|vM S59 G111<|sNil))))))))) (.seq (.rg (.fin (vM S112 G15<|vM S8 G112<|vM S9 q0<|sNil))) (.ret))))))))) (dRs [.t 8,.t 9])
def nc116:AFn:=.mk (.seq (.rg (.fin (vM S4 q0<|sNil))) (.seq (.rg (.call (vM S8 G0<|vM S9 G1<|sNil) gN S10 56 (xsC G8<|xsC G9<|xsN)<| .fin (vM S7 G10<|sOp S11 (oExt G7 0)<|sOp S12 (oExt G7 1)<|vM S5 G11<|vM S6 G12<|sNil))) (.seq (.seq (.rg (.fin (vM S13 G6<|sOp S14 (oEq true 3 G13 q0)<|sNil))) (.cond G14 (.bad) (.skip))) (.seq (.rg (.call (vM S16 G5<|vM S17 G5<|sOp S18 (oNc G17)<|sOp S19 (oFa G18 0)<|sOp S20 (oLd1 G19)<|sNil) gN S21 83 (xsC G20<|xsN)<| .fin (sOp S22 (oNc G16)<|sOp S23 (oFa G22 1)<|sOp dN (oSt G23 G21 1)<|sNil))) (.seq (.rg (.call (vM S24 G0<|vM S25 G1<|sNil) gN S26 55 (xsC G24<|xsC G25<|xsC q0<|xsN)<| .fin (sNil))) (.seq (.rg (.fin (vM S4 q0<|sNil))) (.ret))))))) (r1 (.t 4))
def nc118:AFn:=.mk (.seq (.rg (.fin (sOp S4 (oMv (xC .ns))<|vM S5 q0<|sNil))) (.seq (.rg (.call (vM S10 G0<|vM S11 G1<|sNil) gN S12 31 (xsC G10<|xsC G11<|xsN)<| .fin (vM S9 G12<|sOp S13 (oExt G9 0)<|sOp S14 (oExt G9 1)<|vM S6 G13<|vM S7 G14<|sNil))) (.seq (.seq (.rg (.fin (vM S15 G7<|sOp S16 (oEq true 3 G15 q0)<|sNil))) (.cond G16 (.bad) (.skip))) (.seq (.rg (.call (vM S19 G0<|vM S20 G1<|vM S21 G6<|sOp S22 (oMm false (xsC G21<|xsC q2<|xsN))<|sNil) gN S23 38 (xsC G19<|xsC G20<|xsC q0<|xsC G22<|xsN)<| .fin (vM S18 G23<|sOp S24 (oExt G18 0)<|sOp S25 (oExt G18 1)<|vM S8 G24<|vM S7 G25<|sNil))) (.seq (.blk 0 (.seq (.rg (.fin (vM S27 G7<|sOp S28 (oEq true 3 G27 q0)<|vM S26 G28<|sNil))) (.cond G26 (.bad) (.seq (.rg (.fin (vM S31 G6<|sOp S32 (oLt 3 G31 q2)<|vM S30 G32<|sNil))) (.cond G30 (.seq (.rg (.fin (sOp S4 (oMv (xC .ns))<|sOp S5 (oMv (xC (.i 3 (.ofNat 3))))<|sNil))) (.ret)) (.skip)))))) (.bad)))))) (dRs [.t 4,.t 5])
def nc119:AFn:=.mk (.seq (.rg (.fin (vM S2 q0<|sNil))) (.seq (.rg (.fin (vM S3 G0<|sOp S4 (oAr arAdd 3 G3 q16)<|sOp S5 (oAr arSub 3 G4 q1)<|sOp S6 (oAr arQuo 3 G5 q16)<|vM S2 G6<|sNil))) (.ret))) (r1 (.t 2))
def nc120:AFn:=.mk (.seq (.rg (.fin (vM S2 q0<|sOp S3 (oMv (xC .ns))<|vM S4 q0<|vM S5 q0<|sNil))) (.seq (.rg (.fin (vM S17 G0<|sOp S18 (oNc G17)<|sOp S19 (oFa G18 0)<|sOp S20 (oLd G19 7)<|sOp S6 (oAl [(.i 3 (.ofNat 0)),(.i 3 (.ofNat 0)),(.s []),.ns,.ns,.ns,.ns] 7)<|sOp dN (oSt G6 G20 7)<|sNil))) (.seq (.rg (.fin (sOp S21 (oFa G6 6)<|sOp dN (oSt G21 (xC .ns) 1)<|sNil))) (.seq (.rg (.call (sOp S23 (oLd G6 7)<|sNil) gN S24 141 (xsC G23<|xsN)<| .fin (vM S22 G24<|sOp S25 (oExt G22 0)<|sOp S26 (oExt G22 1)<|vM S7 G25<|vM S8 G26<|sNil))) (.seq (.seq (.rg (.fin (vM S27 G8<|sOp S28 (oEq true 3 G27 q0)<|sNil))) (.cond G28 (.bad) (.skip))) (.seq (.rg (.call (vM S30 G7<|sOp S31 (oLenl G30)<|sNil) gN S32 119 (xsC G31<|xsN)<| .fin (vM S9 G32<|vM S10 q0<|sNil))) (.seq (.seq (.rg (.fin (vM S11 q2<|sNil))) (.blk 0 (.loop (.seq (.seq (.rg (.fin (vM S33 G11<|sOp S34 (oLt 3 G33 q65536)<|sNil))) (.cond G34 (.skip) (.bad))) (.seq (.blk 1 (.seq (.seq (.rg (.fin (vM S37 G10<|sOp S38 (oAr arSub 3 G37 q1)<|vM S10 G38<|sNil))) (.seq (.rg (.fin (vM S39 G10<|sOp S40 (oLe 3 G39 q0)<|sNil))) (.cond G40 (.rg (.call (vM S41 G0<|vM S42 G11<|sNil) gN S43 199 (xsC G41<|xsC G42<|xsN)<| .fin (vM S10 G43<|sNil))) (.skip)))) (.seq (.seq (.rg (.fin (vM S44 G10<|vM S45 G9<|sOp S46 (oLt 3 G44 G45)<|sNil))) (.cond G46 (.bad) (.skip))) (.seq (.rg (.call (vM S53 G0<|vM S54 G11<|sNil) gN S55 200 (xsC G53<|xsC G54<|xsN)<| .fin (vM S52 G55<|sOp S56 (oExt G52 0)<|sOp S57 (oExt G52 1)<|sOp S58 (oExt G52 2)<|vM S12 G56<|vM S13 G57<|vM S14 G58<|sNil))) (.seq (.seq (.rg (.fin (vM S59 G14<|sOp S60 (oEq true 3 G59 q0)<|sNil))) (.cond G60 (.bad) (.skip))) (.seq (.rg (.call (vM S63 G0<|sOp S64 (oNc G63)<|sOp S65 (oFa G64 8)<|sOp S66 (oLd1 G65)<|vM S67 G13<|vM S68 G11<|sNil) gN S69 201 (xsC G66<|xsC G67<|xsC G68<|xsC q65536<|xsN)<| .fin (vM S62 G69<|sOp S70 (oExt G62 0)<|sOp S71 (oExt G62 1)<|vM S15 G70<|vM S16 G71<|sNil))) (.seq (.rg (.fin (vM S72 G16<|vM S73 G72<|sOpG (gG G73 true) S74 (oMv G15)<|sOpG (gG G73 true) S75 (oMv G11)<|sOpG (gG G73 true) S76 (oEq false 3 G74 G75)<|sOp S77 (oPick G73 G76 (xC (.b false)))<|sNil))) (.cond G77 (.seq (.rg (.fin (vM S78 G11<|vM S79 G12<|vM S80 G13<|vM S2 G78<|vM S3 G79<|vM S4 G80<|vM S5 q0<|sNil))) (.ret)) (.skip))))))))) (.bad)))))) (.bad)))))))) (dRs [.t 2,.t 3,.t 4,.t 5])
def nc121:AFn:=.mk (.seq (.rg (.fin (sOp S1 (oBx G0)<|sOp S2 (oMv (xC .ns))<|vM S3 q0<|sNil))) (.seq (.seq (.rg (.call (sOp S5 (oLd G1 4)<|sNil) gN S6 202 (xsC G5<|xsN)<| .fin (sOp S7 (oNt G6)<|sNil))) (.cond G7 (.bad) (.skip))) (.seq (.rg (.call (sOp S8 (oLd G1 4)<|sNil) gN S9 203 (xsC G8<|xsN)<| .fin (sOp S4 (oAl [(.i 4 (.ofNat 0)),(.i 4 (.ofNat 0)),(.i 4 (.ofNat 0)),(.i 4 (.ofNat 0)),(.i 4 (.ofNat 0)),(.i 4 (.ofNat 0)),(.i 4 (.ofNat 0)),(.i 4 (.ofNat 0)),(.i 4 (.ofNat 0)),(.i 4 (.ofNat 0)),(.i 4 (.ofNat 0)),(.i 4 (.ofNat 0)),(.i 4 (.ofNat 0)),(.i 4 (.ofNat 0)),(.i 4 (.ofNat 0)),(.i 4 (.ofNat 0))] 16)<|sOp dN (oSt G4 G9 16)<|sNil))) (.seq (.rg (.fin (sOp S10 (oSla G4 bNo bNo bNo 16 1)<|vM S2 G10<|vM S3 q0<|sNil))) (.ret))))) (dRs [.t 2,.t 3])
def nc122:AFn:=.mk (.seq (.rg (.fin (vM S5 q0<|sNil))) (.seq (.rg (.call (sOp S6 (oLd1 G0)<|sOp S7 (oLd1 G1)<|sOp S8 (oLd1 G2)<|sOp S9 (oLd1 G3)<|sOp S10 (oLd1 G4)<|sOp S11 (oAr arMul 3 G10 q16)<|sOp S12 (oLd1 G3)<|sOp S13 (oLenl G12)<|sOp S14 (oAr arSub 3 G11 G13)<|sOp S15 (oApz G9 G14 1 1 [(.i 4 (.ofNat 0))])<|sAg gN G6 (oLd1 G0)<|sAg gN G7 (oLd1 G1)<|sAg gN G8 (oLd1 G2)<|sNil) gN S16 15 (xsC G6<|xsC G7<|xsC G8<|xsC G15<|xsN)<| .fin (vM S5 G16<|sNil))) (.ret))) (r1 (.t 5))
def nc123:AFn:=.mk (.seq (.rg (.fin (vM S2 q0<|sNil))) (.seq (.rg (.call (sOp S3 (oLd1 G0)<|sOp S4 (oLd1 G1)<|sNil) gN S5 116 (xsC G3<|xsC G4<|xsN)<| .fin (vM S2 G5<|sNil))) (.ret))) (r1 (.t 2))
def nc124:AFn:=.mk (.seq (.rg (.fin (vM S4 q0<|sNil))) (.seq (.rg (.call (sOp S5 (oLd1 G0)<|sOp S6 (oLd1 G1)<|sOp S7 (oLd1 G2)<|sOp S8 (oLd1 G3)<|sNil) gN S9 15 (xsC G5<|xsC G6<|xsC G7<|xsC G8<|xsN)<| .fin (vM S4 G9<|sNil))) (.ret))) (r1 (.t 4))
def nc125:AFn:=.mk (.seq (.rg (.fin (vM S2 q0<|sNil))) (.seq (.rg (.call (sOp S3 (oLd1 G0)<|sOp S4 (oLd1 G1)<|sNil) gN S5 116 (xsC G3<|xsC G4<|xsN)<| .fin (vM S2 G5<|sNil))) (.ret))) (r1 (.t 2))
def nc126:AFn:=.mk (.seq (.rg (.fin (sOp S4 (oMv (xC .ns))<|sNil))) (.seq (.rg (.call (vM S8 G0<|vM S9 G1<|sNil) gN S10 204 (xsC G8<|xsC G9<|xsN)<| .fin (vM S5 G10<|sNil))) (.seq (.seq (.rg (.fin (vM S11 G5<|sOp S12 (oEq false 3 G11 (xC (.i 3 (.negSucc 0))))<|sNil))) (.cond G12 (.seq (.rg (.fin (vM S13 G0<|vM S4 G13<|sNil))) (.ret)) (.skip))) (.seq (.seq (.rg (.fin (vM S14 G5<|sOp S15 (oAr arAdd 3 G14 q1)<|vM S6 G15<|sNil))) (.blk 0 (.loop (.seq (.seq (.rg (.fin (vM S16 G6<|vM S17 G0<|sOp S18 (oLenl G17)<|sOp S19 (oLt 3 G16 G18)<|sNil))) (.cond G19 (.skip) (.exit 0))) (.seq (.blk 1 (.seq (.rg (.fin (vM S22 G0<|vM S23 G6<|sOp S24 (oIas G22 G23 18)<|sOp S25 (oLd G24 18)<|sOp S7 (oAl [(.s []),(.i 3 (.ofNat 0)),(.i 4 (.ofNat 0)),(.i 4 (.ofNat 0)),(.i 4 (.ofNat 0)),(.i 4 (.ofNat 0)),(.i 4 (.ofNat 0)),(.i 4 (.ofNat 0)),(.i 4 (.ofNat 0)),(.i 4 (.ofNat 0)),(.i 4 (.ofNat 0)),(.i 4 (.ofNat 0)),(.i 4 (.ofNat 0)),(.i 4 (.ofNat 0)),(.i 4 (.ofNat 0)),(.i 4 (.ofNat 0)),(.i 4 (.ofNat 0)),(.i 4 (.ofNat 0))] 18)<|sOp dN (oSt G7 G25 18)<|sNil))) (.seq (.rg (.calv (vM S26 G1<|sOp S27 (oLd G7 18)<|sNil) gN S28 G26 (xsC G27<|xsN)<| .fin (sOp S29 (oNt G28)<|sNil))) (.cond G29 (.bad) (.skip))))) (.rg (.fin (vM S20 G6<|sOp S21 (oAr arAdd 3 G20 q1)<|vM S6 G21<|sNil)))))))) (.seq (.rg (.fin (vM S36 G0<|vM S37 G5<|sOp S38 (oSlc G36 (bX G37) bNo bNo true 18)<|sOp dN (oClr G38 [(.s []),(.i 3 (.ofNat 0)),(.i 4 (.ofNat 0)),(.i 4 (.ofNat 0)),(.i 4 (.ofNat 0)),(.i 4 (.ofNat 0)),(.i 4 (.ofNat 0)),(.i 4 (.ofNat 0)),(.i 4 (.ofNat 0)),(.i 4 (.ofNat 0)),(.i 4 (.ofNat 0)),(.i 4 (.ofNat 0)),(.i 4 (.ofNat 0)),(.i 4 (.ofNat 0)),(.i 4 (.ofNat 0)),(.i 4 (.ofNat 0)),(.i 4 (.ofNat 0)),(.i 4 (.ofNat 0))])<|sNil))) (.seq (.rg (.fin (vM S39 G0<|vM S40 G5<|sOp S41 (oSlc G39 bNo (bX G40) bNo true 18)<|vM S4 G41<|sNil))) (.ret))))))) (r1 (.t 4))
def nc127:AFn:=.mk (.seq (.rg (.fin (sOp S3 (oBx G0)<|sOp S4 (oMv (xC (.b false)))<|sNil))) (.seq (.rg (.fin (sOp S5 (oFa G3 0)<|sOp S6 (oLd1 G5)<|sOp S7 (oLd1 G1)<|sOp S8 (oSQ false G6 G7)<|vM S9 G8<|sOpG (gG G9 true) S10 (oFa G3 1)<|sOpG (gG G9 true) S11 (oLd1 G10)<|sOpG (gG G9 true) S12 (oLd1 G2)<|sOpG (gG G9 true) S13 (oGe 3 G11 G12)<|sOp S14 (oPick G9 G13 (xC (.b false)))<|vM S4 G14<|sNil))) (.ret))) (r1 (.t 4))
def nc128:AFn:=.mk (.seq (.rg (.fin (vM S4 q0<|sNil))) (.seq (.rg (.fin (vM S5 G0<|sOp S6 (oNc G5)<|sOp S7 (oFa G6 0)<|vM S8 G1<|sOp S9 (oAad 3 G7 G8)<|vM S4 G9<|sNil))) (.ret))) (r1 (.t 4))
def nc138:AFn:=.mk (.seq (.rg (.fin (sOp S4 (oMv (xC (.i 6 (.ofNat 0))))<|sNil))) (.seq (.rg (.fin (sOp S5 (oAl [(.i 6 (.ofNat 0)),(.i 2 (.ofNat 0)),(.i 6 (.ofNat 0)),(.i 6 (.ofNat 0)),(.i 6 (.ofNat 0)),(.i 6 (.ofNat 0)),(.i 6 (.ofNat 0)),(.i 6 (.ofNat 0)),(.i 6 (.ofNat 0)),(.i 6 (.ofNat 0)),(.i 6 (.ofNat 0)),(.i 6 (.ofNat 0)),(.i 6 (.ofNat 0)),(.i 6 (.ofNat 0)),(.i 6 (.ofNat 0)),(.i 6 (.ofNat 0)),(.i 6 (.ofNat 0)),(.i 6 (.ofNat 0)),(.i 6 (.ofNat 0))] 19)<|sNil))) (.seq (.rg (.fin (vM S9 G0<|sOp S10 (oCm G9)<|vM S6 G10<|sNil))) (.seq (.seq (.rg (.fin (vM S11 G1<|sOp S12 (oLenl G11)<|vM S13 q0<|sNil))) (.blk 0 (.loop (.seq (.rg (.fin (sOp S14 (oLt 3 G13 G12)<|sNil))) (.seq (.cond G14 (.skip) (.exit 0)) (.seq (.blk 1 (.seq (.rg (.fin (sOp S15 (oIas G11 G13 1)<|sOp S16 (oLd1 G15)<|vM S8 G16<|sNil))) (.seq (.rg (.fin (vM S17 G6<|vM S18 G8<|sOp S19 (oCvi 6 G18)<|sOp S20 (oAr arXor 6 G17 G19)<|vM S6 G20<|sNil))) (.seq (.rg (.call (vM S21 G6<|sNil) gN S22 215 (xsC G5<|xsC G21<|xsN)<| .fin (vM S23 G6<|sOp S24 (oShr 6 G23 (xC (.i 7 (.ofNat 4))))<|sOp S25 (oAr arXor 6 G22 G24)<|vM S6 G25<|sNil))) (.rg (.call (vM S26 G6<|sNil) gN S27 215 (xsC G5<|xsC G26<|xsN)<| .fin (vM S28 G6<|sOp S29 (oShr 6 G28 (xC (.i 7 (.ofNat 4))))<|sOp S30 (oAr arXor 6 G27 G29)<|vM S6 G30<|sNil))))))) (.rg (.fin (sOp S31 (oAr arAdd 3 G13 q1)<|vM S13 G31<|sNil))))))))) (.seq (.rg (.fin (vM S32 G6<|sOp S33 (oCm G32)<|vM S4 G33<|sNil))) (.ret)))))) (r1 (.t 4))
def nc141:AFn:=.mk (.seq (.rg (.fin (sOp S1 (oBx G0)<|sOp S2 (oMv (xC .ns))<|vM S3 q0<|sNil))) (.seq (.seq (.rg (.call (sOp S9 (oLd G1 7)<|sNil) gN S10 72 (xsC G9<|xsN)<| .fin (sOp S11 (oNt G10)<|sNil))) (.cond G11 (.bad) (.skip))) (.seq (.rg (.fin (sOp S12 (oBld [.ns] pNil)<|sOp S13 (oBx G12)<|vM S4 G13<|sNil))) (.seq (.rg (.call (vM S14 G4<|sOp S15 (oFa G1 0)<|sOp S16 (oLd1 G15)<|sNil) gN S17 221 (xsC G14<|xsC q1<|xsC G16<|xsN)<| .fin (sNil))) (.seq (.rg (.call (vM S18 G4<|sOp S19 (oFa G1 1)<|sOp S20 (oLd1 G19)<|sNil) gN S21 221 (xsC G18<|xsC q2<|xsC G20<|xsN)<| .fin (sNil))) (.seq (.rg (.call (vM S22 G4<|sOp S23 (oFa G1 2)<|sOp S24 (oLd1 G23)<|sNil) gN S25 222 (xsC G22<|xsC G24<|xsN)<| .fin (sNil))) (.seq (.rg (.call (vM S26 G4<|sOp S27 (oFa G1 3)<|sOp S28 (oLd G27 1)<|sOp S29 (oFa G1 0)<|sOp S30 (oLd1 G29)<|sNil) gN S31 223 (xsC G26<|xsC G28<|xsC G30<|xsN)<| .fin (sNil))) (.seq (.rg (.call (vM S32 G4<|sOp S33 (oFa G1 4)<|sOp S34 (oLd1 G33)<|sOp S35 (oLenl G34)<|sNil) gN S36 221 (xsC G32<|xsC q1<|xsC G35<|xsN)<| .fin (sNil))) (.seq (.seq (.rg (.fin (sOp S37 (oFa G1 4)<|sOp S38 (oLd1 G37)<|sOp S39 (oLenl G38)<|vM S40 q0<|sNil))) (.blk 0 (.loop (.seq (.rg (.fin (sOp S41 (oLt 3 G40 G39)<|sNil))) (.seq (.cond G41 (.skip) (.exit 0)) (.bad)))))) (.seq (.rg (.call (vM S59 G4<|sOp S60 (oFa G1 5)<|sOp S61 (oLd1 G60)<|sOp S62 (oLenl G61)<|sNil) gN S63 221 (xsC G59<|xsC q1<|xsC G62<|xsN)<| .fin (sNil))) (.seq (.seq (.rg (.fin (sOp S64 (oFa G1 5)<|sOp S65 (oLd1 G64)<|sOp S66 (oLenl G65)<|vM S67 q0<|sNil))) (.blk 2 (.loop (.seq (.rg (.fin (sOp S68 (oLt 3 G67 G66)<|sNil))) (.seq (.cond G68 (.skip) (.exit 2)) (.bad)))))) (.seq (.rg (.call (vM S75 G4<|sOp S76 (oFa G1 6)<|sOp S77 (oLd1 G76)<|sNil) gN S78 225 (xsC G75<|xsC G77<|xsN)<| .fin (sNil))) (.seq (.seq (.rg (.fin (vM S79 G4<|sOp S80 (oNc G79)<|sOp S81 (oFa G80 0)<|sOp S82 (oLd1 G81)<|sOp S83 (oLenl G82)<|sOp S84 (oGt 3 G83 q1048576)<|sNil))) (.cond G84 (.bad) (.skip))) (.seq (.rg (.fin (vM S85 G4<|sOp S86 (oNc G85)<|sOp S87 (oFa G86 0)<|sOp S88 (oLd1 G87)<|vM S2 G88<|vM S3 q0<|sNil))) (.ret))))))))))))))) (dRs [.t 2,.t 3])
def nc143:AFn:=.mk (.seq (.rg (.fin (sOp S2 (oMv (xC (.i 6 (.ofNat 0))))<|sNil))) (.seq (.rg (.call (vM S3 G0<|sNil) gN S4 227 (xsC (xC (.i 6 (.ofNat 0)))<|xsC G3<|xsN)<| .fin (vM S2 G4<|sNil))) (.ret))) (r1 (.t 2))
def nc146:AFn:=.mk (.seq (.rg (.fin (sOp S4 (oMv (xC (.b false)))<|sNil))) (.seq (.rg (.fin (vM S5 G0<|sOp S6 (oGe 3 G5 q0)<|vM S7 G6<|sOpG (gG G7 true) S8 (oMv G0)<|sOpG (gG G7 true) S9 (oLe 3 G8 q4096)<|sOp S10 (oPick G7 G9 (xC (.b false)))<|vM S11 G10<|sOpG (gG G11 true) S12 (oMv G0)<|sOpG (gG G11 true) S13 (oMv G1)<|sOpG (gG G11 true) S14 (oShl 3 q1 G13)<|sOpG (gG G11 true) S15 (oRem 3 G12 G14)<|sOpG (gG G11 true) S16 (oEq false 3 G15 q0)<|sOp S17 (oPick G11 G16 (xC (.b false)))<|vM S4 G17<|sNil))) (.ret))) (r1 (.t 4))
def nc147:AFn:=.mk (.seq (.rg (.fin (sOp S3 (oBx G0)<|sOp S6 (oMv (xC (.b false)))<|sNil))) (.seq (.seq (.rg (.fin (vM S12 G1<|sOp S13 (oLt 3 G12 q0)<|vM S14 G13<|sOpG (gG G14 false) S15 (oMv G1)<|sOpG (gG G14 false) S16 (oGt 3 G15 q4096)<|sOp S17 (oPick G14 (xC (.b true)) G16)<|vM S18 G17<|sOpG (gG G18 false) S19 (oMv G2)<|sOpG (gG G18 false) S20 (oLt 3 G19 q0)<|sOp S21 (oPick G18 (xC (.b true)) G20)<|vM S22 G21<|sOpG (gG G22 false) S23 (oMv G2)<|sOpG (gG G22 false) S24 (oGt 3 G23 q6)<|sOp S25 (oPick G22 (xC (.b true)) G24)<|sNil))) (.cond G25 (.bad) (.skip))) (.seq (.seq (.rg (.fin (sOp S26 (oFa G3 0)<|sOp S27 (oLd1 G26)<|sOp S28 (oLenl G27)<|vM S29 q0<|sNil))) (.blk 0 (.loop (.seq (.rg (.fin (sOp S30 (oLt 3 G29 G28)<|sNil))) (.seq (.cond G30 (.skip) (.exit 0)) (.bad)))))) (.seq (.rg (.fin (sOp S6 (oMv (xC (.b true)))<|sNil))) (.ret))))) (r1 (.t 6))
def nc149:AFn:=.mk (.seq (.rg (.fin (sOp S2 (oMv (xC (.b false)))<|sNil))) (.seq (.rg (.fin (sOp S6 (oMkm)<|vM S3 G6<|sNil))) (.seq (.seq (.rg (.fin (vM S7 G0<|sOp S8 (oLenl G7)<|vM S9 q0<|sNil))) (.blk 0 (.loop (.seq (.rg (.fin (sOp S10 (oLt 3 G9 G8)<|sNil))) (.seq (.cond G10 (.skip) (.exit 0)) (.bad)))))) (.seq (.rg (.fin (sOp S2 (oMv (xC (.b true)))<|sNil))) (.ret))))) (r1 (.t 2))
def nc150:AFn:=.mk (.seq (.rg (.fin (sOp S2 (oMv (xC .np))<|vM S3 q0<|sNil))) (.seq (.seq (.rg (.fin (vM S4 G0<|sOp S5 (oLt 3 G4 q1)<|vM S6 G5<|sOpG (gG G6 false) S7 (oMv G0)<|sOpG (gG G6 false) S8 (oGt 3 G7 (xC (.i 3 (.ofNat 1024))))<|sOp S9 (oPick G6 (xC (.b true)) G8)<|sNil))) (.cond G9 (.bad) (.skip))) (.seq (.rg (.fin (vM S10 G0<|sOp S11 (oMkm)<|sOp S12 (oBld [(.i 3 (.ofNat 0)),.nm,(.i 3 (.ofNat 0))] (pPt 0 1 G10<|pPt 1 1 G11<|pNil))<|sOp S13 (oBx G12)<|vM S2 G13<|vM S3 q0<|sNil))) (.ret)))) (dRs [.t 2,.t 3])
def nc151:AFn:=.mk (.seq (.rg (.fin (sOp S0 (oMv (xC .np))<|sNil))) (.seq (.rg (.fin (sOp S1 (oBld [.ns,(.i 3 (.ofNat 0))] pNil)<|sOp S2 (oBx G1)<|vM S0 G2<|sNil))) (.ret))) (r1 (.t 0))
def nc155:AFn:=.mk (.seq (.rg (.fin (sOp S1 (oBx G0)<|sOp S2 (oMv (xC .ns))<|sNil))) (.seq (.rg (.call (sOp S6 (oFa G1 3)<|sOp S7 (oLd G6 1)<|sNil) gN S8 237 (xsC (xC (.i 3 (.negSucc 0)))<|xsC G7<|xsN)<| .call (sNil) gN S9 236 (xsC G8<|xsN)<| .fin (vM S3 G9<|sNil))) (.seq (.seq (.rg (.fin (sOp S10 (oFa G1 4)<|sOp S11 (oLd1 G10)<|sOp S12 (oLenl G11)<|vM S13 q0<|sNil))) (.blk 0 (.loop (.seq (.rg (.fin (sOp S14 (oLt 3 G13 G12)<|sNil))) (.seq (.cond G14 (.skip) (.exit 0)) (.bad)))))) (.seq (.rg (.fin (vM S25 G3<|vM S2 G25<|sNil))) (.ret))))) (r1 (.t 2))
def nc156:AFn:=.mk (.seq (.rg (.fin (sOp S2 (oMv (xC .ns))<|sNil))) (.seq (.seq (.rg (.fin (vM S3 G0<|sOp S4 (oEqn false 1 G3 (xC .ns))<|sNil))) (.cond G4 (.seq (.rg (.fin (sOp S2 (oMv (xC .ns))<|sNil))) (.ret)) (.skip))) (.bad))) (r1 (.t 2))
def nc157:AFn:=.mk (.seq (.rg (.fin (sOp S2 (oMv (xC .ns))<|sNil))) (.seq (.seq (.rg (.fin (vM S3 G0<|sOp S4 (oEqn false 1 G3 (xC .ns))<|sNil))) (.cond G4 (.seq (.rg (.fin (sOp S2 (oMv (xC .ns))<|sNil))) (.ret)) (.skip))) (.bad))) (r1 (.t 2))
def nc162:AFn:=.mk (.seq (.rg (.fin (sOp S2 (oMv (xC .ns))<|sNil))) (.seq (.rg (.fin (sOp S3 (oMv (xC .ns))<|sNil))) (.seq (.seq (.rg (.fin (vM S4 q0<|sNil))) (.blk 0 (.loop (.seq (.seq (.rg (.fin (vM S6 G4<|vM S7 G0<|sOp S8 (oLenl G7)<|sOp S9 (oLt 3 G6 G8)<|sNil))) (.cond G9 (.skip) (.exit 0))) (.bad))))) (.seq (.rg (.fin (vM S25 G3<|vM S2 G25<|sNil))) (.ret))))) (r1 (.t 2))
def nc167:AFn:=.mk (.seq (.rg (.fin (sOp S1 (oBx G0)<|sOp S2 (oAl [.ns] 1)<|sNil))) (.seq (.rg (.fin (sOp S3 (oAl [.ns] 1)<|sNil))) (.seq (.seq (.rg (.fin (sOp S6 (oFa G1 0)<|sOp S7 (oLd1 G6)<|sOp S8 (oLenl G7)<|vM S9 q0<|sNil))) (.blk 0 (.loop (.seq (.rg (.fin (sOp S10 (oLt 3 G9 G8)<|sNil))) (.seq (.cond G10 (.skip) (.exit 0)) (.bad)))))) (.seq (.rg (.fin (sOp S21 (oLd G3 1)<|sOp dN (oSt G2 G21 1)<|sNil))) (.ret))))) (r1 (.c 2 1))
def nc174:AFn:=.mk (.seq (.rg (.fin (sOp S2 (oMv (xC (.s [])))<|sNil))) (.seq (.rg (.fin (vM S3 G0<|sOp S4 (oAr arAdd 3 (xC (.i 3 (.ofNat 97))) G3)<|sOp S5 (oCvi 4 G4)<|sOp S6 (oBsl [(.i 4 (.ofNat 0))] 1 1 (pPt 0 1 G5<|pNil))<|sOp S7 (oB2s G6)<|vM S2 G7<|sNil))) (.ret))) (r1 (.t 2))
def nc175:AFn:=.mk (.seq (.rg (.fin (sOp S3 (oBx G1)<|sOp S4 (oAl [(.i 3 (.ofNat 0)),.ns,.ns,.ns,(.i 3 (.ofNat 0)),(.i 3 (.ofNat 0))] 6)<|sOp S5 (oMv (xC .ns))<|sNil))) (.seq (.seq (.rg (.fin (sOp S10 (oFa G3 0)<|sOp S11 (oLd1 G10)<|sOp S12 (oLt 3 G11 q1)<|vM S13 G12<|sOpG (gG G13 false) S14 (oFa G3 0)<|sOpG (gG G13 false) S15 (oLd1 G14)<|sOpG (gG G13 false) S16 (oGt 3 G15 (xC (.i 3 (.ofNat 26))))<|sOp S17 (oPick G13 (xC (.b true)) G16)<|sNil))) (.cond G17 (.bad) (.skip))) (.seq (.seq (.rg (.fin (sOp S19 (oFa G3 0)<|sOp S20 (oLd1 G19)<|sOp S21 (oEq false 3 G20 (xC (.i 3 (.ofNat 26))))<|sNil))) (.cond G21 (.bad) (.skip))) (.seq (.seq (.rg (.fin (sOp S46 (oFa G3 0)<|sOp S47 (oLd1 G46)<|sOp S48 (oEq false 3 G47 q1)<|sNil))) (.cond G48 (.seq (.rg (.call (vM S49 G0<|sOp S50 (oLd G3 7)<|sNil) gN S51 250 (xsC G49<|xsC G50<|xsN)<| .fin (sOp S52 (oExt G51 0)<|sOp S53 (oExt G51 1)<|sOp dN (oSt G4 G52 6)<|vM S5 G53<|sNil))) (.ret)) (.skip))) (.bad))))) (dRs [.c 4 6,.t 5])
def nc178:AFn:=.mk (.seq (.rg (.fin (vM S6 q0<|sNil))) (.seq (.rg (.call (vM S10 G0<|vM S11 G1<|vM S12 G2<|sNil) gN S13 269 (xsC G10<|xsC G11<|xsC G12<|xsC (xC (.b false))<|xsN)<| .fin (vM S9 G13<|sOp S14 (oExt G9 0)<|sOp S15 (oExt G9 1)<|vM S7 G14<|vM S8 G15<|sNil))) (.seq (.rg (.fin (vM S16 G7<|sOp S17 (oCvi 3 G16)<|vM S6 G17<|sNil))) (.ret)))) (r1 (.t 6))
def nc179:AFn:=.mk (.seq (.rg (.fin (vM S4 q0<|sNil))) (.seq (.seq (.rg (.fin (vM S6 G0<|sOp S7 (oLenl G6)<|vM S8 q0<|sNil))) (.blk 0 (.loop (.seq (.rg (.fin (sOp S9 (oLt 3 G8 G7)<|sNil))) (.seq (.cond G9 (.skip) (.exit 0)) (.bad)))))) (.seq (.rg (.fin (sOp S4 (oMv (xC (.i 3 (.negSucc 0))))<|sNil))) (.ret)))) (r1 (.t 4))
def nc181:AFn:=.mk (.seq (.rg (.fin (sOp S5 (oLd1 G1)<|vM S6 q0<|sNil))) (.blk 0 (.loop (.seq (.rg (.fin (sOp S7 (oLt 3 G6 G5)<|sNil))) (.seq (.cond G7 (.skip) (.exit 0)) (.seq (.blk 1 (.seq (.rg (.fin (vM S8 G6<|vM S4 G8<|sNil))) (.seq (.rg (.calv (sOp S9 (oLd1 G2)<|vM S10 G4<|sNil) gN S11 G9 (xsC G10<|xsN)<| .calv (vM S12 G11<|sOpG (gG G12 true) S13 (oMv G0)<|sOpG (gG G12 true) S14 (oMv G4)<|sNil) (gG G12 true) S15 G13 (xsC G14<|xsN)<| .fin (sOpG (gG G12 true) S16 (oNt G15)<|sOp S17 (oPick G12 G16 (xC (.b false)))<|sNil))) (.cond G17 (.ret) (.skip))))) (.rg (.fin (sOp S18 (oAr arAdd 3 G6 q1)<|vM S6 G18<|sNil))))))))) (dRs [])
def nc183:AFn:=.mk (.seq (.rg (.fin (sOp S4 (oMv (xC (.b false)))<|sNil))) (.seq (.rg (.call (vM S5 G0<|vM S6 G1<|sNil) gN S7 271 (xsC G5<|xsC G6<|xsN)<| .fin (sOp S8 (oGe 3 G7 q0)<|vM S4 G8<|sNil))) (.ret))) (r1 (.t 4))
def nc184:AFn:=.mk (.seq (.rg (.fin (sOp S2 (oMv (xC (.b false)))<|sNil))) (.seq (.rg (.fin (vM S3 G0<|sOp S4 (oEq true 4 G3 (xC (.i 4 (.ofNat 0))))<|vM S2 G4<|sNil))) (.ret))) (r1 (.t 2))
def nc185:AFn:=.mk (.seq (.rg (.fin (vM S4 q0<|sOp S5 (oMv (xC .ni))<|sNil))) (.seq (.rg (.fin (vM S6 G0<|vM S7 G0<|sOp S8 (oNc G7)<|sOp S9 (oFa G8 0)<|sOp S10 (oLd1 G9)<|vM S11 G1<|sOp S12 (oApn G10 G11 1 1)<|sOp S13 (oNc G6)<|sOp S14 (oFa G13 0)<|sOp dN (oSt G14 G12 1)<|sNil))) (.seq (.rg (.call (vM S15 G0<|vM S16 G0<|sOp S17 (oNc G16)<|sOp S18 (oFa G17 1)<|sOp S19 (oLd1 G18)<|vM S20 G1<|sNil) gN S21 138 (xsC G19<|xsC G20<|xsN)<| .fin (sOp S22 (oNc G15)<|sOp S23 (oFa G22 1)<|sOp dN (oSt G23 G21 1)<|sNil))) (.seq (.rg (.fin (vM S24 G1<|sOp S25 (oLenl G24)<|vM S4 G25<|sOp S5 (oMv (xC .ni))<|sNil))) (.ret))))) (dRs [.t 4,.t 5])
def nc186:AFn:=.mk (.seq (.rg (.call (vM S9 G1<|vM S10 G2<|sOp S11 (oCvi 7 G10)<|sNil) gN S12 272 (xsC (xC .ns)<|xsC G9<|xsC (xC (.b false))<|xsC G11<|xsN)<| .fin (vM S8 G12<|sOp S13 (oExt G8 0)<|sOp S14 (oExt G8 1)<|vM S6 G13<|vM S7 G14<|sNil))) (.rg (.call (vM S15 G0<|vM S16 G6<|sNil) gN S17 185 (xsC G15<|xsC G16<|xsN)<| .fin (sNil)))) (dRs [])
def nc188:AFn:=.mk (.seq (.rg (.fin (sOp S6 (oMv (xC .ns))<|vM S7 q0<|sNil))) (.seq (.seq (.rg (.fin (vM S12 G2<|sOp S13 (oLt 3 G12 q0)<|vM S14 G13<|sOpG (gG G14 false) S15 (oMv G2)<|sOpG (gG G14 false) S16 (oGt 3 G15 q6)<|sOp S17 (oPick G14 (xC (.b true)) G16)<|vM S18 G17<|sOpG (gG G18 false) S19 (oMv G0)<|sOpG (gG G18 false) S20 (oLt 3 G19 q0)<|sOp S21 (oPick G18 (xC (.b true)) G20)<|vM S22 G21<|sOpG (gG G22 false) S23 (oMv G1)<|sOpG (gG G22 false) S24 (oLt 3 G23 q0)<|sOp S25 (oPick G22 (xC (.b true)) G24)<|vM S26 G25<|sOpG (gG G26 false) S27 (oMv G0)<|sOpG (gG G26 false) S28 (oGt 3 G27 q4096)<|sOp S29 (oPick G26 (xC (.b true)) G28)<|vM S30 G29<|sOpG (gG G30 false) S31 (oMv G1)<|sOpG (gG G30 false) S32 (oGt 3 G31 q4096)<|sOp S33 (oPick G30 (xC (.b true)) G32)<|sNil))) (.cond G33 (.bad) (.skip))) (.seq (.rg (.fin (sOp S8 (oMv (xC .ns))<|sNil))) (.seq (.rg (.fin (vM S34 G2<|sOp S35 (oShl 3 q1 G34)<|vM S9 G35<|sNil))) (.seq (.seq (.rg (.fin (vM S36 G0<|vM S37 G1<|sOp S38 (oAr arAdd 3 G36 G37)<|vM S10 G38<|sNil))) (.blk 0 (.loop (.seq (.seq (.rg (.fin (vM S39 G0<|vM S40 G10<|sOp S41 (oLt 3 G39 G40)<|sNil))) (.cond G41 (.skip) (.exit 0))) (.blk 1 (.seq (.rg (.fin (vM S42 G9<|vM S43 G0<|vM S44 G9<|sOp S45 (oRem 3 G43 G44)<|sOp S46 (oAr arSub 3 G42 G45)<|vM S47 G10<|vM S48 G0<|sOp S49 (oAr arSub 3 G47 G48)<|sOp S50 (oMm false (xsC G46<|xsC G49<|xsN))<|vM S11 G50<|sNil))) (.seq (.rg (.fin (vM S51 G8<|vM S52 G0<|vM S53 G9<|sOp S54 (oAr arQuo 3 G52 G53)<|vM S55 G0<|vM S56 G9<|sOp S57 (oRem 3 G55 G56)<|vM S58 G11<|sOp S59 (oBld [(.i 3 (.ofNat 0)),(.i 3 (.ofNat 0)),(.i 3 (.ofNat 0))] (pPt 0 1 G54<|pPt 1 1 G57<|pPt 2 1 G58<|pNil))<|sOp S60 (oBsl [(.i 3 (.ofNat 0)),(.i 3 (.ofNat 0)),(.i 3 (.ofNat 0))] 3 1 (pPt 0 3 G59<|pNil))<|sOp S61 (oApn G51 G60 3 24)<|vM S8 G61<|sNil))) (.rg (.fin (vM S62 G0<|vM S63 G11<|sOp S64 (oAr arAdd 3 G62 G63)<|vM S0 G64<|sNil)))))))))) (.seq (.rg (.fin (vM S65 G8<|vM S6 G65<|vM S7 q0<|sNil))) (.ret))))))) (dRs [.t 6,.t 7])
def nc189:AFn:=.mk (.seq (.rg (.fin (sOp S6 (oMv (xC .ns))<|vM S7 q0<|sNil))) (.seq (.rg (.fin (vM S14 G2<|sOp S15 (oAr arMul 3 G14 q16)<|sOp S16 (oMks G15 G15 1 [(.i 4 (.ofNat 0))] 1)<|vM S8 G16<|sNil))) (.seq (.seq (.rg (.fin (vM S17 G0<|sOp S18 (oLenl G17)<|sOp S19 (oEq false 3 G18 q0)<|sNil))) (.cond G19 (.seq (.rg (.fin (vM S20 G8<|vM S6 G20<|vM S7 q0<|sNil))) (.ret)) (.skip))) (.bad)))) (dRs [.t 6,.t 7])
def nc199p : C := .seq (.rg (.fin (vM S4 q0<|sNil))) (.seq (.rg (.fin (vM S5 q0<|sNil))) (.seq (freeC) (.seq (.rg (.fin (vM S35 G5<|vM S4 G35<|sNil))) (.ret))))
def nc199:AFn:=.mk (.seq (.rg (.fin (vM S4 q0<|sNil))) (.seq (.rg (.fin (vM S5 q0<|sNil))) (.seq (.spl freeS freeC) (.seq (.rg (.fin (vM S35 G5<|vM S4 G35<|sNil))) (.ret))))) (r1 (.t 4))
def nc200:AFn:=.mk (.seq (.rg (.fin (sOp S4 (oMv (xC .ns))<|vM S5 q0<|vM S6 q0<|sNil))) (.seq (.rg (.fin (vM S7 q1<|sNil))) (.blk 0 (.loop (.blk 1 (.seq (.rg (.fin (vM S12 G0<|sOp S13 (oNc G12)<|sOp S14 (oFa G13 0)<|sOp S15 (oLd G14 7)<|sOp S8 (oAl [(.i 3 (.ofNat 0)),(.i 3 (.ofNat 0)),(.s []),.ns,.ns,.ns,.ns] 7)<|sOp dN (oSt G8 G15 7)<|sNil))) (.seq (.rg (.call (sOp S16 (oLd G8 7)<|vM S17 G0<|sOp S18 (oNc G17)<|sOp S19 (oFa G18 7)<|sOp S20 (oLd1 G19)<|vM S21 G1<|vM S22 G7<|sOp S23 (oAr arAdd 3 G21 G22)<|sOp S24 (oMm true (xsC G20<|xsC G23<|xsN))<|sOp S25 (oMm false (xsC G24<|xsC q65536<|xsN))<|sNil) gN S26 78 (xsC G16<|xsC G25<|xsN)<| .fin (sOp S27 (oFa G8 6)<|sOp dN (oSt G27 G26 1)<|sNil))) (.seq (.rg (.call (sOp S29 (oLd G8 7)<|sNil) gN S30 141 (xsC G29<|xsN)<| .fin (vM S28 G30<|sOp S31 (oExt G28 0)<|sOp S32 (oExt G28 1)<|vM S9 G31<|vM S10 G32<|sNil))) (.seq (.seq (.rg (.fin (vM S33 G10<|sOp S34 (oEq true 3 G33 q0)<|sNil))) (.cond G34 (.bad) (.skip))) (.seq (.seq (.rg (.call (vM S36 G9<|sOp S37 (oLenl G36)<|sNil) gN S38 119 (xsC G37<|xsN)<| .fin (vM S11 G38<|sNil))) (.seq (.rg (.fin (vM S39 G11<|vM S40 G7<|sOp S41 (oGt 3 G39 G40)<|sNil))) (.cond G41 (.seq (.rg (.fin (vM S42 G11<|vM S7 G42<|sNil))) (.exit 1)) (.skip)))) (.seq (.rg (.fin (vM S43 G9<|vM S44 G7<|vM S4 G43<|vM S5 G44<|vM S6 q0<|sNil))) (.ret)))))))))))) (dRs [.t 4,.t 5,.t 6])
def nc201:AFn:=.mk (.seq (.rg (.fin (vM S8 q0<|sOp S9 (oMv (xC (.b false)))<|sNil))) (.seq (.seq (.rg (.fin (vM S12 G1<|sOp S13 (oLt 3 G12 q1)<|vM S14 G13<|sOpG (gG G14 false) S15 (oMv G2)<|sOpG (gG G14 false) S16 (oLt 3 G15 q0)<|sOp S17 (oPick G14 (xC (.b true)) G16)<|vM S18 G17<|sOpG (gG G18 false) S19 (oMv G3)<|sOpG (gG G18 false) S20 (oLt 3 G19 q0)<|sOp S21 (oPick G18 (xC (.b true)) G20)<|vM S22 G21<|sOpG (gG G22 false) S23 (oMv G1)<|sOpG (gG G22 false) S24 (oMv G3)<|sOpG (gG G22 false) S25 (oGt 3 G23 G24)<|sOp S26 (oPick G22 (xC (.b true)) G25)<|sNil))) (.cond G26 (.bad) (.skip))) (.seq (.rg (.fin (vM S10 q0<|sNil))) (.seq (.seq (.rg (.fin (vM S27 G2<|vM S11 G27<|sNil))) (.blk 0 (.loop (.seq (.seq (.rg (.fin (vM S28 G11<|vM S29 G0<|sOp S30 (oLenl G29)<|sOp S31 (oLt 3 G28 G30)<|sNil))) (.cond G31 (.skip) (.bad))) (.seq (.blk 1 (.seq (.seq (.rg (.fin (vM S34 G0<|vM S35 G11<|sOp S36 (oIas G34 G35 1)<|sOp S37 (oLd1 G36)<|sOp S38 (oEq true 3 G37 q0)<|sNil))) (.cond G38 (.bad) (.skip))) (.seq (.rg (.fin (vM S39 G10<|sOp S40 (oAr arAdd 3 G39 q1)<|vM S10 G40<|sNil))) (.seq (.rg (.fin (vM S41 G10<|vM S42 G1<|sOp S43 (oEq false 3 G41 G42)<|sNil))) (.cond G43 (.seq (.rg (.call (vM S44 G11<|vM S45 G1<|sOp S46 (oAr arSub 3 G44 G45)<|sOp S47 (oAr arAdd 3 G46 q1)<|vM S48 G1<|vM S49 G3<|sNil) gN S50 278 (xsC G47<|xsC G48<|xsC G49<|xsN)<| .fin (sOp S51 (oExt G50 0)<|sOp S52 (oExt G50 1)<|vM S8 G51<|vM S9 G52<|sNil))) (.ret)) (.skip)))))) (.rg (.fin (vM S32 G11<|sOp S33 (oAr arAdd 3 G32 q1)<|vM S11 G33<|sNil)))))))) (.bad))))) (dRs [.t 8,.t 9])
def nc202:AFn:=.mk (.seq (.rg (.fin (sOp S1 (oBx G0)<|sOp S2 (oMv (xC (.b false)))<|sNil))) (.seq (.rg (.fin (sOp S3 (oFa G1 0)<|sOp S4 (oLd1 G3)<|sOp S5 (oGe 3 G4 q1)<|vM S6 G5<|sOpG (gG G6 true) S7 (oFa G1 0)<|sOpG (gG G6 true) S8 (oLd1 G7)<|sOpG (gG G6 true) S9 (oLe 3 G8 (xC (.i 3 (.ofNat 2147483648))))<|sOp S10 (oPick G6 G9 (xC (.b false)))<|vM S11 G10<|sOpG (gG G11 true) S12 (oFa G1 1)<|sOpG (gG G11 true) S13 (oLd1 G12)<|sOpG (gG G11 true) S14 (oGe 3 G13 q2)<|sOp S15 (oPick G11 G14 (xC (.b false)))<|vM S16 G15<|sOpG (gG G16 true) S17 (oFa G1 1)<|sOpG (gG G16 true) S18 (oLd1 G17)<|sOpG (gG G16 true) S19 (oLe 3 G18 q65536)<|sOp S20 (oPick G16 G19 (xC (.b false)))<|vM S21 G20<|sOpG (gG G21 true) S22 (oFa G1 2)<|sOpG (gG G21 true) S23 (oLd1 G22)<|sOpG (gG G21 true) S24 (oGe 3 G23 q1)<|sOp S25 (oPick G21 G24 (xC (.b false)))<|vM S26 G25<|sOpG (gG G26 true) S27 (oFa G1 2)<|sOpG (gG G26 true) S28 (oLd1 G27)<|sOpG (gG G26 true) S29 (oLe 3 G28 q1048576)<|sOp S30 (oPick G26 G29 (xC (.b false)))<|vM S2 G30<|sNil))) (.ret))) (r1 (.t 2))
def nc203:AFn:=.mk (.seq (.rg (.fin (sOp S1 (oBx G0)<|sOp S2 (oAl [(.i 4 (.ofNat 0)),(.i 4 (.ofNat 0)),(.i 4 (.ofNat 0)),(.i 4 (.ofNat 0)),(.i 4 (.ofNat 0)),(.i 4 (.ofNat 0)),(.i 4 (.ofNat 0)),(.i 4 (.ofNat 0)),(.i 4 (.ofNat 0)),(.i 4 (.ofNat 0)),(.i 4 (.ofNat 0)),(.i 4 (.ofNat 0)),(.i 4 (.ofNat 0)),(.i 4 (.ofNat 0)),(.i 4 (.ofNat 0)),(.i 4 (.ofNat 0))] 16)<|sNil))) (.seq (.rg (.fin (sOp S3 (oMv (xC .ns))<|sNil))) (.seq (.seq (.rg (.fin (sOp S7 (oFa G1 0)<|sOp S8 (oLd1 G7)<|sOp S9 (oFa G1 1)<|sOp S10 (oLd1 G9)<|sOp S11 (oFa G1 2)<|sOp S12 (oLd1 G11)<|sOp S13 (oFa G1 3)<|sOp S14 (oLd1 G13)<|sOp S15 (oCvi 3 G14)<|sOp S16 (oBsl [(.i 3 (.ofNat 0)),(.i 3 (.ofNat 0)),(.i 3 (.ofNat 0)),(.i 3 (.ofNat 0))] 4 4 (pPt 0 1 G8<|pPt 1 1 G10<|pPt 2 1 G12<|pPt 3 1 G15<|pNil))<|sOp S17 (oLenl G16)<|vM S18 q0<|sNil))) (.blk 0 (.loop (.seq (.rg (.fin (sOp S19 (oLt 3 G18 G17)<|sNil))) (.seq (.cond G19 (.skip) (.exit 0)) (.seq (.blk 1 (.seq (.rg (.fin (sOp S20 (oIas G16 G18 1)<|sOp S21 (oLd1 G20)<|vM S5 G21<|sNil))) (.rg (.call (vM S23 G3<|vM S24 G5<|sOp S25 (oCvi 7 G24)<|sNil) gN S26 272 (xsC G23<|xsC q4<|xsC (xC (.b false))<|xsC G25<|xsN)<| .fin (vM S22 G26<|sOp S27 (oExt G22 0)<|sOp S28 (oExt G22 1)<|vM S3 G27<|sNil))))) (.rg (.fin (sOp S29 (oAr arAdd 3 G18 q1)<|vM S18 G29<|sNil))))))))) (.seq (.rg (.fin (sOp S6 (oAl [(.i 4 (.ofNat 0)),(.i 4 (.ofNat 0)),(.i 4 (.ofNat 0)),(.i 4 (.ofNat 0)),(.i 4 (.ofNat 0)),(.i 4 (.ofNat 0)),(.i 4 (.ofNat 0)),(.i 4 (.ofNat 0)),(.i 4 (.ofNat 0)),(.i 4 (.ofNat 0)),(.i 4 (.ofNat 0)),(.i 4 (.ofNat 0)),(.i 4 (.ofNat 0)),(.i 4 (.ofNat 0)),(.i 4 (.ofNat 0)),(.i 4 (.ofNat 0))] 16)<|sNil))) (.seq (.rg (.fin (sOp S30 (oSla G6 bNo bNo bNo 16 1)<|vM S31 G3<|sOp S32 (oCpy G30 G31 1)<|sNil))) (.seq (.rg (.fin (sOp S33 (oLd G6 16)<|sOp dN (oSt G2 G33 16)<|sNil))) (.ret))))))) (r1 (.c 2 16))
def nc204:AFn:=.mk (.seq (.rg (.fin (vM S4 q0<|sNil))) (.seq (.seq (.rg (.fin (vM S6 G0<|sOp S7 (oLenl G6)<|vM S8 q0<|sNil))) (.blk 0 (.loop (.seq (.rg (.fin (sOp S9 (oLt 3 G8 G7)<|sNil))) (.seq (.cond G9 (.skip) (.exit 0)) (.seq (.blk 1 (.seq (.rg (.fin (vM S10 G8<|vM S5 G10<|sNil))) (.seq (.rg (.calv (vM S11 G1<|vM S12 G0<|vM S13 G5<|sOp S14 (oIas G12 G13 18)<|sOp S15 (oLd G14 18)<|sNil) gN S16 G11 (xsC G15<|xsN)<| .fin (sNil))) (.cond G16 (.seq (.rg (.fin (vM S17 G5<|vM S4 G17<|sNil))) (.ret)) (.skip))))) (.bad))))))) (.seq (.rg (.fin (sOp S4 (oMv (xC (.i 3 (.negSucc 0))))<|sNil))) (.ret)))) (r1 (.t 4))
def nc215:AFn:=.mk (.seq (.rg (.fin (sOp S2 (oBx G0)<|sOp S4 (oMv (xC (.i 6 (.ofNat 0))))<|sNil))) (.seq (.rg (.call (sOp S5 (oLd1 G2)<|sOp S6 (oNc G5)<|sOp S7 (oFa G6 0)<|sOp S8 (oMkf 291 (xsC G2<|xsN))<|sNil) gN S9 279 (xsC G7<|xsC G8<|xsN)<| .fin (sNil))) (.seq (.rg (.fin (sOp S10 (oLd1 G2)<|vM S11 G1<|sOp S12 (oRem 6 G11 (xC (.i 6 (.ofNat 16))))<|sOp S13 (oNc G10)<|sOp S14 (oFa G13 3)<|sOp S15 (oIaa G14 G12 16 1)<|sOp S16 (oLd1 G15)<|vM S4 G16<|sNil))) (.ret)))) (r1 (.t 4))
def nc221:AFn:=.mk (.seq (.rg (.call (vM S9 G1<|vM S10 G2<|sOp S11 (oCvi 7 G10)<|sNil) gN S12 272 (xsC (xC .ns)<|xsC G9<|xsC (xC (.b false))<|xsC G11<|xsN)<| .fin (vM S8 G12<|sOp S13 (oExt G8 0)<|sOp S14 (oExt G8 1)<|vM S6 G13<|vM S7 G14<|sNil))) (.rg (.fin (vM S15 G0<|vM S16 G0<|sOp S17 (oNc G16)<|sOp S18 (oFa G17 0)<|sOp S19 (oLd1 G18)<|vM S20 G6<|sOp S21 (oApn G19 G20 1 1)<|sOp S22 (oNc G15)<|sOp S23 (oFa G22 0)<|sOp dN (oSt G23 G21 1)<|sNil)))) (dRs [])
def nc222:AFn:=.mk (.seq (.rg (.call (vM S7 G1<|sNil) gN S8 294 (xsC (xC .ns)<|xsC G7<|xsN)<| .fin (vM S6 G8<|sOp S9 (oExt G6 0)<|sOp S10 (oExt G6 1)<|vM S4 G9<|vM S5 G10<|sNil))) (.rg (.fin (vM S11 G0<|vM S12 G0<|sOp S13 (oNc G12)<|sOp S14 (oFa G13 0)<|sOp S15 (oLd1 G14)<|vM S16 G4<|sOp S17 (oApn G15 G16 1 1)<|sOp S18 (oNc G11)<|sOp S19 (oFa G18 0)<|sOp dN (oSt G19 G17 1)<|sNil)))) (dRs [])
def nc223:AFn:=.mk (.seq (.rg (.fin (sOp S4 (oBx G1)<|sNil))) (.seq (.rg (.call (sOp S9 (oLd G4 1)<|vM S10 G2<|sNil) gN S11 295 (xsC G9<|xsC G10<|xsN)<| .fin (vM S8 G11<|sOp S12 (oExt G8 0)<|sOp S13 (oExt G8 1)<|vM S6 G12<|vM S7 G13<|sNil))) (.rg (.fin (vM S14 G0<|vM S15 G0<|sOp S16 (oNc G15)<|sOp S17 (oFa G16 0)<|sOp S18 (oLd1 G17)<|vM S19 G6<|sOp S20 (oApn G18 G19 1 1)<|sOp S21 (oNc G14)<|sOp S22 (oFa G21 0)<|sOp dN (oSt G22 G20 1)<|sNil))))) (dRs [])
def nc225:AFn:=.mk (.seq (.rg (.call (vM S6 G0<|vM S7 G1<|sOp S8 (oLenl G7)<|sNil) gN S9 221 (xsC G6<|xsC q4<|xsC G8<|xsN)<| .fin (sNil))) (.seq (.rg (.fin (vM S4 q0<|sNil))) (.blk 0 (.loop (.seq (.seq (.rg (.fin (vM S10 G4<|vM S11 G1<|sOp S12 (oLenl G11)<|sOp S13 (oLt 3 G10 G12)<|sNil))) (.cond G13 (.skip) (.exit 0))) (.blk 1 (.seq (.rg (.fin (vM S5 q1<|sNil))) (.seq (.blk 2 (.loop (.seq (.seq (.rg (.fin (vM S14 G5<|sOp S15 (oLt 3 G14 (xC (.i 3 (.ofNat 65535))))<|vM S16 G15<|sOpG (gG G16 true) S17 (oMv G4)<|sOpG (gG G16 true) S18 (oMv G5)<|sOpG (gG G16 true) S19 (oAr arAdd 3 G17 G18)<|sOpG (gG G16 true) S20 (oMv G1)<|sOpG (gG G16 true) S21 (oLenl G20)<|sOpG (gG G16 true) S22 (oLt 3 G19 G21)<|sOp S23 (oPick G16 G22 (xC (.b false)))<|vM S24 G23<|sOpG (gG G24 true) S25 (oMv G1)<|sOpG (gG G24 true) S26 (oMv G4)<|sOpG (gG G24 true) S27 (oMv G5)<|sOpG (gG G24 true) S28 (oAr arAdd 3 G26 G27)<|sOpG (gG G24 true) S29 (oIas G25 G28 1)<|sOpG (gG G24 true) S30 (oLd1 G29)<|sOpG (gG G24 true) S31 (oMv G1)<|sOpG (gG G24 true) S32 (oMv G4)<|sOpG (gG G24 true) S33 (oIas G31 G32 1)<|sOpG (gG G24 true) S34 (oLd1 G33)<|sOpG (gG G24 true) S35 (oEq false 3 G30 G34)<|sOp S36 (oPick G24 G35 (xC (.b false)))<|sNil))) (.cond G36 (.skip) (.exit 2))) (.blk 3 (.rg (.fin (vM S37 G5<|sOp S38 (oAr arAdd 3 G37 q1)<|vM S5 G38<|sNil))))))) (.seq (.rg (.call (vM S39 G0<|vM S40 G5<|sNil) gN S41 221 (xsC G39<|xsC q2<|xsC G40<|xsN)<| .fin (sNil))) (.seq (.rg (.call (vM S42 G0<|vM S43 G1<|vM S44 G4<|sOp S45 (oIas G43 G44 1)<|sOp S46 (oLd1 G45)<|sNil) gN S47 221 (xsC G42<|xsC q2<|xsC G46<|xsN)<| .fin (sNil))) (.rg (.fin (vM S48 G4<|vM S49 G5<|sOp S50 (oAr arAdd 3 G48 G49)<|vM S4 G50<|sNil))))))))))))) (dRs [])
def nc227:AFn:=.mk (.seq (.rg (.fin (sOp S4 (oMv (xC (.i 6 (.ofNat 0))))<|sNil))) (.seq (.rg (.fin (vM S8 G0<|sOp S9 (oCm G8)<|vM S5 G9<|sNil))) (.seq (.seq (.rg (.fin (vM S6 q0<|sNil))) (.blk 0 (.loop (.seq (.seq (.rg (.fin (vM S10 G6<|vM S11 G1<|sOp S12 (oLenl G11)<|sOp S13 (oLt 3 G10 G12)<|sNil))) (.cond G13 (.skip) (.exit 0))) (.seq (.blk 1 (.seq (.rg (.fin (vM S16 G5<|vM S17 G1<|vM S18 G6<|sOp S19 (oIas G17 G18 1)<|sOp S20 (oLd1 G19)<|sOp S21 (oCvi 6 G20)<|sOp S22 (oAr arXor 6 G16 G21)<|vM S5 G22<|sNil))) (.seq (.rg (.fin (vM S7 q0<|sNil))) (.blk 2 (.loop (.seq (.seq (.rg (.fin (vM S23 G7<|sOp S24 (oLt 3 G23 q8)<|sNil))) (.cond G24 (.skip) (.exit 2))) (.seq (.blk 3 (.seq (.rg (.fin (vM S27 G5<|sOp S28 (oAr arAnd 6 G27 (xC (.i 6 (.ofNat 1))))<|sOp S29 (oEq false 6 G28 (xC (.i 6 (.ofNat 1))))<|sNil))) (.cond G29 (.rg (.fin (vM S30 G5<|sOp S31 (oShr 6 G30 (xC (.i 7 (.ofNat 1))))<|sOp S32 (oAr arXor 6 G31 (xC (.i 6 (.ofNat 2197175160))))<|vM S5 G32<|sNil))) (.rg (.fin (vM S33 G5<|sOp S34 (oShr 6 G33 (xC (.i 7 (.ofNat 1))))<|vM S5 G34<|sNil)))))) (.rg (.fin (vM S25 G7<|sOp S26 (oAr arAdd 3 G25 q1)<|vM S7 G26<|sNil)))))))))) (.rg (.fin (vM S14 G6<|sOp S15 (oAr arAdd 3 G14 q1)<|vM S6 G15<|sNil)))))))) (.seq (.rg (.fin (vM S35 G5<|sOp S36 (oCm G35)<|vM S4 G36<|sNil))) (.ret))))) (r1 (.t 4))
def nc236:AFn:=.mk (.seq (.rg (.fin (sOp S2 (oMv (xC .ns))<|sNil))) (.seq (.rg (.call (vM S3 G0<|sNil) gN S4 238 (xsC (xC .ns)<|xsC G3<|xsN)<| .fin (vM S2 G4<|sNil))) (.ret))) (r1 (.t 2))
def nc237:AFn:=.mk (.seq (.rg (.fin (sOp S2 (oBx G0)<|sOp S3 (oBx G1)<|sOp S4 (oMv (xC .nf))<|sNil))) (.seq (.rg (.fin (sOp S5 (oMkf 304 (xsC G3<|xsC G2<|xsN))<|vM S4 G5<|sNil))) (.ret))) (r1 (.t 4))
def nc238:AFn:=.mk (.seq (.rg (.fin (sOp S2 (oBx G0)<|sOp S4 (oMv (xC .ns))<|sNil))) (.seq (.seq (.rg (.fin (vM S6 G1<|sNil))) (.blk 0 (.rf G6 3808))) (.seq (.rg (.fin (sOp S12 (oLd1 G2)<|vM S4 G12<|sNil))) (.ret)))) (r1 (.t 4))
def nc250:AFn:=.mk (.seq (.rg (.fin (sOp S3 (oBx G1)<|sOp S4 (oAl [(.i 3 (.ofNat 0)),.ns,.ns,.ns,(.i 3 (.ofNat 0)),(.i 3 (.ofNat 0))] 6)<|sOp S5 (oMv (xC .ns))<|sNil))) (.seq (.blk 0 (.seq (.rg (.call (sOp S11 (oFa G3 1)<|sOp S12 (oLd1 G11)<|sNil) gN S13 84 (xsC G12<|xsN)<| .call (sOp S14 (oNt G13)<|vM S15 G14<|sOpG (gG G15 false) S16 (oFa G3 5)<|sOpG (gG G15 false) S17 (oLd1 G16)<|sOpG (gG G15 false) S18 (oFa G3 4)<|sOpG (gG G15 false) S19 (oLd1 G18)<|sNil) (gG G15 false) S20 316 (xsC G17<|xsC G19<|xsN)<| .fin (sOpG (gG G15 false) S21 (oNt G20)<|sOp S22 (oPick G15 (xC (.b true)) G21)<|vM S10 G22<|sNil))) (.cond G10 (.bad) (.seq (.rg (.call (vM S25 G0<|sOp S26 (oNc G25)<|sOp S27 (oFa G26 0)<|sOp S28 (oLd1 G27)<|sOp S29 (oFa G3 1)<|sOp S30 (oLd1 G29)<|sNil) gN S31 251 (xsC G28<|xsC G30<|xsN)<| .fin (sOp S32 (oGe 3 G31 q0)<|vM S24 G32<|sNil))) (.cond G24 (.bad) (.seq (.rg (.fin (vM S35 G0<|sOp S36 (oNc G35)<|sOp S37 (oFa G36 0)<|sOp S38 (oLd1 G37)<|sOp S39 (oLenl G38)<|sOp S40 (oGe 3 G39 q16)<|vM S34 G40<|sNil))) (.cond G34 (.bad) (.seq (.rg (.call (sOp S43 (oFa G3 2)<|sOp S44 (oLd1 G43)<|sOp S45 (oSQ true G44 (xC (.s [])))<|vM S46 G45<|sOpG (gG G46 true) S47 (oMv G0)<|sOpG (gG G46 true) S48 (oNc G47)<|sOpG (gG G46 true) S49 (oFa G48 0)<|sOpG (gG G46 true) S50 (oLd1 G49)<|sOpG (gG G46 true) S51 (oFa G3 2)<|sOpG (gG G46 true) S52 (oLd1 G51)<|sNil) (gG G46 true) S53 251 (xsC G50<|xsC G52<|xsN)<| .fin (sOpG (gG G46 true) S54 (oLt 3 G53 q0)<|sOp S55 (oPick G46 G54 (xC (.b false)))<|vM S42 G55<|sNil))) (.cond G42 (.bad) (.skip)))))))))) (.seq (.rg (.call (vM S57 G0<|sOp S58 (oFa G3 1)<|sOp S59 (oLd1 G58)<|sOp S60 (oFa G3 2)<|sOp S61 (oLd1 G60)<|sNil) gN S62 317 (xsC G57<|xsC G59<|xsC G61<|xsN)<| .fin (vM S6 G62<|sNil))) (.seq (.seq (.rg (.fin (vM S63 G6<|sOp S64 (oEq true 3 G63 q0)<|sNil))) (.cond G64 (.bad) (.skip))) (.seq (.rg (.fin (sOp S7 (oMv (xC .ns))<|sNil))) (.seq (.seq (.rg (.call (sOp S67 (oFa G3 2)<|sOp S68 (oLd1 G67)<|sOp S69 (oSQ true G68 (xC (.s [])))<|vM S70 G69<|sOpG (gG G70 true) S71 (oMv G0)<|sOpG (gG G70 true) S72 (oNc G71)<|sOpG (gG G70 true) S73 (oFa G72 0)<|sOpG (gG G70 true) S74 (oLd1 G73)<|sOpG (gG G70 true) S75 (oMv G0)<|sOpG (gG G70 true) S76 (oNc G75)<|sOpG (gG G70 true) S77 (oFa G76 0)<|sOpG (gG G70 true) S78 (oLd1 G77)<|sOpG (gG G70 true) S79 (oFa G3 2)<|sOpG (gG G70 true) S80 (oLd1 G79)<|sNil) (gG G70 true) S81 251 (xsC G78<|xsC G80<|xsN)<| .fin (sAg (gG G70 true) G74 (oLd1 G73)<|sOpG (gG G70 true) S82 (oIas G74 G81 8)<|sOpG (gG G70 true) S83 (oFa G82 7)<|sOpG (gG G70 true) S84 (oLd1 G83)<|sOp S85 (oPick G70 G84 (xC (.b false)))<|sNil))) (.cond G85 (.bad) (.skip))) (.seq (.rg (.fin (sOp S93 (oFa G3 1)<|sOp S94 (oLd1 G93)<|sOp S95 (oFa G3 4)<|sOp S96 (oLd1 G95)<|sOp S97 (oFa G3 5)<|sOp S98 (oLd1 G97)<|sOp S99 (oFa G3 2)<|sOp S100 (oLd1 G99)<|sOp S101 (oBld [(.s []),(.i 3 (.ofNat 0)),(.i 3 (.ofNat 0)),(.s []),.ns,.ns,.ns,(.b false)] (pPt 0 1 G94<|pPt 1 1 G96<|pPt 2 1 G98<|pPt 3 1 G100<|pNil))<|sOp S8 (oAl [(.s []),(.i 3 (.ofNat 0)),(.i 3 (.ofNat 0)),(.s []),.ns,.ns,.ns,(.b false)] 8)<|sOp dN (oSt G8 G101 8)<|sNil))) (.seq (.seq (.rg (.fin (vM S9 q0<|sNil))) (.blk 1 (.loop (.seq (.seq (.rg (.fin (vM S102 G9<|sOp S103 (oFa G3 5)<|sOp S104 (oLd1 G103)<|sOp S105 (oFa G3 4)<|sOp S106 (oLd1 G105)<|sOp S107 (oCvi 7 G106)<|sOp S108 (oShr 3 G104 G107)<|sOp S109 (oLt 3 G102 G108)<|sNil))) (.cond G109 (.skip) (.exit 1))) (.seq (.blk 2 (.rg (.fin (sOp S112 (oFa G8 4)<|sOp S113 (oLd1 G112)<|sOp S114 (oBsl [.ns] 1 1 (pPt 0 1 (xC .ns)<|pNil))<|sOp S115 (oApn G113 G114 1 24)<|sOp S116 (oFa G8 4)<|sOp dN (oSt G116 G115 1)<|sNil)))) (.rg (.fin (vM S110 G9<|sOp S111 (oAr arAdd 3 G110 q1)<|vM S9 G111<|sNil)))))))) (.seq (.rg (.call (vM S117 G0<|vM S118 G0<|sOp S119 (oNc G118)<|sOp S120 (oFa G119 0)<|sOp S121 (oLd1 G120)<|sOp S122 (oLd G8 8)<|sNil) gN S123 318 (xsC G121<|xsC G122<|xsN)<| .fin (sOp S124 (oNc G117)<|sOp S125 (oFa G124 0)<|sOp dN (oSt G125 G123 1)<|sNil))) (.seq (.rg (.call (sOp S126 (oBld [(.i 3 (.ofNat 0)),.ns,.ns,.ns,(.i 3 (.ofNat 0)),(.i 3 (.ofNat 0))] pNil)<|vM S127 G7<|vM S128 G0<|sOp S129 (oFa G3 1)<|sOp S130 (oLd1 G129)<|sNil) gN S131 257 (xsC G128<|xsC G130<|xsN)<| .fin (sOp S132 (oBsl [.np] 1 1 (pPt 0 1 G131<|pNil))<|sOp S133 (oApn G127 G132 1 8)<|sOp dN (oSt G4 G126 6)<|vM S5 G133<|sNil))) (.ret))))))))))) (dRs [.c 4 6,.t 5])
def nc251:AFn:=.mk (.seq (.rg (.fin (vM S4 q0<|sNil))) (.seq (.seq (.rg (.fin (vM S5 q0<|sNil))) (.blk 0 (.loop (.seq (.seq (.rg (.fin (vM S6 G5<|vM S7 G0<|sOp S8 (oLenl G7)<|sOp S9 (oLt 3 G6 G8)<|sNil))) (.cond G9 (.skip) (.exit 0))) (.seq (.blk 1 (.seq (.rg (.fin (vM S12 G0<|vM S13 G5<|sOp S14 (oIas G12 G13 8)<|sOp S15 (oFa G14 0)<|sOp S16 (oLd1 G15)<|vM S17 G1<|sOp S18 (oSQ false G16 G17)<|sNil))) (.cond G18 (.seq (.rg (.fin (vM S19 G5<|vM S4 G19<|sNil))) (.ret)) (.skip)))) (.bad)))))) (.seq (.rg (.fin (sOp S4 (oMv (xC (.i 3 (.negSucc 0))))<|sNil))) (.ret)))) (r1 (.t 4))
def nc255:AFn:=.mk (.seq (.rg (.fin (sOp S2 (oMv (xC .np))<|sNil))) (.seq (.rg (.call (vM S3 G0<|sOp S4 (oNc G3)<|sOp S5 (oFa G4 1)<|sOp S6 (oLd1 G5)<|vM S8 G0<|sOp S9 (oNc G8)<|sOp S10 (oFa G9 1)<|sOp S11 (oLd1 G10)<|sNil) gN S7 322 (xsC G6<|xsN)<| .call (sAg gN G11 (oLd1 G10)<|sNil) gN S12 322 (xsC G11<|xsN)<| .fin (sOp S13 (oBld [.ns,.ns] (pPt 0 1 G7<|pPt 1 1 G12<|pNil))<|sOp S14 (oBx G13)<|vM S2 G14<|sNil))) (.ret))) (r1 (.t 2))
def nc257:AFn:=.mk (.seq (.rg (.fin (sOp S4 (oMv (xC .np))<|sNil))) (.seq (.rg (.call (vM S6 G0<|sOp S7 (oNc G6)<|sOp S8 (oFa G7 0)<|sOp S9 (oLd1 G8)<|vM S10 G1<|sNil) gN S11 251 (xsC G9<|xsC G10<|xsN)<| .fin (vM S5 G11<|sNil))) (.seq (.rg (.fin (vM S12 G0<|sOp S13 (oNc G12)<|sOp S14 (oFa G13 0)<|sOp S15 (oLd1 G14)<|vM S16 G5<|sOp S17 (oIas G15 G16 8)<|sOp S18 (oFa G17 7)<|sOp dN (oSt G18 (xC (.b false)) 1)<|sNil))) (.seq (.rg (.call (vM S19 G0<|vM S20 G0<|sOp S21 (oNc G20)<|sOp S22 (oFa G21 1)<|sOp S23 (oLd1 G22)<|vM S24 G0<|sOp S25 (oNc G24)<|sOp S26 (oFa G25 0)<|sOp S27 (oLd1 G26)<|vM S28 G5<|sOp S29 (oIas G27 G28 8)<|sOp S30 (oLd G29 8)<|sNil) gN S31 326 (xsC G30<|xsN)<| .call (sAg gN G23 (oLd1 G22)<|sNil) gN S32 318 (xsC G23<|xsC G31<|xsN)<| .fin (sOp S33 (oNc G19)<|sOp S34 (oFa G33 1)<|sOp dN (oSt G34 G32 1)<|sNil))) (.seq (.rg (.call (vM S35 G0<|sNil) gN S36 255 (xsC G35<|xsN)<| .fin (vM S4 G36<|sNil))) (.ret)))))) (r1 (.t 4))
def nc269:AFn:=.mk (.seq (.rg (.fin (sOp S8 (oMv (xC (.i 7 (.ofNat 0))))<|vM S9 q0<|sNil))) (.seq (.seq (.rg (.fin (vM S13 G2<|sOp S14 (oLt 3 G13 q1)<|vM S15 G14<|sOpG (gG G15 false) S16 (oMv G2)<|sOpG (gG G15 false) S17 (oGt 3 G16 q8)<|sOp S18 (oPick G15 (xC (.b true)) G17)<|sNil))) (.cond G18 (.bad) (.skip))) (.seq (.seq (.rg (.fin (vM S19 G1<|sOp S20 (oLt 3 G19 q0)<|vM S21 G20<|sOpG (gG G21 false) S22 (oMv G1)<|sOpG (gG G21 false) S23 (oMv G0)<|sOpG (gG G21 false) S24 (oLenl G23)<|sOpG (gG G21 false) S25 (oGt 3 G22 G24)<|sOp S26 (oPick G21 (xC (.b true)) G25)<|vM S27 G26<|sOpG (gG G27 false) S28 (oMv G0)<|sOpG (gG G27 false) S29 (oLenl G28)<|sOpG (gG G27 false) S30 (oMv G1)<|sOpG (gG G27 false) S31 (oAr arSub 3 G29 G30)<|sOpG (gG G27 false) S32 (oMv G2)<|sOpG (gG G27 false) S33 (oLt 3 G31 G32)<|sOp S34 (oPick G27 (xC (.b true)) G33)<|sNil))) (.cond G34 (.bad) (.skip))) (.seq (.rg (.fin (sOp S10 (oMv (xC (.i 7 (.ofNat 0))))<|sNil))) (.seq (.seq (.rg (.fin (vM S11 q0<|sNil))) (.blk 0 (.loop (.seq (.seq (.rg (.fin (vM S35 G11<|vM S36 G2<|sOp S37 (oLt 3 G35 G36)<|sNil))) (.cond G37 (.skip) (.exit 0))) (.seq (.blk 1 (.seq (.rg (.fin (vM S40 G11<|vM S12 G40<|sNil))) (.seq (.seq (.rg (.fin (vM S41 G3<|sOp S42 (oNt G41)<|sNil))) (.cond G42 (.rg (.fin (vM S43 G2<|sOp S44 (oAr arSub 3 G43 q1)<|vM S45 G11<|sOp S46 (oAr arSub 3 G44 G45)<|vM S12 G46<|sNil))) (.skip))) (.rg (.fin (vM S47 G10<|sOp S48 (oShl 7 G47 (xC (.i 7 (.ofNat 8))))<|vM S49 G0<|vM S50 G1<|vM S51 G12<|sOp S52 (oAr arAdd 3 G50 G51)<|sOp S53 (oIas G49 G52 1)<|sOp S54 (oLd1 G53)<|sOp S55 (oCvi 7 G54)<|sOp S56 (oAr arOr 7 G48 G55)<|vM S10 G56<|sNil)))))) (.rg (.fin (vM S38 G11<|sOp S39 (oAr arAdd 3 G38 q1)<|vM S11 G39<|sNil)))))))) (.seq (.rg (.fin (vM S57 G10<|vM S8 G57<|vM S9 q0<|sNil))) (.ret))))))) (dRs [.t 8,.t 9])
def nc271:AFn:=.mk (.seq (.rg (.fin (vM S4 q0<|sNil))) (.seq (.seq (.rg (.fin (vM S6 G0<|sOp S7 (oLenl G6)<|vM S8 q0<|sNil))) (.blk 0 (.loop (.seq (.rg (.fin (sOp S9 (oLt 3 G8 G7)<|sNil))) (.seq (.cond G9 (.skip) (.exit 0)) (.seq (.blk 1 (.seq (.rg (.fin (vM S10 G8<|vM S5 G10<|sNil))) (.seq (.rg (.calv (vM S11 G1<|vM S12 G0<|vM S13 G5<|sOp S14 (oIas G12 G13 1)<|sOp S15 (oLd1 G14)<|sNil) gN S16 G11 (xsC G15<|xsN)<| .fin (sNil))) (.cond G16 (.bad) (.skip))))) (.rg (.fin (sOp S18 (oAr arAdd 3 G8 q1)<|vM S8 G18<|sNil))))))))) (.seq (.rg (.fin (sOp S4 (oMv (xC (.i 3 (.negSucc 0))))<|sNil))) (.ret)))) (r1 (.t 4))
def nc272:AFn:=.mk (.seq (.rg (.fin (sOp S8 (oMv (xC .ns))<|vM S9 q0<|sNil))) (.seq (.blk 0 (.seq (.rg (.fin (vM S14 G1<|sOp S15 (oLt 3 G14 q1)<|vM S16 G15<|sOpG (gG G16 false) S17 (oMv G1)<|sOpG (gG G16 false) S18 (oGt 3 G17 q8)<|sOp S19 (oPick G16 (xC (.b true)) G18)<|vM S13 G19<|sNil))) (.cond G13 (.bad) (.seq (.rg (.fin (vM S21 G1<|sOp S22 (oLt 3 G21 q8)<|vM S23 G22<|sOpG (gG G23 true) S24 (oMv G3)<|sOpG (gG G23 true) S25 (oMv G1)<|sOpG (gG G23 true) S26 (oAr arMul 3 q8 G25)<|sOpG (gG G23 true) S27 (oShr 7 G24 G26)<|sOpG (gG G23 true) S28 (oEq true 7 G27 (xC (.i 7 (.ofNat 0))))<|sOp S29 (oPick G23 G28 (xC (.b false)))<|vM S20 G29<|sNil))) (.cond G20 (.bad) (.skip)))))) (.seq (.rg (.fin (vM S30 G0<|sOp S31 (oLenl G30)<|vM S32 G1<|sOp S33 (oAr arAdd 3 G31 G32)<|sOp S34 (oMks q0 G33 1 [(.i 4 (.ofNat 0))] 1)<|vM S35 G0<|sOp S36 (oApn G34 G35 1 1)<|vM S10 G36<|sNil))) (.seq (.seq (.rg (.fin (vM S37 G1<|vM S38 q0<|sNil))) (.blk 1 (.loop (.seq (.rg (.fin (sOp S39 (oLt 3 G38 G37)<|sNil))) (.seq (.cond G39 (.skip) (.exit 1)) (.seq (.blk 2 (.seq (.rg (.fin (vM S40 G38<|vM S11 G40<|sNil))) (.seq (.rg (.fin (vM S41 G11<|vM S12 G41<|sNil))) (.seq (.seq (.rg (.fin (vM S42 G2<|sNil))) (.cond G42 (.bad) (.skip))) (.rg (.fin (vM S47 G10<|vM S48 G3<|vM S49 G12<|sOp S50 (oAr arMul 3 q8 G49)<|sOp S51 (oShr 7 G48 G50)<|sOp S52 (oCvi 4 G51)<|sOp S53 (oBsl [(.i 4 (.ofNat 0))] 1 1 (pPt 0 1 G52<|pNil))<|sOp S54 (oApn G47 G53 1 1)<|vM S10 G54<|sNil))))))) (.rg (.fin (sOp S55 (oAr arAdd 3 G38 q1)<|vM S38 G55<|sNil))))))))) (.seq (.rg (.fin (vM S56 G10<|vM S8 G56<|vM S9 q0<|sNil))) (.ret)))))) (dRs [.t 8,.t 9])
def nc277:AFn:=.mk (.seq (.rg (.fin (vM S2 q0<|sNil))) (.seq (.rg (.fin (vM S3 G0<|sOp S4 (oNc G3)<|sOp S5 (oFa G4 0)<|sOp S6 (oAld 3 G5)<|vM S2 G6<|sNil))) (.ret))) (r1 (.t 2))
def nc278:AFn:=.mk (.seq (.rg (.fin (vM S6 q0<|sOp S7 (oMv (xC (.b false)))<|sNil))) (.seq (.seq (.rg (.fin (vM S8 G0<|vM S9 G2<|vM S10 G1<|sOp S11 (oAr arSub 3 G9 G10)<|sOp S12 (oGt 3 G8 G11)<|sNil))) (.cond G12 (.bad) (.skip))) (.seq (.rg (.fin (vM S13 G0<|vM S6 G13<|sOp S7 (oMv (xC (.b true)))<|sNil))) (.ret)))) (dRs [.t 6,.t 7])
def nc279:AFn:=.mk (.seq (.rg (.call (vM S4 G0<|sOp S5 (oNc G4)<|sOp S6 (oFa G5 0)<|sNil) gN S7 349 (xsC G6<|xsN)<| .fin (sOp S8 (oNt G7)<|sNil))) (.cond G8 (.rg (.call (vM S9 G0<|vM S10 G1<|sNil) gN S11 350 (xsC G9<|xsC G10<|xsN)<| .fin (sNil))) (.skip))) (dRs [])
def nc284:AFn:=.mk (.seq (.rg (.fin (sOp S4 (oMv (xC (.b false)))<|sNil))) (.seq (.rg (.fin (vM S5 G0<|sOp S6 (oGe 3 G5 q0)<|vM S7 G6<|sOpG (gG G7 true) S8 (oMv G0)<|sOpG (gG G7 true) S9 (oLe 3 G8 q4096)<|sOp S10 (oPick G7 G9 (xC (.b false)))<|vM S11 G10<|sOpG (gG G11 true) S12 (oMv G0)<|sOpG (gG G11 true) S13 (oMv G1)<|sOpG (gG G11 true) S14 (oCvi 7 G13)<|sOpG (gG G11 true) S15 (oShr 3 G12 G14)<|sOpG (gG G11 true) S16 (oMv G1)<|sOpG (gG G11 true) S17 (oCvi 7 G16)<|sOpG (gG G11 true) S18 (oShl 3 G15 G17)<|sOpG (gG G11 true) S19 (oMv G0)<|sOpG (gG G11 true) S20 (oEq false 3 G18 G19)<|sOp S21 (oPick G11 G20 (xC (.b false)))<|vM S4 G21<|sNil))) (.ret))) (r1 (.t 4))
def nc291:AFn:=.mk (.seq (.rg (.fin (vM S4 q0<|sNil))) (.blk 0 (.loop (.seq (.rg (.fin (sOp S5 (oLt 3 G4 q16)<|sNil))) (.seq (.cond G5 (.skip) (.exit 0)) (.seq (.blk 1 (.seq (.rg (.fin (vM S6 G4<|vM S1 G6<|sNil))) (.seq (.rg (.fin (vM S7 G1<|sOp S8 (oCvi 6 G7)<|vM S2 G8<|sNil))) (.seq (.seq (.rg (.fin (vM S9 q0<|sNil))) (.blk 2 (.loop (.seq (.rg (.fin (sOp S10 (oLt 3 G9 q4)<|sNil))) (.seq (.cond G10 (.skip) (.exit 2)) (.seq (.blk 3 (.seq (.rg (.fin (vM S11 G2<|sOp S12 (oAr arAnd 6 G11 (xC (.i 6 (.ofNat 1))))<|vM S3 G12<|sNil))) (.seq (.rg (.fin (vM S13 G2<|sOp S14 (oShr 6 G13 (xC (.i 7 (.ofNat 1))))<|vM S2 G14<|sNil))) (.seq (.rg (.fin (vM S15 G3<|sOp S16 (oEq false 6 G15 (xC (.i 6 (.ofNat 1))))<|sNil))) (.cond G16 (.rg (.fin (vM S17 G2<|sOp S18 (oAr arXor 6 G17 (xC (.i 6 (.ofNat 2197175160))))<|vM S2 G18<|sNil))) (.skip)))))) (.rg (.fin (sOp S19 (oAr arAdd 3 G9 q1)<|vM S9 G19<|sNil))))))))) (.rg (.fin (sOp S20 (oLd1 G0)<|vM S21 G1<|vM S22 G2<|sOp S23 (oNc G20)<|sOp S24 (oFa G23 3)<|sOp S25 (oIaa G24 G21 16 1)<|sOp dN (oSt G25 G22 1)<|sNil))))))) (.rg (.fin (sOp S26 (oAr arAdd 3 G4 q1)<|vM S4 G26<|sNil))))))))) (dRs [])
def nc294:AFn:=.mk (.seq (.rg (.fin (sOp S4 (oMv (xC .ns))<|vM S5 q0<|sNil))) (.seq (.rg (.fin (sOp S6 (oAl [(.i 3 (.ofNat 0))] 1)<|sNil))) (.seq (.rg (.call (vM S9 G1<|sOp S10 (oLens G9)<|sNil) gN S11 128 (xsC G6<|xsC G10<|xsN)<| .fin (sNil))) (.seq (.seq (.rg (.call (sNil) gN S12 277 (xsC G6<|xsN)<| .fin (sOp S13 (oGt 3 G12 (xC (.i 3 (.ofNat 65535))))<|sNil))) (.cond G13 (.bad) (.skip))) (.seq (.rg (.call (vM S15 G0<|sNil) gN S16 277 (xsC G6<|xsN)<| .call (sOp S17 (oCvi 7 G16)<|sNil) gN S18 272 (xsC G15<|xsC q2<|xsC (xC (.b false))<|xsC G17<|xsN)<| .fin (vM S14 G18<|sOp S19 (oExt G14 0)<|sOp S20 (oExt G14 1)<|vM S7 G19<|vM S8 G20<|sNil))) (.seq (.rg (.fin (vM S21 G7<|vM S22 G1<|sOp S23 (oApn G21 G22 1 1)<|vM S24 G8<|vM S4 G23<|vM S5 G24<|sNil))) (.ret))))))) (dRs [.t 4,.t 5])
def nc295:AFn:=.mk (.seq (.rg (.fin (sOp S2 (oBx G0)<|sOp S4 (oMv (xC .ns))<|vM S5 q0<|sNil))) (.seq (.seq (.rg (.call (sOp S18 (oLd G2 1)<|vM S19 G1<|sNil) gN S20 147 (xsC G18<|xsC q4096<|xsC G19<|xsN)<| .fin (sOp S21 (oNt G20)<|sNil))) (.cond G21 (.bad) (.skip))) (.seq (.rg (.fin (vM S6 q0<|sNil))) (.seq (.rg (.fin (sOp S7 (oMv (xC .ns))<|sNil))) (.seq (.seq (.rg (.fin (sOp S22 (oFa G2 0)<|sOp S23 (oLd1 G22)<|sOp S24 (oLenl G23)<|vM S25 q0<|sNil))) (.blk 0 (.loop (.seq (.rg (.fin (sOp S26 (oLt 3 G25 G24)<|sNil))) (.seq (.cond G26 (.skip) (.exit 0)) (.bad)))))) (.seq (.rg (.call (vM S62 G6<|sOp S63 (oCvi 7 G62)<|sNil) gN S64 272 (xsC (xC .ns)<|xsC q2<|xsC (xC (.b false))<|xsC G63<|xsN)<| .fin (vM S61 G64<|sOp S65 (oExt G61 0)<|sOp S66 (oExt G61 1)<|vM S16 G65<|vM S17 G66<|sNil))) (.seq (.rg (.fin (vM S67 G16<|vM S68 G7<|sOp S69 (oApn G67 G68 1 1)<|vM S4 G69<|vM S5 q0<|sNil))) (.ret)))))))) (dRs [.t 4,.t 5])
def nc304:AFn:=.mk (.seq (.rg (.fin (sOp S6 (oFa G1 0)<|sOp S7 (oLd1 G6)<|sOp S8 (oLenl G7)<|sOp S9 (oAr arMul 3 G8 q8)<|vM S10 q0<|sNil))) (.blk 0 (.loop (.seq (.rg (.fin (sOp S11 (oLt 3 G10 G9)<|sNil))) (.seq (.cond G11 (.skip) (.exit 0)) (.bad)))))) (dRs [])
def nc316:AFn:=.mk (.seq (.rg (.fin (sOp S4 (oMv (xC (.b false)))<|sNil))) (.seq (.rg (.call (vM S5 G1<|sOp S6 (oGe 3 G5 q0)<|vM S7 G6<|sOpG (gG G7 true) S8 (oMv G1)<|sOpG (gG G7 true) S9 (oLe 3 G8 q6)<|sOp S10 (oPick G7 G9 (xC (.b false)))<|vM S11 G10<|sOpG (gG G11 true) S12 (oMv G0)<|sOpG (gG G11 true) S13 (oMv G1)<|sNil) (gG G11 true) S14 284 (xsC G12<|xsC G13<|xsN)<| .fin (sOp S15 (oPick G11 G14 (xC (.b false)))<|vM S4 G15<|sNil))) (.ret))) (r1 (.t 4))
def nc317:AFn:=.mk (.seq (.rg (.fin (vM S6 q0<|sNil))) (.seq (.rg (.call (vM S10 G0<|vM S11 G1<|vM S12 G2<|sNil) gN S13 363 (xsC G10<|xsC G11<|xsC G12<|xsN)<| .fin (vM S7 G13<|sNil))) (.seq (.rg (.call (vM S14 G7<|vM S15 G1<|sNil) gN S16 45 (xsC G14<|xsC G15<|xsN)<| .fin (vM S8 G16<|sNil))) (.seq (.seq (.rg (.fin (vM S9 q0<|sNil))) (.blk 0 (.loop (.seq (.seq (.rg (.fin (vM S17 G9<|vM S18 G7<|sOp S19 (oLenl G18)<|sOp S20 (oLt 3 G17 G19)<|vM S21 G20<|sOpG (gG G21 true) S22 (oMv G8)<|sOpG (gG G21 true) S23 (oEq false 3 G22 q0)<|sOp S24 (oPick G21 G23 (xC (.b false)))<|sNil))) (.cond G24 (.skip) (.exit 0))) (.seq (.blk 1 (.rg (.call (vM S27 G7<|vM S28 G7<|vM S29 G9<|sOp S30 (oIas G28 G29 2)<|sOp S31 (oFa G30 0)<|sOp S32 (oLd1 G31)<|sNil) gN S33 45 (xsC G27<|xsC G32<|xsN)<| .fin (vM S8 G33<|sNil)))) (.rg (.fin (vM S25 G9<|sOp S26 (oAr arAdd 3 G25 q1)<|vM S9 G26<|sNil)))))))) (.seq (.rg (.fin (vM S34 G8<|vM S6 G34<|sNil))) (.ret)))))) (r1 (.t 6))
def nc318:AFn:=.mk (.seq (.rg (.fin (sOp S3 (oBx G1)<|sOp S4 (oMv (xC .ns))<|sNil))) (.seq (.rg (.fin (sOp S5 (oMv (xC .ns))<|sNil))) (.seq (.rg (.fin (sOp S6 (oMv (xC (.b false)))<|sNil))) (.seq (.seq (.rg (.fin (vM S7 q0<|sNil))) (.blk 0 (.loop (.seq (.seq (.rg (.fin (vM S8 G7<|vM S9 G0<|sOp S10 (oLenl G9)<|sOp S11 (oLt 3 G8 G10)<|sNil))) (.cond G11 (.skip) (.exit 0))) (.bad))))) (.seq (.seq (.rg (.fin (vM S45 G6<|sOp S46 (oNt G45)<|sNil))) (.cond G46 (.rg (.fin (vM S47 G5<|sOp S48 (oLd G3 8)<|sOp S49 (oBsl [(.s []),(.i 3 (.ofNat 0)),(.i 3 (.ofNat 0)),(.s []),.ns,.ns,.ns,(.b false)] 8 1 (pPt 0 8 G48<|pNil))<|sOp S50 (oApn G47 G49 8 128)<|vM S5 G50<|sNil))) (.skip))) (.seq (.rg (.fin (vM S51 G5<|vM S4 G51<|sNil))) (.ret))))))) (r1 (.t 4))
def nc322:AFn:=.mk (.seq (.rg (.fin (sOp S2 (oMv (xC .ns))<|sNil))) (.seq (.rg (.fin (sOp S3 (oMv (xC .ns))<|sNil))) (.seq (.seq (.rg (.fin (vM S4 q0<|sNil))) (.blk 0 (.loop (.seq (.seq (.rg (.fin (vM S5 G4<|vM S6 G0<|sOp S7 (oLenl G6)<|sOp S8 (oLt 3 G5 G7)<|sNil))) (.cond G8 (.skip) (.exit 0))) (.seq (.blk 1 (.rg (.call (vM S11 G3<|vM S12 G0<|vM S13 G4<|sOp S14 (oIas G12 G13 8)<|sOp S15 (oLd G14 8)<|sNil) gN S16 326 (xsC G15<|xsN)<| .fin (sOp S17 (oBsl [(.s []),(.i 3 (.ofNat 0)),(.i 3 (.ofNat 0)),(.s []),.ns,.ns,.ns,(.b false)] 8 1 (pPt 0 8 G16<|pNil))<|sOp S18 (oApn G11 G17 8 128)<|vM S3 G18<|sNil)))) (.rg (.fin (vM S9 G4<|sOp S10 (oAr arAdd 3 G9 q1)<|vM S4 G10<|sNil)))))))) (.seq (.rg (.fin (vM S19 G3<|vM S2 G19<|sNil))) (.ret))))) (r1 (.t 2))
def nc326:AFn:=.mk (.seq (.rg (.fin (sOp S1 (oBx G0)<|sOp S2 (oAl [(.s []),(.i 3 (.ofNat 0)),(.i 3 (.ofNat 0)),(.s []),.ns,.ns,.ns,(.b false)] 8)<|sNil))) (.seq (.rg (.call (sOp S6 (oFa G1 4)<|sOp S7 (oLd1 G6)<|sNil) gN S8 327 (xsC G7<|xsN)<| .fin (sOp S9 (oFa G1 4)<|sOp dN (oSt G9 G8 1)<|sNil))) (.seq (.rg (.fin (sOp S3 (oMv (xC .ns))<|sNil))) (.seq (.seq (.rg (.fin (vM S4 q0<|sNil))) (.blk 0 (.loop (.seq (.seq (.rg (.fin (vM S10 G4<|sOp S11 (oFa G1 5)<|sOp S12 (oLd1 G11)<|sOp S13 (oLenl G12)<|sOp S14 (oLt 3 G10 G13)<|sNil))) (.cond G14 (.skip) (.exit 0))) (.bad))))) (.seq (.rg (.fin (vM S30 G3<|sOp S31 (oFa G1 5)<|sOp dN (oSt G31 G30 1)<|sNil))) (.seq (.rg (.call (sOp S32 (oFa G1 6)<|sOp S33 (oLd1 G32)<|sOp S34 (oBld [(.i 3 (.ofNat 0)),(.i 3 (.ofNat 0))] pNil)<|sNil) gN S35 328 (xsC G33<|xsC G34<|xsN)<| .fin (sOp S36 (oFa G1 6)<|sOp dN (oSt G36 G35 1)<|sNil))) (.seq (.rg (.fin (sOp S37 (oLd G1 8)<|sOp dN (oSt G2 G37 8)<|sNil))) (.ret)))))))) (r1 (.c 2 8))
def nc327:AFn:=.mk (.seq (.rg (.fin (sOp S2 (oMv (xC .ns))<|sNil))) (.seq (.rg (.fin (sOp S3 (oMv (xC .ns))<|sNil))) (.seq (.seq (.rg (.fin (vM S4 q0<|sNil))) (.blk 0 (.loop (.seq (.seq (.rg (.fin (vM S5 G4<|vM S6 G0<|sOp S7 (oLenl G6)<|sOp S8 (oLt 3 G5 G7)<|sNil))) (.cond G8 (.skip) (.exit 0))) (.seq (.blk 1 (.seq (.rg (.fin (vM S11 G0<|vM S12 G4<|sOp S13 (oIas G11 G12 1)<|sOp S14 (oLd1 G13)<|sOp S15 (oEqn false 1 G14 (xC .ns))<|sNil))) (.cond G15 (.rg (.fin (vM S16 G3<|sOp S17 (oBsl [.ns] 1 1 (pPt 0 1 (xC .ns)<|pNil))<|sOp S18 (oApn G16 G17 1 24)<|vM S3 G18<|sNil))) (.bad)))) (.rg (.fin (vM S9 G4<|sOp S10 (oAr arAdd 3 G9 q1)<|vM S4 G10<|sNil)))))))) (.seq (.rg (.fin (vM S28 G3<|vM S2 G28<|sNil))) (.ret))))) (r1 (.t 2))
def nc328:AFn:=.mk (.seq (.rg (.fin (sOp S3 (oBx G1)<|sOp S4 (oMv (xC .ns))<|sNil))) (.seq (.rg (.call (vM S7 G0<|sNil) gN S8 162 (xsC G7<|xsN)<| .fin (vM S5 G8<|sNil))) (.seq (.seq (.rg (.fin (vM S6 q0<|sNil))) (.blk 0 (.loop (.seq (.seq (.rg (.fin (vM S9 G6<|vM S10 G5<|sOp S11 (oLenl G10)<|sOp S12 (oLt 3 G9 G11)<|sNil))) (.cond G12 (.skip) (.exit 0))) (.bad))))) (.seq (.rg (.fin (vM S31 G5<|vM S4 G31<|sNil))) (.ret))))) (r1 (.t 4))
def nc349:AFn:=.mk (.seq (.rg (.fin (sOp S2 (oMv (xC (.b false)))<|sNil))) (.seq (.rg (.fin (vM S3 G0<|sOp S4 (oNc G3)<|sOp S5 (oFa G4 0)<|sOp S6 (oAld 6 G5)<|sOp S7 (oEq true 6 G6 (xC (.i 6 (.ofNat 0))))<|vM S2 G7<|sNil))) (.ret))) (r1 (.t 2))
def nc350:AFn:=.mk (.seq (.rg (.call (vM S4 G0<|sOp S5 (oNc G4)<|sOp S6 (oFa G5 1)<|sNil) gN S7 372 (xsC G6<|xsN)<| .fin (sNil))) (.seq (.rg (.dfr (vM S8 G0<|sOp S9 (oNc G8)<|sOp S10 (oFa G9 1)<|sNil) gN dN (xC (.fn 373 [])) (xsC G10<|xsN)<| .fin (sNil))) (.seq (.rg (.call (vM S11 G0<|sOp S12 (oNc G11)<|sOp S13 (oFa G12 0)<|sNil) gN S14 349 (xsC G13<|xsN)<| .fin (sOp S15 (oNt G14)<|sNil))) (.cond G15 (.seq (.rg (.dfr (vM S16 G0<|sOp S17 (oNc G16)<|sOp S18 (oFa G17 0)<|sNil) gN dN (xC (.fn 374 [])) (xsC G18<|xsC (xC (.b true))<|xsN)<| .fin (sNil))) (.rg (.calv (vM S19 G1<|sNil) gN S20 G19 xsN<| .fin (sNil)))) (.skip))))) (dRs [])
def nc363:AFn:=.mk (.seq (.rg (.fin (sOp S6 (oMv (xC .ns))<|sNil))) (.seq (.rg (.fin (sOp S7 (oMv (xC .ns))<|sNil))) (.seq (.rg (.fin (sOp S8 (oMv (xC (.b false)))<|sNil))) (.seq (.seq (.rg (.fin (vM S9 q0<|sNil))) (.blk 0 (.loop (.seq (.seq (.rg (.fin (vM S11 G9<|vM S12 G0<|sOp S13 (oNc G12)<|sOp S14 (oFa G13 0)<|sOp S15 (oLd1 G14)<|sOp S16 (oLenl G15)<|sOp S17 (oLt 3 G11 G16)<|sNil))) (.cond G17 (.skip) (.exit 0))) (.bad))))) (.seq (.seq (.rg (.fin (vM S47 G8<|sOp S48 (oNt G47)<|sNil))) (.cond G48 (.rg (.fin (vM S49 G7<|vM S50 G1<|vM S51 G2<|sOp S52 (oBld [(.s []),(.s [])] (pPt 0 1 G50<|pPt 1 1 G51<|pNil))<|sOp S53 (oBsl [(.s []),(.s [])] 2 1 (pPt 0 2 G52<|pNil))<|sOp S54 (oApn G49 G53 2 32)<|vM S7 G54<|sNil))) (.skip))) (.seq (.rg (.fin (vM S55 G7<|vM S6 G55<|sNil))) (.ret))))))) (r1 (.t 6))
def nc372:AFn:=.mk (.rg (.call (vM S2 G0<|sOp S3 (oNc G2)<|sOp S4 (oFa G3 0)<|sNil) gN S5 378 (xsC G4<|xsN)<| .fin (sNil))) (dRs [])
def nc373:AFn:=.mk (.rg (.call (vM S2 G0<|sOp S3 (oNc G2)<|sOp S4 (oFa G3 0)<|sNil) gN S5 379 (xsC G4<|xsN)<| .fin (sNil))) (dRs [])
def nc374:AFn:=.mk (.rg (.call (vM S4 G0<|sOp S5 (oNc G4)<|sOp S6 (oFa G5 0)<|vM S7 G1<|sNil) gN S8 381 (xsC G7<|xsN)<| .fin (sOp S9 (oAst G6 G8)<|sNil))) (dRs [])
def nc378:AFn:=.mk (.seq (.rg (.fin (sOp S2 (oNop)<|sNil))) (.seq (.seq (.rg (.fin (vM S3 G0<|sOp S4 (oNc G3)<|sOp S5 (oFa G4 0)<|sOp S6 (oAcs 2 G5 (xC (.i 2 (.ofNat 0))) (xC (.i 2 (.ofNat 1))))<|sNil))) (.cond G6 (.seq (.cond (xC (.b true)) (.seq (.rg (.fin (sOp S7 (oNop)<|sNil))) (.rg (.fin (vM S8 G0<|sOp S9 (oUptr G8)<|sOp S10 (oNopp G9)<|sNil)))) (.skip)) (.ret)) (.skip))) (.bad))) (dRs [])
def nc379:AFn:=.mk (.seq (.cond (xC (.b true)) (.seq (.rg (.fin (vM S3 G0<|sOp S4 (oNc G3)<|sOp S5 (oFa G4 0)<|sOp S6 (oLd1 G5)<|sNil))) (.seq (.rg (.fin (vM S7 G0<|sOp S8 (oUptr G7)<|sOp S9 (oNopp G8)<|sNil))) (.rg (.fin (sOp S10 (oNop)<|sNil))))) (.skip)) (.seq (.rg (.fin (vM S11 G0<|sOp S12 (oNc G11)<|sOp S13 (oFa G12 0)<|sOp S14 (oAad 2 G13 (xC (.i 2 (.negSucc 0))))<|vM S2 G14<|sNil))) (.seq (.seq (.rg (.fin (vM S15 G2<|sOp S16 (oEq true 2 G15 (xC (.i 2 (.ofNat 0))))<|sNil))) (.cond G16 (.bad) (.skip))) (.rg (.fin (sOp S20 (oNop)<|sNil)))))) (dRs [])
def nc381:AFn:=.mk (.seq (.rg (.fin (sOp S2 (oMv (xC (.i 6 (.ofNat 0))))<|sNil))) (.seq (.seq (.rg (.fin (vM S3 G0<|sNil))) (.cond G3 (.seq (.rg (.fin (sOp S2 (oMv (xC (.i 6 (.ofNat 1))))<|sNil))) (.ret)) (.skip))) (.bad))) (r1 (.t 2))
end
end Go.AM

namespace Go.AM
open Go
noncomputable def ncT : Tb := .mk (@N8.mk (L (Option AFn) 3) (@N8.mk (L (Option AFn) 2) (@N8.mk (L (Option AFn) 1) (repL (Option AFn) none 1) (@N8.mk (L (Option AFn) 0) (repL (Option AFn) none 0) (repL (Option AFn) none 0) (repL (Option AFn) none 0) (some nc11) (repL (Option AFn) none 0) (some nc13) (some nc14) (some nc15)) (repL (Option AFn) none 1) (@N8.mk (L (Option AFn) 0) (repL (Option AFn) none 0) (repL (Option AFn) none 0) (some nc26) (repL (Option AFn) none 0) (repL (Option AFn) none 0) (repL (Option AFn) none 0) (some nc30) (some nc31)) (@N8.mk (L (Option AFn) 0) (repL (Option AFn) none 0) (some nc33) (some nc34) (repL (Option AFn) none 0) (repL (Option AFn) none 0) (repL (Option AFn) none 0) (some nc38) (repL (Option AFn) none 0)) (@N8.mk (L (Option AFn) 0) (repL (Option AFn) none 0) (repL (Option AFn) none 0) (repL (Option AFn) none 0) (some nc43) (repL (Option AFn) none 0) (some nc45) (some nc46) (repL (Option AFn) none 0)) (@N8.mk (L (Option AFn) 0) (repL (Option AFn) none 0) (some nc49) (some nc50) (some nc51) (repL (Option AFn) none 0) (some nc53) (some nc54) (some nc55)) (@N8.mk (L (Option AFn) 0) (some nc56) (some nc57) (some nc58) (repL (Option AFn) none 0) (repL (Option AFn) none 0) (repL (Option AFn) none 0) (repL (Option AFn) none 0) (repL (Option AFn) none 0))) (@N8.mk (L (Option AFn) 1) (@N8.mk (L (Option AFn) 0) (repL (Option AFn) none 0) (some nc65) (repL (Option AFn) none 0) (repL (Option AFn) none 0) (repL (Option AFn) none 0) (repL (Option AFn) none 0) (repL (Option AFn) none 0) (some nc71)) (@N8.mk (L (Option AFn) 0) (some nc72) (some nc73) (repL (Option AFn) none 0) (repL (Option AFn) none 0) (repL (Option AFn) none 0) (some nc77) (some nc78) (some nc79)) (@N8.mk (L (Option AFn) 0) (some nc80) (some nc81) (some nc82) (some nc83) (some nc84) (repL (Option AFn) none 0) (repL (Option AFn) none 0) (repL (Option AFn) none 0)) (@N8.mk (L (Option AFn) 0) (repL (Option AFn) none 0) (some nc89) (repL (Option AFn) none 0) (repL (Option AFn) none 0) (some nc92) (repL (Option AFn) none 0) (some nc94) (some nc95)) (@N8.mk (L (Option AFn) 0) (some nc96) (repL (Option AFn) none 0) (some nc98) (some nc99) (some nc100) (some nc101) (some nc102) (repL (Option AFn) none 0)) (@N8.mk (L (Option AFn) 0) (some nc104) (some nc105) (some nc106) (repL (Option AFn) none 0) (some nc108) (repL (Option AFn) none 0) (repL (Option AFn) none 0) (repL (Option AFn) none 0)) (@N8.mk (L (Option AFn) 0) (repL (Option AFn) none 0) (repL (Option AFn) none 0) (repL (Option AFn) none 0) (repL (Option AFn) none 0) (some nc116) (repL (Option AFn) none 0) (some nc118) (some nc119)) (@N8.mk (L (Option AFn) 0) (some nc120) (some nc121) (some nc122) (some nc123) (some nc124) (some nc125) (some nc126) (some nc127))) (@N8.mk (L (Option AFn) 1) (@N8.mk (L (Option AFn) 0) (some nc128) (repL (Option AFn) none 0) (repL (Option AFn) none 0) (repL (Option AFn) none 0) (repL (Option AFn) none 0) (repL (Option AFn) none 0) (repL (Option AFn) none 0) (repL (Option AFn) none 0)) (@N8.mk (L (Option AFn) 0) (repL (Option AFn) none 0) (repL (Option AFn) none 0) (some nc138) (repL (Option AFn) none 0) (repL (Option AFn) none 0) (some nc141) (repL (Option AFn) none 0) (some nc143)) (@N8.mk (L (Option AFn) 0) (repL (Option AFn) none 0) (repL (Option AFn) none 0) (some nc146) (some nc147) (repL (Option AFn) none 0) (some nc149) (some nc150) (some nc151)) (@N8.mk (L (Option AFn) 0) (repL (Option AFn) none 0) (repL (Option AFn) none 0) (repL (Option AFn) none 0) (some nc155) (some nc156) (some nc157) (repL (Option AFn) none 0) (repL (Option AFn) none 0)) (@N8.mk (L (Option AFn) 0) (repL (Option AFn) none 0) (repL (Option AFn) none 0) (some nc162) (repL (Option AFn) none 0) (repL (Option AFn) none 0) (repL (Option AFn) none 0) (repL (Option AFn) none 0) (some nc167)) (@N8.mk (L (Option AFn) 0) (repL (Option AFn) none 0) (repL (Option AFn) none 0) (repL (Option AFn) none 0) (repL (Option AFn) none 0) (repL (Option AFn) none 0) (repL (Option AFn) none 0) (some nc174) (some nc175)) (@N8.mk (L (Option AFn) 0) (repL (Option AFn) none 0) (repL (Option AFn) none 0) (some nc178) (some nc179) (repL (Option AFn) none 0) (some nc181) (repL (Option AFn) none 0) (some nc183)) (@N8.mk (L (Option AFn) 0) (some nc184) (some nc185) (some nc186) (repL (Option AFn) none 0) (some nc188) (some nc189) (repL (Option AFn) none 0) (repL (Option AFn) none 0))) (@N8.mk (L (Option AFn) 1) (@N8.mk (L (Option AFn) 0) (repL (Option AFn) none 0) (repL (Option AFn) none 0) (repL (Option AFn) none 0) (repL (Option AFn) none 0) (repL (Option AFn) none 0) (repL (Option AFn) none 0) (repL (Option AFn) none 0) (some nc199)) (@N8.mk (L (Option AFn) 0) (some nc200) (some nc201) (some nc202) (some nc203) (some nc204) (repL (Option AFn) none 0) (repL (Option AFn) none 0) (repL (Option AFn) none 0)) (@N8.mk (L (Option AFn) 0) (repL (Option AFn) none 0) (repL (Option AFn) none 0) (repL (Option AFn) none 0) (repL (Option AFn) none 0) (repL (Option AFn) none 0) (repL (Option AFn) none 0) (repL (Option AFn) none 0) (some nc215)) (@N8.mk (L (Option AFn) 0) (repL (Option AFn) none 0) (repL (Option AFn) none 0) (repL (Option AFn) none 0) (repL (Option AFn) none 0) (repL (Option AFn) none 0) (some nc221) (some nc222) (some nc223)) (@N8.mk (L (Option AFn) 0) (repL (Option AFn) none 0) (some nc225) (repL (Option AFn) none 0) (some nc227) (repL (Option AFn) none 0) (repL (Option AFn) none 0) (repL (Option AFn) none 0) (repL (Option AFn) none 0)) (@N8.mk (L (Option AFn) 0) (repL (Option AFn) none 0) (repL (Option AFn) none 0) (repL (Option AFn) none 0) (repL (Option AFn) none 0) (some nc236) (some nc237) (some nc238) (repL (Option AFn) none 0)) (repL (Option AFn) none 1) (@N8.mk (L (Option AFn) 0) (repL (Option AFn) none 0) (repL (Option AFn) none 0) (some nc250) (some nc251) (repL (Option AFn) none 0) (repL (Option AFn) none 0) (repL (Option AFn) none 0) (some nc255))) (@N8.mk (L (Option AFn) 1) (@N8.mk (L (Option AFn) 0) (repL (Option AFn) none 0) (some nc257) (repL (Option AFn) none 0) (repL (Option AFn) none 0) (repL (Option AFn) none 0) (repL (Option AFn) none 0) (repL (Option AFn) none 0) (repL (Option AFn) none 0)) (@N8.mk (L (Option AFn) 0) (repL (Option AFn) none 0) (repL (Option AFn) none 0) (repL (Option AFn) none 0) (repL (Option AFn) none 0) (repL (Option AFn) none 0) (some nc269) (repL (Option AFn) none 0) (some nc271)) (@N8.mk (L (Option AFn) 0) (some nc272) (repL (Option AFn) none 0) (repL (Option AFn) none 0) (repL (Option AFn) none 0) (repL (Option AFn) none 0) (some nc277) (some nc278) (some nc279)) (@N8.mk (L (Option AFn) 0) (repL (Option AFn) none 0) (repL (Option AFn) none 0) (repL (Option AFn) none 0) (repL (Option AFn) none 0) (some nc284) (repL (Option AFn) none 0) (repL (Option AFn) none 0) (repL (Option AFn) none 0)) (@N8.mk (L (Option AFn) 0) (repL (Option AFn) none 0) (repL (Option AFn) none 0) (repL (Option AFn) none 0) (some nc291) (repL (Option AFn) none 0) (repL (Option AFn) none 0) (some nc294) (some nc295)) (repL (Option AFn) none 1) (@N8.mk (L (Option AFn) 0) (some nc304) (repL (Option AFn) none 0) (repL (Option AFn) none 0) (repL (Option AFn) none 0) (repL (Option AFn) none 0) (repL (Option AFn) none 0) (repL (Option AFn) none 0) (repL (Option AFn) none 0)) (@N8.mk (L (Option AFn) 0) (repL (Option AFn) none 0) (repL (Option AFn) none 0) (repL (Option AFn) none 0) (repL (Option AFn) none 0) (some nc316) (some nc317) (some nc318) (repL (Option AFn) none 0))) (@N8.mk (L (Option AFn) 1) (@N8.mk (L (Option AFn) 0) (repL (Option AFn) none 0) (repL (Option AFn) none 0) (some nc322) (repL (Option AFn) none 0) (repL (Option AFn) none 0) (repL (Option AFn) none 0) (some nc326) (some nc327)) (@N8.mk (L (Option AFn) 0) (some nc328) (repL (Option AFn) none 0) (repL (Option AFn) none 0) (repL (Option AFn) none 0) (repL (Option AFn) none 0) (repL (Option AFn) none 0) (repL (Option AFn) none 0) (repL (Option AFn) none 0)) (repL (Option AFn) none 1) (@N8.mk (L (Option AFn) 0) (repL (Option AFn) none 0) (repL (Option AFn) none 0) (repL (Option AFn) none 0) (repL (Option AFn) none 0) (repL (Option AFn) none 0) (some nc349) (some nc350) (repL (Option AFn) none 0)) (repL (Option AFn) none 1) (@N8.mk (L (Option AFn) 0) (repL (Option AFn) none 0) (repL (Option AFn) none 0) (repL (Option AFn) none 0) (some nc363) (repL (Option AFn) none 0) (repL (Option AFn) none 0) (repL (Option AFn) none 0) (repL (Option AFn) none 0)) (@N8.mk (L (Option AFn) 0) (repL (Option AFn) none 0) (repL (Option AFn) none 0) (repL (Option AFn) none 0) (repL (Option AFn) none 0) (some nc372) (some nc373) (some nc374) (repL (Option AFn) none 0)) (@N8.mk (L (Option AFn) 0) (repL (Option AFn) none 0) (repL (Option AFn) none 0) (some nc378) (some nc379) (repL (Option AFn) none 0) (some nc381) (repL (Option AFn) none 0) (repL (Option AFn) none 0))) (repL (Option AFn) none 2) (repL (Option AFn) none 2)) (repL (Option AFn) none 3) (repL (Option AFn) none 3) (repL (Option AFn) none 3) (repL (Option AFn) none 3) (repL (Option AFn) none 3) (repL (Option AFn) none 3) (repL (Option AFn) none 3)) (@N8.mk (L (Option ALp) 4) (@N8.mk (L (Option ALp) 3) (repL (Option ALp) none 3) (@N8.mk (L (Option ALp) 2) (repL (Option ALp) none 2) (repL (Option ALp) none 2) (repL (Option ALp) none 2) (repL (Option ALp) none 2) (@N8.mk (L (Option ALp) 1) (repL (Option ALp) none 1) (repL (Option ALp) none 1) (@N8.mk (L (Option ALp) 0) (some ncl784) (repL (Option ALp) none 0) (repL (Option ALp) none 0) (repL (Option ALp) none 0) (repL (Option ALp) none 0) (repL (Option ALp) none 0) (repL (Option ALp) none 0) (repL (Option ALp) none 0)) (repL (Option ALp) none 1) (repL (Option ALp) none 1) (repL (Option ALp) none 1) (repL (Option ALp) none 1) (repL (Option ALp) none 1)) (repL (Option ALp) none 2) (repL (Option ALp) none 2) (repL (Option ALp) none 2)) (repL (Option ALp) none 3) (repL (Option ALp) none 3) (repL (Option ALp) none 3) (repL (Option ALp) none 3) (repL (Option ALp) none 3) (repL (Option ALp) none 3)) (repL (Option ALp) none 4) (repL (Option ALp) none 4) (repL (Option ALp) none 4) (repL (Option ALp) none 4) (repL (Option ALp) none 4) (repL (Option ALp) none 4) (repL (Option ALp) none 4)) true
noncomputable def ncfl : List (Nat × AFn) := [(11,nc11),(13,nc13),(14,nc14),(15,nc15),(26,nc26),(30,nc30),(31,nc31),(33,nc33),(34,nc34),(38,nc38),(43,nc43),(45,nc45),(46,nc46),(49,nc49),(50,nc50),(51,nc51),(53,nc53),(54,nc54),(55,nc55),(56,nc56),(57,nc57),(58,nc58),(65,nc65),(71,nc71),(72,nc72),(73,nc73),(77,nc77),(78,nc78),(79,nc79),(80,nc80),(81,nc81),(82,nc82),(83,nc83),(84,nc84),(89,nc89),(92,nc92),(94,nc94),(95,nc95),(96,nc96),(98,nc98),(99,nc99),(100,nc100),(101,nc101),(102,nc102),(104,nc104),(105,nc105),(106,nc106),(108,nc108),(116,nc116),(118,nc118),(119,nc119),(120,nc120),(121,nc121),(122,nc122),(123,nc123),(124,nc124),(125,nc125),(126,nc126),(127,nc127),(128,nc128),(138,nc138),(141,nc141),(143,nc143),(146,nc146),(147,nc147),(149,nc149),(150,nc150),(151,nc151),(155,nc155),(156,nc156),(157,nc157),(162,nc162),(167,nc167),(174,nc174),(175,nc175),(178,nc178),(179,nc179),(181,nc181),(183,nc183),(184,nc184),(185,nc185),(186,nc186),(188,nc188),(189,nc189),(199,nc199),(200,nc200),(201,nc201),(202,nc202),(203,nc203),(204,nc204),(215,nc215),(221,nc221),(222,nc222),(223,nc223),(225,nc225),(227,nc227),(236,nc236),(237,nc237),(238,nc238),(250,nc250),(251,nc251),(255,nc255),(257,nc257),(269,nc269),(271,nc271),(272,nc272),(277,nc277),(278,nc278),(279,nc279),(284,nc284),(291,nc291),(294,nc294),(295,nc295),(304,nc304),(316,nc316),(317,nc317),(318,nc318),(322,nc322),(326,nc326),(327,nc327),(328,nc328),(349,nc349),(350,nc350),(363,nc363),(372,nc372),(373,nc373),(374,nc374),(378,nc378),(379,nc379),(381,nc381)]
noncomputable def ncll : List (Nat × ALp) := [(784,ncl784)]
theorem ncT_eq : ncT = .mk (mkT 4 ncfl) (mkT 5 ncll) true := by kernel_rfl
end Go.AM

namespace Go.AM
open Go
set_option maxHeartbeats 0
set_option maxRecDepth 100000
theorem ncok11 : FOk Proofs.Tryz.prog (11,nc11) := fOk (by decide) (by kernel_rfl)
theorem ncok13 : FOk Proofs.Tryz.prog (13,nc13) := fOkP (m := (.two .all (.two (.two .all (.two .cut .all)) .all))) (by decide) (by kernel_rfl)
theorem ncok14 : FOk Proofs.Tryz.prog (14,nc14) := fOkP (m := (.two .all (.two (.two .all (.two .all (.two .cut .all))) (.two (.one (.two .all (.two .cut (.two .all (.two .cut .all))))) .all)))) (by decide) (by kernel_rfl)
theorem ncok15 : FOk Proofs.Tryz.prog (15,nc15) := fOkP (m := (.two .all (.two .all (.two .all (.two (.one (.two .all (.two .cut (.two .all (.two .cut (.two .all (.two .cut (.two .all (.two .cut (.two .all (.two .cut (.two .all (.two .cut .all))))))))))))) (.two (.two .all (.one (.one (.two .all (.two .all (.two (.one (.two .all (.two .all (.two .all (.two .cut .all))))) .all)))))) .all)))))) (by decide) (by kernel_rfl)
theorem ncok26 : FOk Proofs.Tryz.prog (26,nc26) := fOkP (m := (.two .all (.two .all (.two (.two .all (.two .cut .all)) (.two (.two .all (.two .all (.two .cut .all))) (.two .all (.two .all (.two (.two .all (.two .all (.two .cut .all))) .all)))))))) (by decide) (by kernel_rfl)
theorem ncok30 : FOk Proofs.Tryz.prog (30,nc30) := fOkP (m := (.two .all (.two (.two .all (.two .all (.two .cut .all))) (.two (.two .all (.two .cut .all)) (.two .all (.two (.two .all (.one (.one (.two .all (.two .all .cut))))) (.two .all (.two (.two .all (.two .cut .all)) .all)))))))) (by decide) (by kernel_rfl)
theorem ncok31 : FOk Proofs.Tryz.prog (31,nc31) := fOkP (m := (.two .all (.two (.two .all (.two .cut .all)) (.two .all (.two (.two .all (.two .cut .all)) .all))))) (by decide) (by kernel_rfl)
theorem ncok33 : FOk Proofs.Tryz.prog (33,nc33) := fOkP (m := (.two .all (.two (.two .all (.two .all (.two .cut .all))) (.two .all (.two (.one (.two .all (.two .cut (.two .all (.two .cut .all))))) (.two .all (.two .all (.two (.two .all (.one (.two .all (.two .all .cut)))) .cut)))))))) (by decide) (by kernel_rfl)
theorem ncok34 : FOk Proofs.Tryz.prog (34,nc34) := fOkP (m := (.two .all (.two (.two .all (.two .cut .all)) .all))) (by decide) (by kernel_rfl)
theorem ncok38 : FOk Proofs.Tryz.prog (38,nc38) := fOkP (m := (.two .all (.two .all (.two (.one (.two .all (.two .cut (.two .all (.two .cut .all))))) (.two .all (.two (.two .all (.one (.one (.two .all (.two .all .cut))))) .all)))))) (by decide) (by kernel_rfl)
theorem ncok43 : FOk Proofs.Tryz.prog (43,nc43) := fOk (by decide) (by kernel_rfl)
theorem ncok45 : FOk Proofs.Tryz.prog (45,nc45) := fOkP (m := (.two .all (.two .all (.two (.two .all (.two .cut .all)) (.two .all (.one (.one (.one (.two .all (.two .all .cut)))))))))) (by decide) (by kernel_rfl)
theorem ncok46 : FOk Proofs.Tryz.prog (46,nc46) := fOkP (m := (.two .all (.two .all (.two (.two .all (.two .cut .all)) .all)))) (by decide) (by kernel_rfl)
theorem ncok49 : FOk Proofs.Tryz.prog (49,nc49) := fOkP (m := (.two .all (.two .all (.two .all (.two (.two .all (.two .cut .all)) (.two .all (.two .all (.two (.two .all (.two .cut .all)) .all)))))))) (by decide) (by kernel_rfl)
theorem ncok50 : FOk Proofs.Tryz.prog (50,nc50) := fOk (by decide) (by kernel_rfl)
theorem ncok51 : FOk Proofs.Tryz.prog (51,nc51) := fOkP (m := (.two .all (.two .all .cut))) (by decide) (by kernel_rfl)
theorem ncok53 : FOk Proofs.Tryz.prog (53,nc53) := ⟨by decide,nc53p,by kernel_rfl,(.seq (.refl _) (.seq (.refl _) (.seq (.refl _) (.seq (.refl _) (.seq (.refl _) (.seq (.refl _) (.seq (.refl _) (.seq (.refl _) (.seq (.refl _) (.seq (.refl _) (.seq (.seq (.refl _) (.spl kept_ok)) (.refl _))))))))))))⟩
theorem ncok54 : FOk Proofs.Tryz.prog (54,nc54) := fOkP (m := (.two .all (.two (.one (.two .all (.two .cut (.two .all (.two .cut .all))))) .all))) (by decide) (by kernel_rfl)
theorem ncok55 : FOk Proofs.Tryz.prog (55,nc55) := fOk (by decide) (by kernel_rfl)
theorem ncok56 : FOk Proofs.Tryz.prog (56,nc56) := fOkP (m := (.two .all (.two (.two .all (.two .all (.two .cut .all))) (.two .all (.two (.two .all (.two .cut .all)) .all))))) (by decide) (by kernel_rfl)
theorem ncok57 : FOk Proofs.Tryz.prog (57,nc57) := fOkP (m := (.two .all (.two (.two .all (.two .cut .all)) .all))) (by decide) (by kernel_rfl)
theorem ncok58 : FOk Proofs.Tryz.prog (58,nc58) := fOkP (m := (.two .all (.two .all (.two (.two .all (.two .cut .all)) .all)))) (by decide) (by kernel_rfl)
theorem ncok65 : FOk Proofs.Tryz.prog (65,nc65) := fOk (by decide) (by kernel_rfl)
theorem ncok71 : FOk Proofs.Tryz.prog (71,nc71) := fOkP (m := (.two .all (.two (.two .all (.two .cut .all)) (.two (.two .all (.one (.one (.two .all (.two .all (.two (.one (.two .all (.two .all (.two .all (.two .cut .all))))) .all)))))) .all)))) (by decide) (by kernel_rfl)
theorem ncok72 : FOk Proofs.Tryz.prog (72,nc72) := fOkP (m := (.two .all (.two (.two .all (.two .cut .all)) (.two (.two .all (.two .cut .all)) (.two .all (.two (.two .all (.one (.one (.two .all (.two .all .cut))))) (.two (.two .all (.one (.one (.two .all (.two .all .cut))))) (.two (.two .all (.one (.one (.two .all (.two .all (.two (.one (.two .all (.two .all (.two .cut .all)))) .all)))))) .all)))))))) (by decide) (by kernel_rfl)
theorem ncok73 : FOk Proofs.Tryz.prog (73,nc73) := fOk (by decide) (by kernel_rfl)
theorem ncok77 : FOk Proofs.Tryz.prog (77,nc77) := fOkP (m := (.two .all (.two (.two .all (.two .cut .all)) (.two (.two .all (.two .all (.two .cut .all))) .all)))) (by decide) (by kernel_rfl)
theorem ncok78 : FOk Proofs.Tryz.prog (78,nc78) := fOkP (m := (.two .all (.two (.two .all (.two .cut .all)) (.two .all (.two .all (.two (.two .all (.one (.one (.two .all (.two .all .cut))))) .all)))))) (by decide) (by kernel_rfl)
theorem ncok79 : FOk Proofs.Tryz.prog (79,nc79) := fOkP (m := (.two .all (.two .all (.two .all (.two (.two .all (.one (.one (.two .all (.two .all .cut))))) (.two .all (.two (.two .all (.one (.one (.two .all (.two .all .cut))))) .all))))))) (by decide) (by kernel_rfl)
theorem ncok80 : FOk Proofs.Tryz.prog (80,nc80) := fOkP (m := (.two .all (.two .all .cut))) (by decide) (by kernel_rfl)
theorem ncok81 : FOk Proofs.Tryz.prog (81,nc81) := fOkP (m := (.two .all (.two .all .cut))) (by decide) (by kernel_rfl)
theorem ncok82 : FOk Proofs.Tryz.prog (82,nc82) := fOkP (m := (.two .all (.two .all .cut))) (by decide) (by kernel_rfl)
theorem ncok83 : FOk Proofs.Tryz.prog (83,nc83) := fOkP (m := (.two .all (.two (.two .all (.two .cut .all)) .all))) (by decide) (by kernel_rfl)
end Go.AM
namespace Go.AM
open Go
set_option maxHeartbeats 0
set_option maxRecDepth 100000
theorem ncok84 : FOk Proofs.Tryz.prog (84,nc84) := fOkP (m := (.two .all (.two (.two .all (.two .cut .all)) (.two (.two .all (.one (.one (.two .all (.two (.one (.two .all (.two .all (.two .cut .all)))) .all))))) .all)))) (by decide) (by kernel_rfl)
theorem ncok89 : FOk Proofs.Tryz.prog (89,nc89) := fOkP (m := (.two .all (.two (.two .all (.one (.one (.two .all .cut)))) .all))) (by decide) (by kernel_rfl)
theorem ncok92 : FOk Proofs.Tryz.prog (92,nc92) := fOkP (m := (.two .all (.two .all (.two .all (.two (.two .all (.one (.one (.two .all (.two (.one (.two .all (.two .all (.two .all (.two (.two .all (.two .cut .all)) (.two .all (.two .all (.two (.two .all (.two .cut .all)) (.two .all (.two .all (.one (.one (.two .all .cut))))))))))))) .all))))) .all))))) (by decide) (by kernel_rfl)
theorem ncok94 : FOk Proofs.Tryz.prog (94,nc94) := fOkP (m := (.two .all (.two (.two .all (.one (.one (.two (.two .all (.two .all .cut)) (.two .all .cut))))) .cut))) (by decide) (by kernel_rfl)
theorem ncok95 : FOk Proofs.Tryz.prog (95,nc95) := fOkP (m := (.two .all (.two (.two .all (.two .cut .all)) (.two .all (.two .all (.two .all (.two .all (.two (.two .all (.one (.one (.two .all .cut)))) (.two (.two .all (.two .cut .all)) (.two (.two .all (.two .cut .all)) .all)))))))))) (by decide) (by kernel_rfl)
theorem ncok96 : FOk Proofs.Tryz.prog (96,nc96) := fOkP (m := (.two .all (.two (.two .all (.two .cut .all)) (.two .all (.two (.two .all (.one (.one (.two .all (.two .all .cut))))) .all))))) (by decide) (by kernel_rfl)
theorem ncok98 : FOk Proofs.Tryz.prog (98,nc98) := fOkP (m := (.two .all (.two (.two .all (.two .cut .all)) (.two .all (.two (.two .all (.one (.one (.two .all .cut)))) .all))))) (by decide) (by kernel_rfl)
theorem ncok99 : FOk Proofs.Tryz.prog (99,nc99) := fOkP (m := (.two .all (.two (.two .all (.two .cut .all)) .all))) (by decide) (by kernel_rfl)
theorem ncok100 : FOk Proofs.Tryz.prog (100,nc100) := fOkP (m := (.two .all (.two .all (.two .all (.two .all .cut))))) (by decide) (by kernel_rfl)
theorem ncok101 : FOk Proofs.Tryz.prog (101,nc101) := fOk (by decide) (by kernel_rfl)
theorem ncok102 : FOk Proofs.Tryz.prog (102,nc102) := fOk (by decide) (by kernel_rfl)
theorem ncok104 : FOk Proofs.Tryz.prog (104,nc104) := fOkP (m := (.two .all (.two (.two .all (.two .cut .all)) (.two .all (.two (.one (.two .all (.two .cut (.two .all (.two .cut .all))))) .all))))) (by decide) (by kernel_rfl)
theorem ncok105 : FOk Proofs.Tryz.prog (105,nc105) := fOk (by decide) (by kernel_rfl)
theorem ncok106 : FOk Proofs.Tryz.prog (106,nc106) := fOkP (m := (.two .all (.two (.two .all (.two .cut .all)) (.two .all (.two .all (.two .all (.two .all (.two .all (.two .all (.two .all (.two (.two .all (.one (.one (.two .all (.two .all .cut))))) (.two .all (.two (.two .all (.two .cut .all)) .all))))))))))))) (by decide) (by kernel_rfl)
theorem ncok108 : FOk Proofs.Tryz.prog (108,nc108) := fOkP (m := (.two .all (.two (.two .all (.two .cut .all)) (.two .all (.two (.one (.two .all (.two .cut (.two .all (.two .cut .all))))) (.two .all (.two .all (.two (.two .all (.one (.one (.two .all (.two .all (.two (.one (.two .all (.two .all (.two (.two .all (.two .cut .all)) (.two .all (.two .all (.two (.two .all (.two .cut .all)) .all))))))) .all)))))) .all)))))))) (by decide) (by kernel_rfl)
theorem ncok116 : FOk Proofs.Tryz.prog (116,nc116) := fOkP (m := (.two .all (.two .all (.two (.two .all (.two .cut .all)) .all)))) (by decide) (by kernel_rfl)
theorem ncok118 : FOk Proofs.Tryz.prog (118,nc118) := fOkP (m := (.two .all (.two .all (.two (.two .all (.two .cut .all)) (.two .all (.two (.one (.two .all (.two .cut .all))) .cut)))))) (by decide) (by kernel_rfl)
theorem ncok119 : FOk Proofs.Tryz.prog (119,nc119) := fOk (by decide) (by kernel_rfl)
theorem ncok120 : FOk Proofs.Tryz.prog (120,nc120) := fOkP (m := (.two .all (.two .all (.two .all (.two .all (.two (.two .all (.two .cut .all)) (.two .all (.two (.two .all (.one (.one (.two (.two .all (.two .all .cut)) (.two (.one (.two .all (.two (.two .all (.two .cut .all)) (.two .all (.two (.two .all (.two .cut .all)) .all))))) .cut))))) .cut)))))))) (by decide) (by kernel_rfl)
theorem ncok121 : FOk Proofs.Tryz.prog (121,nc121) := fOkP (m := (.two .all (.two (.two .all (.two .cut .all)) .all))) (by decide) (by kernel_rfl)
theorem ncok122 : FOk Proofs.Tryz.prog (122,nc122) := fOk (by decide) (by kernel_rfl)
theorem ncok123 : FOk Proofs.Tryz.prog (123,nc123) := fOk (by decide) (by kernel_rfl)
theorem ncok124 : FOk Proofs.Tryz.prog (124,nc124) := fOk (by decide) (by kernel_rfl)
theorem ncok125 : FOk Proofs.Tryz.prog (125,nc125) := fOk (by decide) (by kernel_rfl)
theorem ncok126 : FOk Proofs.Tryz.prog (126,nc126) := fOkP (m := (.two .all (.two .all (.two .all (.two (.two .all (.one (.one (.two .all (.two (.one (.two .all (.two .all (.two .cut .all)))) .all))))) .all))))) (by decide) (by kernel_rfl)
theorem ncok127 : FOk Proofs.Tryz.prog (127,nc127) := fOk (by decide) (by kernel_rfl)
theorem ncok128 : FOk Proofs.Tryz.prog (128,nc128) := fOk (by decide) (by kernel_rfl)
theorem ncok138 : FOk Proofs.Tryz.prog (138,nc138) := fOk (by decide) (by kernel_rfl)
theorem ncok141 : FOk Proofs.Tryz.prog (141,nc141) := fOkP (m := (.two .all (.two (.two .all (.two .cut .all)) (.two .all (.two .all (.two .all (.two .all (.two .all (.two .all (.two (.two .all (.one (.one (.two .all (.two .all .cut))))) (.two .all (.two (.two .all (.one (.one (.two .all (.two .all .cut))))) (.two .all (.two (.two .all (.two .cut .all)) .all)))))))))))))) (by decide) (by kernel_rfl)
theorem ncok143 : FOk Proofs.Tryz.prog (143,nc143) := fOk (by decide) (by kernel_rfl)
theorem ncok146 : FOk Proofs.Tryz.prog (146,nc146) := fOk (by decide) (by kernel_rfl)
theorem ncok147 : FOk Proofs.Tryz.prog (147,nc147) := fOkP (m := (.two .all (.two (.two .all (.two .cut .all)) (.two (.two .all (.one (.one (.two .all (.two .all .cut))))) .all)))) (by decide) (by kernel_rfl)
theorem ncok149 : FOk Proofs.Tryz.prog (149,nc149) := fOkP (m := (.two .all (.two .all (.two (.two .all (.one (.one (.two .all (.two .all .cut))))) .all)))) (by decide) (by kernel_rfl)
end Go.AM
namespace Go.AM
open Go
set_option maxHeartbeats 0
set_option maxRecDepth 100000
theorem ncok150 : FOk Proofs.Tryz.prog (150,nc150) := fOkP (m := (.two .all (.two (.two .all (.two .cut .all)) .all))) (by decide) (by kernel_rfl)
theorem ncok151 : FOk Proofs.Tryz.prog (151,nc151) := fOk (by decide) (by kernel_rfl)
theorem ncok155 : FOk Proofs.Tryz.prog (155,nc155) := fOkP (m := (.two .all (.two .all (.two (.two .all (.one (.one (.two .all (.two .all .cut))))) .all)))) (by decide) (by kernel_rfl)
theorem ncok156 : FOk Proofs.Tryz.prog (156,nc156) := fOkP (m := (.two .all (.two .all .cut))) (by decide) (by kernel_rfl)
theorem ncok157 : FOk Proofs.Tryz.prog (157,nc157) := fOkP (m := (.two .all (.two .all .cut))) (by decide) (by kernel_rfl)
theorem ncok162 : FOk Proofs.Tryz.prog (162,nc162) := fOkP (m := (.two .all (.two .all (.two (.two .all (.one (.one (.two .all .cut)))) .all)))) (by decide) (by kernel_rfl)
theorem ncok167 : FOk Proofs.Tryz.prog (167,nc167) := fOkP (m := (.two .all (.two .all (.two (.two .all (.one (.one (.two .all (.two .all .cut))))) .all)))) (by decide) (by kernel_rfl)
theorem ncok174 : FOk Proofs.Tryz.prog (174,nc174) := fOk (by decide) (by kernel_rfl)
theorem ncok175 : FOk Proofs.Tryz.prog (175,nc175) := fOkP (m := (.two .all (.two (.two .all (.two .cut .all)) (.two (.two .all (.two .cut .all)) (.two .all .cut))))) (by decide) (by kernel_rfl)
theorem ncok178 : FOk Proofs.Tryz.prog (178,nc178) := fOk (by decide) (by kernel_rfl)
theorem ncok179 : FOk Proofs.Tryz.prog (179,nc179) := fOkP (m := (.two .all (.two (.two .all (.one (.one (.two .all (.two .all .cut))))) .all))) (by decide) (by kernel_rfl)
theorem ncok181 : FOk Proofs.Tryz.prog (181,nc181) := fOk (by decide) (by kernel_rfl)
theorem ncok183 : FOk Proofs.Tryz.prog (183,nc183) := fOk (by decide) (by kernel_rfl)
theorem ncok184 : FOk Proofs.Tryz.prog (184,nc184) := fOk (by decide) (by kernel_rfl)
theorem ncok185 : FOk Proofs.Tryz.prog (185,nc185) := fOk (by decide) (by kernel_rfl)
theorem ncok186 : FOk Proofs.Tryz.prog (186,nc186) := fOk (by decide) (by kernel_rfl)
theorem ncok188 : FOk Proofs.Tryz.prog (188,nc188) := fOkP (m := (.two .all (.two (.two .all (.two .cut .all)) .all))) (by decide) (by kernel_rfl)
theorem ncok189 : FOk Proofs.Tryz.prog (189,nc189) := fOkP (m := (.two .all (.two .all (.two .all .cut)))) (by decide) (by kernel_rfl)
theorem ncok199 : FOk Proofs.Tryz.prog (199,nc199) := ⟨by decide,nc199p,by kernel_rfl,(.seq (.refl _) (.seq (.refl _) (.seq (.spl free_ok) (.refl _))))⟩
theorem ncok200 : FOk Proofs.Tryz.prog (200,nc200) := fOkP (m := (.two .all (.two .all (.one (.one (.one (.two .all (.two .all (.two .all (.two (.two .all (.two .cut .all)) .all)))))))))) (by decide) (by kernel_rfl)
theorem ncok201 : FOk Proofs.Tryz.prog (201,nc201) := fOkP (m := (.two .all (.two (.two .all (.two .cut .all)) (.two .all (.two (.two .all (.one (.one (.two (.two .all (.two .all .cut)) (.two (.one (.two (.two .all (.two .cut .all)) .all)) .all))))) .cut))))) (by decide) (by kernel_rfl)
theorem ncok202 : FOk Proofs.Tryz.prog (202,nc202) := fOk (by decide) (by kernel_rfl)
theorem ncok203 : FOk Proofs.Tryz.prog (203,nc203) := fOk (by decide) (by kernel_rfl)
theorem ncok204 : FOk Proofs.Tryz.prog (204,nc204) := fOkP (m := (.two .all (.two (.two .all (.one (.one (.two .all (.two .all (.two .all .cut)))))) .all))) (by decide) (by kernel_rfl)
theorem ncok215 : FOk Proofs.Tryz.prog (215,nc215) := fOk (by decide) (by kernel_rfl)
theorem ncok221 : FOk Proofs.Tryz.prog (221,nc221) := fOk (by decide) (by kernel_rfl)
theorem ncok222 : FOk Proofs.Tryz.prog (222,nc222) := fOk (by decide) (by kernel_rfl)
theorem ncok223 : FOk Proofs.Tryz.prog (223,nc223) := fOk (by decide) (by kernel_rfl)
theorem ncok225 : FOk Proofs.Tryz.prog (225,nc225) := fOk (by decide) (by kernel_rfl)
theorem ncok227 : FOk Proofs.Tryz.prog (227,nc227) := fOk (by decide) (by kernel_rfl)
theorem ncok236 : FOk Proofs.Tryz.prog (236,nc236) := fOk (by decide) (by kernel_rfl)
theorem ncok237 : FOk Proofs.Tryz.prog (237,nc237) := fOk (by decide) (by kernel_rfl)
theorem ncok238 : FOk Proofs.Tryz.prog (238,nc238) := fOk (by decide) (by kernel_rfl)
end Go.AM
namespace Go.AM
open Go
set_option maxHeartbeats 0
set_option maxRecDepth 100000
theorem ncok250 : FOk Proofs.Tryz.prog (250,nc250) := fOkP (m := (.two .all (.two (.one (.two .all (.two .cut (.two .all (.two .cut (.two .all (.two .cut (.two .all (.two .cut .all))))))))) (.two .all (.two (.two .all (.two .cut .all)) (.two .all (.two (.two .all (.two .cut .all)) .all))))))) (by decide) (by kernel_rfl)
theorem ncok251 : FOk Proofs.Tryz.prog (251,nc251) := fOkP (m := (.two .all (.two (.two .all (.one (.one (.two .all (.two .all .cut))))) .all))) (by decide) (by kernel_rfl)
theorem ncok255 : FOk Proofs.Tryz.prog (255,nc255) := fOk (by decide) (by kernel_rfl)
theorem ncok257 : FOk Proofs.Tryz.prog (257,nc257) := fOk (by decide) (by kernel_rfl)
theorem ncok269 : FOk Proofs.Tryz.prog (269,nc269) := fOkP (m := (.two .all (.two (.two .all (.two .cut .all)) (.two (.two .all (.two .cut .all)) .all)))) (by decide) (by kernel_rfl)
theorem ncok271 : FOk Proofs.Tryz.prog (271,nc271) := fOkP (m := (.two .all (.two (.two .all (.one (.one (.two .all (.two .all (.two (.one (.two .all (.two .all (.two .cut .all)))) .all)))))) .all))) (by decide) (by kernel_rfl)
theorem ncok272 : FOk Proofs.Tryz.prog (272,nc272) := fOkP (m := (.two .all (.two (.one (.two .all (.two .cut (.two .all (.two .cut .all))))) (.two .all (.two (.two .all (.one (.one (.two .all (.two .all (.two (.one (.two .all (.two .all (.two (.two .all (.two .cut .all)) .all)))) .all)))))) .all))))) (by decide) (by kernel_rfl)
theorem ncok277 : FOk Proofs.Tryz.prog (277,nc277) := fOk (by decide) (by kernel_rfl)
theorem ncok278 : FOk Proofs.Tryz.prog (278,nc278) := fOkP (m := (.two .all (.two (.two .all (.two .cut .all)) .all))) (by decide) (by kernel_rfl)
theorem ncok279 : FOk Proofs.Tryz.prog (279,nc279) := fOk (by decide) (by kernel_rfl)
theorem ncok284 : FOk Proofs.Tryz.prog (284,nc284) := fOk (by decide) (by kernel_rfl)
theorem ncok291 : FOk Proofs.Tryz.prog (291,nc291) := fOk (by decide) (by kernel_rfl)
theorem ncok294 : FOk Proofs.Tryz.prog (294,nc294) := fOkP (m := (.two .all (.two .all (.two .all (.two (.two .all (.two .cut .all)) .all))))) (by decide) (by kernel_rfl)
theorem ncok295 : FOk Proofs.Tryz.prog (295,nc295) := fOkP (m := (.two .all (.two (.two .all (.two .cut .all)) (.two .all (.two .all (.two (.two .all (.one (.one (.two .all (.two .all .cut))))) .all)))))) (by decide) (by kernel_rfl)
theorem ncok304 : FOk Proofs.Tryz.prog (304,nc304) := fOkP (m := (.two .all (.one (.one (.two .all (.two .all .cut)))))) (by decide) (by kernel_rfl)
theorem ncok316 : FOk Proofs.Tryz.prog (316,nc316) := fOk (by decide) (by kernel_rfl)
theorem ncok317 : FOk Proofs.Tryz.prog (317,nc317) := fOk (by decide) (by kernel_rfl)
theorem ncok318 : FOk Proofs.Tryz.prog (318,nc318) := fOkP (m := (.two .all (.two .all (.two .all (.two (.two .all (.one (.one (.two .all .cut)))) .all))))) (by decide) (by kernel_rfl)
theorem ncok322 : FOk Proofs.Tryz.prog (322,nc322) := fOk (by decide) (by kernel_rfl)
theorem ncok326 : FOk Proofs.Tryz.prog (326,nc326) := fOkP (m := (.two .all (.two .all (.two .all (.two (.two .all (.one (.one (.two .all .cut)))) .all))))) (by decide) (by kernel_rfl)
theorem ncok327 : FOk Proofs.Tryz.prog (327,nc327) := fOkP (m := (.two .all (.two .all (.two (.two .all (.one (.one (.two .all (.two (.one (.two .all (.two .all .cut))) .all))))) .all)))) (by decide) (by kernel_rfl)
theorem ncok328 : FOk Proofs.Tryz.prog (328,nc328) := fOkP (m := (.two .all (.two .all (.two (.two .all (.one (.one (.two .all .cut)))) .all)))) (by decide) (by kernel_rfl)
theorem ncok349 : FOk Proofs.Tryz.prog (349,nc349) := fOk (by decide) (by kernel_rfl)
theorem ncok350 : FOk Proofs.Tryz.prog (350,nc350) := fOk (by decide) (by kernel_rfl)
theorem ncok363 : FOk Proofs.Tryz.prog (363,nc363) := fOkP (m := (.two .all (.two .all (.two .all (.two (.two .all (.one (.one (.two .all .cut)))) .all))))) (by decide) (by kernel_rfl)
theorem ncok372 : FOk Proofs.Tryz.prog (372,nc372) := fOk (by decide) (by kernel_rfl)
theorem ncok373 : FOk Proofs.Tryz.prog (373,nc373) := fOk (by decide) (by kernel_rfl)
theorem ncok374 : FOk Proofs.Tryz.prog (374,nc374) := fOk (by decide) (by kernel_rfl)
theorem ncok378 : FOk Proofs.Tryz.prog (378,nc378) := fOkP (m := (.two .all (.two .all .cut))) (by decide) (by kernel_rfl)
theorem ncok379 : FOk Proofs.Tryz.prog (379,nc379) := fOkP (m := (.two .all (.two .all (.two (.two .all (.two .cut .all)) .all)))) (by decide) (by kernel_rfl)
theorem ncok381 : FOk Proofs.Tryz.prog (381,nc381) := fOkP (m := (.two .all (.two .all .cut))) (by decide) (by kernel_rfl)
theorem nclok784 : LOk Proofs.Tryz.prog (784,ncl784) := ⟨by decide,by kernel_rfl⟩
end Go.AM

namespace Go.AM
open Go
set_option maxHeartbeats 0
set_option maxRecDepth 1000000
noncomputable def ncfc0 : List (Nat × AFn) := [(11,nc11),(13,nc13),(14,nc14),(15,nc15),(26,nc26),(30,nc30),(31,nc31),(33,nc33),(34,nc34),(38,nc38),(43,nc43),(45,nc45),(46,nc46),(49,nc49),(50,nc50),(51,nc51),(53,nc53),(54,nc54),(55,nc55),(56,nc56),(57,nc57),(58,nc58),(65,nc65),(71,nc71),(72,nc72),(73,nc73),(77,nc77),(78,nc78),(79,nc79),(80,nc80),(81,nc81),(82,nc82),(83,nc83),(84,nc84),(89,nc89),(92,nc92),(94,nc94),(95,nc95),(96,nc96),(98,nc98)]
theorem ncfc0_ok : All (FOk Proofs.Tryz.prog) ncfc0 := ⟨ncok11,ncok13,ncok14,ncok15,ncok26,ncok30,ncok31,ncok33,ncok34,ncok38,ncok43,ncok45,ncok46,ncok49,ncok50,ncok51,ncok53,ncok54,ncok55,ncok56,ncok57,ncok58,ncok65,ncok71,ncok72,ncok73,ncok77,ncok78,ncok79,ncok80,ncok81,ncok82,ncok83,ncok84,ncok89,ncok92,ncok94,ncok95,ncok96,ncok98,trivial⟩
noncomputable def ncfc1 : List (Nat × AFn) := [(99,nc99),(100,nc100),(101,nc101),(102,nc102),(104,nc104),(105,nc105),(106,nc106),(108,nc108),(116,nc116),(118,nc118),(119,nc119),(120,nc120),(121,nc121),(122,nc122),(123,nc123),(124,nc124),(125,nc125),(126,nc126),(127,nc127),(128,nc128),(138,nc138),(141,nc141),(143,nc143),(146,nc146),(147,nc147),(149,nc149),(150,nc150),(151,nc151),(155,nc155),(156,nc156),(157,nc157),(162,nc162),(167,nc167),(174,nc174),(175,nc175),(178,nc178),(179,nc179),(181,nc181),(183,nc183),(184,nc184)]
theorem ncfc1_ok : All (FOk Proofs.Tryz.prog) ncfc1 := ⟨ncok99,ncok100,ncok101,ncok102,ncok104,ncok105,ncok106,ncok108,ncok116,ncok118,ncok119,ncok120,ncok121,ncok122,ncok123,ncok124,ncok125,ncok126,ncok127,ncok128,ncok138,ncok141,ncok143,ncok146,ncok147,ncok149,ncok150,ncok151,ncok155,ncok156,ncok157,ncok162,ncok167,ncok174,ncok175,ncok178,ncok179,ncok181,ncok183,ncok184,trivial⟩
noncomputable def ncfc2 : List (Nat × AFn) := [(185,nc185),(186,nc186),(188,nc188),(189,nc189),(199,nc199),(200,nc200),(201,nc201),(202,nc202),(203,nc203),(204,nc204),(215,nc215),(221,nc221),(222,nc222),(223,nc223),(225,nc225),(227,nc227),(236,nc236),(237,nc237),(238,nc238),(250,nc250),(251,nc251),(255,nc255),(257,nc257),(269,nc269),(271,nc271),(272,nc272),(277,nc277),(278,nc278),(279,nc279),(284,nc284),(291,nc291),(294,nc294),(295,nc295),(304,nc304),(316,nc316),(317,nc317),(318,nc318),(322,nc322),(326,nc326),(327,nc327)]
theorem ncfc2_ok : All (FOk Proofs.Tryz.prog) ncfc2 := ⟨ncok185,ncok186,ncok188,ncok189,ncok199,ncok200,ncok201,ncok202,ncok203,ncok204,ncok215,ncok221,ncok222,ncok223,ncok225,ncok227,ncok236,ncok237,ncok238,ncok250,ncok251,ncok255,ncok257,ncok269,ncok271,ncok272,ncok277,ncok278,ncok279,ncok284,ncok291,ncok294,ncok295,ncok304,ncok316,ncok317,ncok318,ncok322,ncok326,ncok327,trivial⟩
noncomputable def ncfc3 : List (Nat × AFn) := [(328,nc328),(349,nc349),(350,nc350),(363,nc363),(372,nc372),(373,nc373),(374,nc374),(378,nc378),(379,nc379),(381,nc381)]
theorem ncfc3_ok : All (FOk Proofs.Tryz.prog) ncfc3 := ⟨ncok328,ncok349,ncok350,ncok363,ncok372,ncok373,ncok374,ncok378,ncok379,ncok381,trivial⟩
noncomputable def nclc0 : List (Nat × ALp) := [(784,ncl784)]
theorem nclc0_ok : All (LOk Proofs.Tryz.prog) nclc0 := ⟨nclok784,trivial⟩
theorem ncfl_eq : ncfl = ncfc0 ++ (ncfc1 ++ (ncfc2 ++ (ncfc3 ++ []))) := by kernel_rfl
theorem ncll_eq : ncll = nclc0 ++ [] := by kernel_rfl
theorem nctb : TbOk ncT Proofs.Tryz.prog := by
  rw [ncT_eq,ncfl_eq,ncll_eq]
  exact tbOk (All.app ncfc0_ok (All.app ncfc1_ok (All.app ncfc2_ok (All.app ncfc3_ok trivial)))) (All.app nclc0_ok trivial)
end Go.AM

namespace Go.AM
open Go
set_option maxHeartbeats 0
set_option maxRecDepth 1000000
theorem awrun : goF ncT 200000 46 [] (fun v _ _ => match v with | .b c => c | _ => false) = true := by kernel_rfl
end Go.AM

namespace Go.Den
open Go
inductive Ct where
  | int (k : IntKind) | bool | str | sl (m : Bool) (cs : List Ct) | oth
inductive U where
  | i (n : Int) | b (x : Bool) | s (x : ByteArray) | l (xs : List U)
def U.int : U → Int | .i n => n | _ => 0
def U.bool : U → Bool | .b x => x | _ => false
def U.str : U → ByteArray | .s x => x | _ => .empty
def U.list : U → List U | .l xs => xs | _ => []
def nth {α : Type} (d : α) : List α → Nat → α
  | [], _ => d
  | x :: _, 0 => x
  | _ :: r, n + 1 => nth d r n
abbrev U.at (l : List U) (k : Nat) : U := nth (.i 0) l k
@[simp] theorem U.int_i (n : Int) : (U.i n).int = n := rfl
@[simp] theorem U.bool_b (x : Bool) : (U.b x).bool = x := rfl
@[simp] theorem U.str_s (x : ByteArray) : (U.s x).str = x := rfl
@[simp] theorem U.list_l (x : List U) : (U.l x).list = x := rfl
@[simp] theorem nth_zero {α : Type} (d x : α) (l : List α) : nth d (x :: l) 0 = x := rfl
@[simp] theorem nth_succ {α : Type} (d x : α) (l : List α) (n : Nat) : nth d (x :: l) (n + 1) = nth d l n := rfl
@[simp] theorem nth_nil {α : Type} (d : α) (n : Nat) : nth d [] n = d := by cases n <;> rfl
@[simp] theorem nth_tail {α : Type} (d : α) (l : List α) (n : Nat) : nth d l.tail n = nth d l (n + 1) := by cases l <;> simp [nth]
@[simp] theorem nth_drop {α : Type} (d : α) : ∀ (k : Nat) (l : List α) (n : Nat), nth d (l.drop k) n = nth d l (k + n)
  | 0, l, n => by simp
  | k + 1, [], n => by simp
  | k + 1, x :: l, n => by rw [List.drop_succ_cons, nth_drop d k l n, show k + 1 + n = (k + n) + 1 by omega]; rfl
inductive SV where
  | val (c : Ct) (u : U)
  | agg (cs : List SV)
  | nil
  | own (id : Nat)
  | ptr (id : Nat) (off : Nat)
  | aptr (id sz idx off : Nat)
  | osl (id j z : Nat)
  | rptr (cs : List Ct) (us : List U)
  | nilp
  | tup (l : List SV)
  | clo (f : FuncId) (cs : List SV)
  | mp (id : Nat)
  | ifc (t : TypeId) (v : SV)
  | nili
  | und
  | unk
inductive Obj where
  | box (cells : List SV)
  | arr (e : TypeId) (xs : List U)
  | map (t : TypeId) (es : List (U × U))
structure St where
  env : List (Nat × SV)
  objs : List (Nat × Obj)
def get : List (Nat × SV) → Nat → SV
  | [], _ => .unk
  | (k, v) :: r, t => bif Nat.beq k t then v else get r t
def getO : List (Nat × Obj) → Nat → Option Obj
  | [], _ => none
  | (k, v) :: r, t => bif Nat.beq k t then some v else getO r t
def dropO : List (Nat × Obj) → Nat → List (Nat × Obj)
  | [], _ => []
  | (k, v) :: r, t => bif Nat.beq k t then dropO r t else (k, v) :: dropO r t
def St.set (σ : St) (t : Nat) (v : SV) : St := ⟨(t, v) :: σ.env, σ.objs⟩
def St.setO (σ : St) (t : Nat) (v : Obj) : St := ⟨σ.env, (t, v) :: dropO σ.objs t⟩
def SV.sub (id : Nat) (x : SV) : SV → SV
  | .own i => bif Nat.beq i id then x else .own i
  | .ptr i o => bif Nat.beq i id then .unk else .ptr i o
  | .aptr i z j o => bif Nat.beq i id then .unk else .aptr i z j o
  | .osl i j z => bif Nat.beq i id then .unk else .osl i j z
  | .agg cs => .agg (subs id x cs)
  | .tup cs => .tup (subs id x cs)
  | .clo f cs => .clo f (subs id x cs)
  | .mp i => bif Nat.beq i id then .unk else .mp i
  | .ifc t v => .ifc t (SV.sub id x v)
  | v => v
  where subs (id : Nat) (x : SV) : List SV → List SV
    | [] => []
    | v :: r => SV.sub id x v :: subs id x r
def subE (id : Nat) (x : SV) : List (Nat × SV) → List (Nat × SV)
  | [] => []
  | (t, v) :: r => (t, SV.sub id x v) :: subE id x r
def subO (id : Nat) (x : SV) : List (Nat × Obj) → List (Nat × Obj)
  | [] => []
  | (t, .box cs) :: r => (t, .box (SV.sub.subs id x cs)) :: subO id x r
  | (t, o) :: r => (t, o) :: subO id x r
def St.kill (σ : St) (id : Nat) : St := ⟨subE id .unk σ.env, subO id .unk σ.objs⟩
def St.new (σ : St) (id : Nat) (o : Obj) : St := (σ.kill id).setO id o
def St.freeze (σ : St) (id : Nat) (x : SV) : St := ⟨subE id x σ.env, subO id x (dropO σ.objs id)⟩
def elemU (m : Bool) (u : U) : List U := match m with | true => u.list | false => [u]
def ofElem (m : Bool) (us : List U) : U := match m with | true => .l us | false => U.at us 0
@[simp] theorem elemU_true (u : U) : elemU true u = u.list := rfl
@[simp] theorem elemU_false (u : U) : elemU false u = [u] := rfl
@[simp] theorem ofElem_true (us : List U) : ofElem true us = .l us := rfl
@[simp] theorem ofElem_false (us : List U) : ofElem false us = U.at us 0 := rfl
def inK (k : IntKind) (n : Int) : Bool := decide (k.min ≤ n) && decide (n ≤ k.max)
mutual

def okC : Ct → U → Prop
  | .int k, u => k.min ≤ u.int ∧ u.int ≤ k.max
  | .bool, _ => True
  | .str, u => u.str.size ≤ maxLen
  | .sl m cs, u => u.list.length ≤ maxLen ∧ ∀ k, k < u.list.length → okCs cs (elemU m (U.at u.list k))
  | .oth, _ => True
def okCs : List Ct → List U → Prop
  | [], _ => True
  | c :: cs, us => okC c (U.at us 0) ∧ okCs cs us.tail
end
def okS : SV → Prop
  | .val c u => okC c u
  | .agg cs => okSs cs
  | .tup cs => okSs cs
  | .clo _ cs => okSs cs
  | .ifc _ v => okS v
  | .rptr cs us => okCs cs us
  | _ => True
  where okSs : List SV → Prop
    | [] => True
    | v :: r => okS v ∧ okSs r
def ofConst : Value → SV
  | .int k n => bif inK k n then .val (.int k) (.i n) else .unk
  | .bool b => .val .bool (.b b)
  | .string s => bif Nat.ble s.size maxLen then .val .str (.s s) else .unk
  | .slice none 0 0 => .nil
  | .pointer none => .nilp
  | .nilIface => .nili
  | _ => .unk
def ofConsts : List Value → List SV
  | [] => []
  | v :: r => ofConst v :: ofConsts r
def St.ev (σ : St) : Operand → SV
  | .tmp t => get σ.env t
  | .const v => ofConst v
  | .func f => .clo f []
  | .global _ => .unk
def Ct.beq : Ct → Ct → Bool
  | .int .i64, .int .i64 => true
  | .int .u8, .int .u8 => true
  | .int .u32, .int .u32 => true
  | .int .u64, .int .u64 => true
  | .int .i32, .int .i32 => true
  | .int .u16, .int .u16 => true
  | .int .i8, .int .i8 => true
  | .int .i16, .int .i16 => true
  | .bool, .bool => true
  | .str, .str => true
  | .sl true a, .sl true b => beqs a b
  | .sl false a, .sl false b => beqs a b
  | _, _ => false
  where beqs : List Ct → List Ct → Bool
    | [], [] => true
    | a :: r, b :: s => match a.beq b with | true => beqs r s | false => false
    | _, _ => false
def fldCts (f : TypeId → Option (Bool × List Ct)) : List Field → Option (List Ct)
  | [] => some []
  | d :: r => match f d.type, fldCts f r with
    | some (_, cs), some ds => some (cs ++ ds)
    | _, _ => none
def cts (P : Program) : Nat → TypeId → Option (Bool × List Ct)
  | 0, _ => none
  | n + 1, t => match P.underlying t with
    | some (.int k) => some (false, [.int k])
    | some .bool => some (false, [.bool])
    | some .string => some (false, [.str])
    | some (.slice e) => match cts P n e with
      | some (m, cs) => some (false, [.sl m cs])
      | none => none
    | some (.struct fs) => match fldCts (cts P n) fs.toList with
      | some cs => some (true, cs)
      | none => none
    | some _ => some (false, [.oth])
    | none => none
def fldElems (f : TypeId → List (Option TypeId)) : List Field → List (Option TypeId)
  | [] => []
  | d :: r => f d.type ++ fldElems f r
def elemsOf (P : Program) : Nat → TypeId → List (Option TypeId)
  | 0, _ => []
  | n + 1, t => match P.underlying t with
    | some (.slice e) => [some e]
    | some (.struct fs) => fldElems (elemsOf P n) fs.toList
    | _ => [none]
abbrev Cs (P : Program) (t : TypeId) : Option (Bool × List Ct) := cts P 8 t
def okO (P : Program) : Obj → Prop
  | .box cells => okS.okSs cells
  | .arr e xs => xs.length ≤ maxLen ∧ ∀ m cs, Cs P e = some (m, cs) → ∀ k, k < xs.length → okCs cs (elemU m (U.at xs k))
  | .map _ _ => True
def okOs (P : Program) : List Obj → Prop
  | [] => True
  | o :: r => okO P o ∧ okOs P r
def aggD : TypeDesc → Bool
  | .struct _ => true
  | .array _ _ => true
  | _ => false
inductive Ex where
  | normal | ret | exit (n : Nat)
abbrev LoopF : Type := (SV → St → Prop) → List SV → List Obj → (Ex → St → Prop) → Prop
inductive Out where
  | ret (rs : List SV)
  | pan (v : SV)
abbrev Objs : Type := List (Nat × Obj)
abbrev Tr : Type := List SV → Objs → (Out → Objs → Prop) → Prop
inductive Ext where
  | load | add
structure Ctx where
  P : Program
  exts : FuncId → Option Ext := fun _ => none
  calm : FuncId → Bool := fun _ => false
  trs : FuncId → Option (List Bool × Tr)
  pan : SV → St → Prop
  fns : FuncId → List (List U) → Option (Option Prop × List (List U))
  eqs : TypeId → Option (List IntKind)
  loops : Nat → Option (List Nat × List Nat × LoopF)
  kout : Nat → Option (List Nat × List Nat)
  lout : Nat → Option (List Nat × List Nat)
def plainU (c : Ct) : SV → Option U
  | .val c' u => match c'.beq c with | true => some u | false => none
  | .nil => match c with | .sl _ _ => some (.l []) | _ => none
  | _ => none
def toU (P : Program) (objs : List (Nat × Obj)) (c : Ct) : SV → Option U
  | .own id => match c, getO objs id with
    | .sl m cs, some (.arr e xs) => match Cs P e with
      | some (m', cs') => match (Ct.sl m' cs').beq (.sl m cs) with | true => some (.l xs) | false => none
      | none => none
    | _, _ => none
  | s => plainU c s
def toUs (f : Ct → SV → Option U) : List Ct → List SV → Option (List U)
  | [], [] => some []
  | c :: cs, v :: vs => match f c v, toUs f cs vs with
    | some u, some us => some (u :: us)
    | _, _ => none
  | _, _ => none
def flat (P : Program) (f : Ct → SV → Option U) (t : TypeId) (v : SV) : Option (List U) := match Cs P t with
  | some (true, cs) => match v with
    | .agg vs => toUs f cs vs
    | _ => none
  | some (false, cs) => toUs f cs [v]
  | none => none
def flats (P : Program) (f : Ct → SV → Option U) : List TypeId → List SV → Option (List (List U))
  | [], [] => some []
  | t :: ts, v :: vs => match flat P f t v, flats P f ts vs with
    | some u, some us => some (u :: us)
    | _, _ => none
  | _, _ => none
def vals : List Ct → List U → List SV
  | [], _ => []
  | c :: cs, us => .val c (U.at us 0) :: vals cs us.tail
def unflat (P : Program) (t : TypeId) (us : List U) : Option SV := match Cs P t with
  | some (true, cs) => some (.agg (vals cs us))
  | some (false, [c]) => some (.val c (U.at us 0))
  | _ => none
def unflats (P : Program) : List TypeId → List (List U) → Option (List SV)
  | [], [] => some []
  | t :: ts, u :: us => match unflat P t u, unflats P ts us with
    | some v, some vs => some (v :: vs)
    | _, _ => none
  | _, _ => none
def handles : List SV → List Nat
  | [] => []
  | .own id :: r => id :: handles r
  | _ :: r => handles r
def strays (os : List Nat) : List Nat → List Nat
  | [] => []
  | id :: r => bif inN id os then strays os r else id :: strays os r
  where inN (id : Nat) : List Nat → Bool
    | [] => false
    | x :: r => Nat.beq id x || inN id r
def St.freezes (P : Program) (σ : St) : List Nat → Option St
  | [] => some σ
  | id :: r => match getO σ.objs id with
    | some (.arr e xs) => match Cs P e with
      | some (m, cs) => St.freezes P (σ.freeze id (.val (.sl m cs) (.l xs))) r
      | none => none
    | some (.box _) => none
    | some (.map _ _) => none
    | none => St.freezes P σ r
def cellsV : SV → List SV
  | .agg cs => cs
  | v => [v]
def nilCell (P : Program) (t : TypeId) : Option TypeId := match P.underlying t with | some (.slice e) => some e | _ => none
def cmp (op : BinOp) (x y : Int) : Option Bool := match op with
  | .eql => some (x == y) | .neq => some (x != y) | .lss => some (decide (x < y)) | .leq => some (decide (x ≤ y)) | .gtr => some (decide (x > y)) | .geq => some (decide (x ≥ y))
  | _ => none
def arith (op : BinOp) (k : IntKind) (x y : Int) : Option Int := match op with
  | .add => some (k.wrap (x + y)) | .sub => some (k.wrap (x - y)) | .mul => some (k.wrap (x * y))
  | .and => some (k.wrap (BitVec.ofInt k.bits x &&& BitVec.ofInt k.bits y).toNat)
  | .or => some (k.wrap (BitVec.ofInt k.bits x ||| BitVec.ofInt k.bits y).toNat)
  | .xor => some (k.wrap (BitVec.ofInt k.bits x ^^^ BitVec.ofInt k.bits y).toNat)
  | .andNot => some (k.wrap (BitVec.ofInt k.bits x &&& ~~~ BitVec.ofInt k.bits y).toNat)
  | _ => none
def compl (k : IntKind) (x : Int) : Int := k.wrap (BitVec.ofInt k.bits (bif k.signed then -1 else k.max) ^^^ BitVec.ofInt k.bits x).toNat
def IntKind.same : IntKind → IntKind → Bool
  | .i64, .i64 => true | .u8, .u8 => true | .u32, .u32 => true | .u64, .u64 => true | .i32, .i32 => true | .u16, .u16 => true | .i8, .i8 => true | .i16, .i16 => true
  | _, _ => false
def eqCells : List IntKind → List SV → List SV → Option Bool
  | [], [], [] => some true
  | k :: ks, .val (.int k1) x :: xs, .val (.int k2) y :: ys => match IntKind.same k k1, IntKind.same k k2, eqCells ks xs ys with
    | true, true, some b => some ((x.int == y.int) && b)
    | _, _, _ => none
  | _, _, _ => none
structure NilOr (e x y : Prop) : Prop where
  t : e → x
  f : y
section
def bin (C : Ctx) (op : BinOp) (t : TypeId) (x y : SV) (k : SV → Prop) : Prop :=
  match x, y with
  | .val (.int i) a, .val (.int j) b => match op with
    | .shl => bif decide (b.int < 0) then False else k (.val (.int i) (.i (i.wrap (a.int * 2 ^ (min b.int.toNat i.bits)))))
    | .shr => bif decide (b.int < 0) then False else k (.val (.int i) (.i (a.int.fdiv (2 ^ (min b.int.toNat i.bits)))))
    | _ => match IntKind.same i j with
      | false => False
      | true => match op with
        | .quo => bif decide (b.int = 0) then False else k (.val (.int i) (.i (i.wrap (a.int.tdiv b.int))))
        | .rem => bif decide (b.int = 0) then False else k (.val (.int i) (.i (a.int.tmod b.int)))
        | _ => match arith op i a.int b.int with
          | some n => k (.val (.int i) (.i n))
          | none => match cmp op a.int b.int with
            | some r => k (.val .bool (.b r))
            | none => False
  | .val .str a, .val .str b => match op with
    | .eql => k (.val .bool (.b (a.str.toList == b.str.toList)))
    | .neq => k (.val .bool (.b !(a.str.toList == b.str.toList)))
    | _ => False
  | .val .bool a, .val .bool b => match C.P.underlying t with
    | some .bool => match op with
      | .eql => k (.val .bool (.b (a.bool == b.bool)))
      | .neq => k (.val .bool (.b !(a.bool == b.bool)))
      | _ => False
    | _ => False
  | .agg xs, .agg ys => match C.eqs t with
    | some ks => match eqCells ks xs ys with
      | some b => match op with
        | .eql => k (.val .bool (.b b))
        | .neq => k (.val .bool (.b !b))
        | _ => False
      | none => False
    | none => False
  | .val (.sl _ _) a, .nil => match C.P.underlying t with
    | some (.slice _) => match op with
      | .eql => NilOr (a.list = []) (k (.val .bool (.b true))) (k (.val .bool (.b false)))
      | .neq => NilOr (a.list = []) (k (.val .bool (.b false))) (k (.val .bool (.b true)))
      | _ => False
    | _ => False
  | _, _ => False
def fieldOf (P : Program) (s : TypeId) (f : Nat) : Option Field := match P.underlying s with
  | some (.struct fs) => fs[f]?
  | _ => none
def sizeT (P : Program) (t : TypeId) : Option Nat := match P.info? t with | some i => some i.size | none => none
def isSize (P : Program) (t : TypeId) (n : Nat) : Bool := match sizeT P t with | some k => Nat.beq k n | none => false
def part (P : Program) (t : TypeId) (cells : List SV) (off : Nat) : Option SV := match sizeT P t, P.underlying t with
  | some n, some d => match aggD d with
    | true => bif Nat.ble (off + n) cells.length then some (.agg ((cells.drop off).take n)) else none
    | false => bif Nat.blt off cells.length then some (nth .unk cells off) else none
  | _, _ => none
def isCell : SV → Bool
  | .agg _ => false
  | .osl _ _ _ => false
  | .tup _ => false
  | .und => false
  | .unk => false
  | _ => true
def areCells : List SV → Bool
  | [] => true
  | v :: r => match isCell v with | true => areCells r | false => false
def patch (cells : List SV) (off : Nat) (news : List SV) : List SV := cells.take off ++ news ++ cells.drop (off + news.length)
def firsts (us : List U) : Nat → List U
  | 0 => []
  | n + 1 => U.at us 0 :: firsts us.tail n
def patchU (us : List U) (off : Nat) (news : List U) : List U := firsts us off ++ news ++ us.drop (off + news.length)
def source (P : Program) (objs : List (Nat × Obj)) (m : Bool) (cs : List Ct) (str : Bool) (s : SV) : Option (List U) := match str with
  | true => match s with
    | .val .str u => match (Ct.sl m cs).beq (.sl false [.int .u8]) with
      | true => some (u.str.data.toList.map fun b => .i b.toNat)
      | false => none
    | _ => none
  | false => match toU P objs (.sl m cs) s with
    | some u => some u.list
    | none => none
def room : Nat := 1073741824
def smallType (P : Program) (e : TypeId) : Bool := match P.info? e, Cs P e with
  | some i, some (_, cs) => match i.zero with
    | some z => Nat.ble i.bytes 128 && Nat.beq i.size cs.length && Nat.beq z.cells.size cs.length && Nat.blt 0 cs.length
    | none => false
  | _, _ => false
def isNil : SV → Bool
  | .nil => true
  | _ => false
def owned (P : Program) : Nat → List (Option TypeId) → List SV → List SV → St → Option (List SV × St)
  | _, [], acc, r, σ => some (acc ++ r, σ)
  | _, _ :: _, acc, [], σ => some (acc, σ)
  | id, some e :: es, acc, v :: r, σ => match isNil v with
      | true => match smallType P e with
        | true => owned P (id + 1) es (SV.sub.subs (2 * id) .unk acc ++ [.own (2 * id)]) (SV.sub.subs (2 * id) .unk r) (σ.new (2 * id) (.arr e []))
        | false => none
      | false => owned P (id + 1) es (acc ++ [v]) r σ
  | id, none :: es, acc, v :: r, σ => owned P (id + 1) es (acc ++ [v]) r σ
def zeroCells (P : Program) (e : TypeId) : Option (List SV) := match P.info? e with
  | some i => match i.zero with
    | some z => some (ofConsts z.cells.toList)
    | none => none
  | none => none
def zeroElem (P : Program) (e : TypeId) : Option U := match zeroCells P e, Cs P e with
  | some z, some (m, cs) => match toUs plainU cs z with
    | some us => some (ofElem m us)
    | none => none
  | _, _ => none
def aggV (m : Bool) : SV → Bool
  | .agg _ => m
  | _ => !m
def setD (σ : St) (d : Option Nat) (v : SV) : St := match d with | some t => σ.set t v | none => σ
def sizesOk (P : Program) : List Field → Bool
  | [] => true
  | f :: r => match sizeT P f.type with | some _ => sizesOk P r | none => false
def fillParts (P : Program) (fs : List Field) : List (Nat × SV) → List SV → Option (List SV)
  | [], cells => some cells
  | (i, v) :: r, cells => match fs[i]? with
    | some f => match sizeT P f.type with
      | some n => bif Nat.beq (cellsV v).length n && Nat.ble (f.offset + n) cells.length && areCells (cellsV v) then fillParts P fs r (patch cells f.offset (cellsV v)) else none
      | none => none
    | none => none
def litElems (m : Bool) (cs : List Ct) : List (Nat × SV) → List U → Option (List U)
  | [], xs => some xs
  | (i, v) :: r, xs => match toUs plainU cs (cellsV v) with
    | some us => bif Nat.blt i xs.length then litElems m cs r (xs.set i (ofElem m us)) else none
    | none => none
def lst (σ : St) : Option Operand → Option (Option Int)
  | none => some none
  | some x => match σ.ev x with
    | .val (.int _) u => some (some u.int)
    | _ => none
def evs (σ : St) : List Operand → List SV
  | [] => []
  | x :: r => σ.ev x :: evs σ r
def evps (σ : St) : List (Nat × Operand) → List (Nat × SV)
  | [] => []
  | (i, x) :: r => (i, σ.ev x) :: evps σ r
def handleCells : List (Nat × SV) → List Nat
  | [] => []
  | (_, v) :: r => handles (cellsV v) ++ handleCells r
def scalarC : Ct → Bool
  | .sl _ _ => false
  | .oth => false
  | _ => true
def scalarCs : List Ct → Bool
  | [] => true
  | c :: r => match scalarC c with | true => scalarCs r | false => false
def scalars (P : Program) : List TypeId → Bool
  | [] => true
  | t :: r => match Cs P t with
    | some (_, cs) => match scalarCs cs with | true => scalars P r | false => false
    | none => false
def handlesAll : List SV → List Nat
  | [] => []
  | v :: r => handles (cellsV v) ++ handlesAll r
def withP : Option Prop → Prop → Prop
  | none, q => q
  | some p, q => p ∧ q
def opCallIn (C : Ctx) (g : Ct → SV → Option U) (d : Option Nat) (f : FuncId) (fn : Func) (xs : List Operand) (σ : St) (k : St → Prop) : Prop :=
  match flats C.P g fn.params.toList (evs σ xs) with
  | none => False
  | some us => match C.fns f us with
    | none => False
    | some (p, rs) => match unflats C.P fn.resultTypes.toList rs with
      | none => False
      | some [v] => withP p (k (setD σ d v))
      | some vs => withP p (k (setD σ d (.tup vs)))
def memB (n : Nat) : List Nat → Bool
  | [] => false
  | m :: r => bif Nat.beq n m then true else memB n r
def nodupB : List Nat → Bool
  | [] => true
  | n :: r => bif memB n r then false else nodupB r
def SV.hs : SV → List Nat
  | .own i => [i]
  | .ptr i _ => [i]
  | .aptr i _ _ _ => [i]
  | .osl i _ _ => [i]
  | .mp i => [i]
  | .agg cs => hss cs
  | .tup cs => hss cs
  | .clo _ cs => hss cs
  | .ifc _ v => SV.hs v
  | _ => []
  where hss : List SV → List Nat
    | [] => []
    | v :: r => SV.hs v ++ hss r
def Obj.hs : Obj → List Nat
  | .box cs => SV.hs.hss cs
  | _ => []
def reach (objs : Objs) : Nat → List Nat → List Nat → List Nat
  | 0, _, acc => acc
  | _, [], acc => acc
  | n + 1, i :: r, acc => bif memB i acc then reach objs n r acc else match getO objs i with
    | none => reach objs n r acc
    | some o => reach objs n (o.hs ++ r) (acc ++ [i])
def lk : List (Nat × Nat) → Nat → Option Nat
  | [], _ => none
  | (a, b) :: r, i => bif Nat.beq a i then some b else lk r i
def SV.ren (m : List (Nat × Nat)) : SV → SV
  | .own i => match lk m i with | some j => .own j | none => .unk
  | .ptr i o => match lk m i with | some j => .ptr j o | none => .unk
  | .aptr i z k o => match lk m i with | some j => .aptr j z k o | none => .unk
  | .osl i k z => match lk m i with | some j => .osl j k z | none => .unk
  | .mp i => match lk m i with | some j => .mp j | none => .unk
  | .agg cs => .agg (rens m cs)
  | .tup cs => .tup (rens m cs)
  | .clo f cs => .clo f (rens m cs)
  | .ifc t v => .ifc t (SV.ren m v)
  | v => v
  where rens (m : List (Nat × Nat)) : List SV → List SV
    | [] => []
    | v :: r => SV.ren m v :: rens m r
def Obj.ren (m : List (Nat × Nat)) : Obj → Obj
  | .box cs => .box (SV.ren.rens m cs)
  | o => o
def canonAt (k : Nat) : Obj → Nat
  | .arr _ _ => 2 * (1048576 + 64 * k)
  | _ => 2 * (1048576 + 64 * k) + 1
def canonMap (objs : Objs) : Nat → List Nat → List (Nat × Nat)
  | _, [] => []
  | k, i :: r => match getO objs i with
    | some o => (i, canonAt k o) :: canonMap objs (k + 1) r
    | none => canonMap objs k r
def pickR (objs : Objs) (m : List (Nat × Nat)) : List (Nat × Nat) → Objs
  | [] => []
  | (i, j) :: r => match getO objs i with
    | some o => (j, o.ren m) :: pickR objs m r
    | none => pickR objs m r
def keysO : Objs → List Nat
  | [] => []
  | (i, _) :: r => i :: keysO r
def Out.hs : Out → List Nat
  | .ret rs => SV.hs.hss rs
  | .pan v => v.hs
def Out.ren (m : List (Nat × Nat)) : Out → Out
  | .ret rs => .ret (SV.ren.rens m rs)
  | .pan v => .pan (v.ren m)
def fsts : List (Nat × Nat) → List Nat
  | [] => []
  | (a, _) :: r => a :: fsts r
def snds : List (Nat × Nat) → List Nat
  | [] => []
  | (_, b) :: r => b :: snds r
def oddB (n : Nat) : Bool := Nat.beq (n % 2) 1
def canonOk : Objs → Bool
  | [] => true
  | (i, o) :: r => bif memB i (keysO r) then false else bif (match o with | .arr _ _ => !oddB i | _ => oddB i) then canonOk r else false
def finMap (objs0 objs : Objs) : Nat → List Nat → List (Nat × Nat)
  | _, [] => []
  | k, i :: r => bif memB i (keysO objs0) then (i, i) :: finMap objs0 objs k r else match getO objs i with
    | some o => (i, canonAt k o) :: finMap objs0 objs (k + 1) r
    | none => finMap objs0 objs k r
def finT (objs0 : Objs) (R : Out → Objs → Prop) (out : Out) (objs : Objs) : Prop :=
  let ids := reach objs 400 (keysO objs0 ++ out.hs) []
  let m := finMap objs0 objs objs0.length ids
  bif nodupB (fsts m) && nodupB (snds m) && clear objs0 m then R (out.ren m) (pickR objs m m) else False
  where clear (objs0 : Objs) : List (Nat × Nat) → Bool
    | [] => true
    | (i, j) :: r => bif Nat.beq i j || !memB j (keysO objs0) then clear objs0 r else false
def plainV (P : Program) (t : TypeId) (v : SV) : SV := match flat P plainU t v with
  | some us => match unflat P t us with
    | some v' => v'
    | none => v
  | none => v
def plainVs (P : Program) : List Bool → List TypeId → List SV → List SV
  | _, _, [] => []
  | _, [], v :: vs => v :: vs
  | fs, t :: ts, v :: vs => (match nth false fs 0 with | true => v | false => plainV P t v) :: plainVs P fs.tail ts vs
def frozenArgs : List Bool → List SV → List Nat
  | _, [] => []
  | fs, v :: vs => (match nth false fs 0 with | true => [] | false => handles (cellsV v)) ++ frozenArgs fs.tail vs
def dropsO (objs : Objs) : List (Nat × Nat) → Objs
  | [] => objs
  | (i, _) :: r => dropsO (dropO objs i) r
def St.wipe (σ : St) : List Nat → St
  | [] => σ
  | id :: r => St.wipe ⟨subE id .unk σ.env, subO id .unk (dropO σ.objs id)⟩ r
def layO (objs : Objs) : Objs → Objs
  | [] => objs
  | (id, o) :: r => layO ((id, o) :: dropO objs id) r
def backMap (m : List (Nat × Nat)) : Nat → List Nat → List (Nat × Nat)
  | _, [] => []
  | b, c :: r => match lk m c with
    | some i => (c, i) :: backMap m b r
    | none => (c, 2 * b) :: backMap m (b + 1) r
def swaps : List (Nat × Nat) → List (Nat × Nat)
  | [] => []
  | (a, b) :: r => (b, a) :: swaps r
def newNames (m : List (Nat × Nat)) : List (Nat × Nat) → List Nat
  | [] => []
  | (c, i) :: r => match lk m c with
    | some _ => newNames m r
    | none => i :: newNames m r
def evenNames : List (Nat × Nat) → List Nat
  | [] => []
  | (i, j) :: r => bif oddB j then evenNames r else i :: evenNames r
def allEven : List Nat → Bool
  | [] => true
  | i :: r => bif oddB i then false else allEven r
def forceN (n : Nat) (k : Nat → Prop) : Prop := match n with
  | 0 => k 0
  | m + 1 => k (m + 1)
def forceSV : SV → (SV → Prop) → Prop
  | .val c u, k => k (.val c u)
  | .agg cs, k => forceSVs cs fun cs => k (.agg cs)
  | .nil, k => k .nil
  | .own i, k => forceN i fun i => k (.own i)
  | .ptr i o, k => forceN i fun i => forceN o fun o => k (.ptr i o)
  | .aptr i z j o, k => forceN i fun i => forceN z fun z => forceN o fun o => k (.aptr i z j o)
  | .osl i j z, k => forceN i fun i => forceN z fun z => k (.osl i j z)
  | .rptr cs us, k => k (.rptr cs us)
  | .nilp, k => k .nilp
  | .tup l, k => forceSVs l fun l => k (.tup l)
  | .clo f cs, k => forceSVs cs fun cs => k (.clo f cs)
  | .mp i, k => forceN i fun i => k (.mp i)
  | .ifc t v, k => forceSV v fun v => k (.ifc t v)
  | .nili, k => k .nili
  | .und, k => k .und
  | .unk, k => k .unk
  where forceSVs : List SV → (List SV → Prop) → Prop
    | [], k => k []
    | v :: r, k => forceSV v fun v => forceSVs r fun r => k (v :: r)
def forceE : List (Nat × SV) → (List (Nat × SV) → Prop) → Prop
  | [], k => k []
  | (t, v) :: r, k => forceN t fun t => forceSV v fun v => forceE r fun r => k ((t, v) :: r)
def forceOb : Obj → (Obj → Prop) → Prop
  | .box cs, k => forceSV.forceSVs cs fun cs => k (.box cs)
  | .arr e xs, k => forceN e fun e => k (.arr e xs)
  | .map t es, k => forceN t fun t => k (.map t es)
def forceOs : List (Nat × Obj) → (List (Nat × Obj) → Prop) → Prop
  | [], k => k []
  | (t, v) :: r, k => forceN t fun t => forceOb v fun v => forceOs r fun r => k ((t, v) :: r)
def forceM : List (Nat × Nat) → (List (Nat × Nat) → Prop) → Prop
  | [], k => k []
  | (a, b) :: r, k => forceN a fun a => forceN b fun b => forceM r fun r => k ((a, b) :: r)
def St.force (σ : St) (k : St → Prop) : Prop := forceE σ.env fun env => forceOs σ.objs fun objs => k ⟨env, objs⟩
theorem forceN_eq (n : Nat) (k : Nat → Prop) : forceN n k = k n := by cases n <;> rfl
mutual
theorem forceSV_eq : ∀ (v : SV) (k : SV → Prop), forceSV v k = k v
  | .val _ _, _ => rfl
  | .agg cs, k => by rw [forceSV, forceSVs_eq cs]
  | .nil, _ => rfl
  | .own i, k => by rw [forceSV, forceN_eq]
  | .ptr i o, k => by rw [forceSV, forceN_eq, forceN_eq]
  | .aptr i z j o, k => by rw [forceSV, forceN_eq, forceN_eq, forceN_eq]
  | .osl i j z, k => by rw [forceSV, forceN_eq, forceN_eq]
  | .rptr _ _, _ => rfl
  | .nilp, _ => rfl
  | .tup l, k => by rw [forceSV, forceSVs_eq l]
  | .clo f cs, k => by rw [forceSV, forceSVs_eq cs]
  | .mp i, k => by rw [forceSV, forceN_eq]
  | .ifc t v, k => by rw [forceSV, forceSV_eq v]
  | .nili, _ => rfl
  | .und, _ => rfl
  | .unk, _ => rfl
theorem forceSVs_eq : ∀ (l : List SV) (k : List SV → Prop), forceSV.forceSVs l k = k l
  | [], _ => rfl
  | v :: r, k => by rw [forceSV.forceSVs, forceSV_eq v, forceSVs_eq r]
end
theorem forceE_eq : ∀ (l : List (Nat × SV)) (k : List (Nat × SV) → Prop), forceE l k = k l
  | [], _ => rfl
  | (t, v) :: r, k => by rw [forceE, forceN_eq, forceSV_eq, forceE_eq r]
theorem forceOb_eq : ∀ (v : Obj) (k : Obj → Prop), forceOb v k = k v
  | .box cs, k => by rw [forceOb, forceSVs_eq]
  | .arr e xs, k => by rw [forceOb, forceN_eq]
  | .map t es, k => by rw [forceOb, forceN_eq]
theorem forceOs_eq : ∀ (l : List (Nat × Obj)) (k : List (Nat × Obj) → Prop), forceOs l k = k l
  | [], _ => rfl
  | (t, v) :: r, k => by rw [forceOs, forceN_eq, forceOb_eq, forceOs_eq r]
theorem forceM_eq : ∀ (l : List (Nat × Nat)) (k : List (Nat × Nat) → Prop), forceM l k = k l
  | [], _ => rfl
  | (a, b) :: r, k => by rw [forceM, forceN_eq, forceN_eq, forceM_eq r]
theorem force_eq (σ : St) (k : St → Prop) : σ.force k = k σ := by rw [St.force, forceE_eq, forceOs_eq]
def afterCall (C : Ctx) (d : Option Nat) (m : List (Nat × Nat)) (σ : St) (k : St → Prop) (out : Out) (objs : Objs) : Prop :=
  forceM (backMap (swaps m) ((match d with | some d => d | none => 0) * 64 + 8) (keysO objs)) fun b =>
  bif nodupB (fsts b) && nodupB (snds b) && allEven (evenNames m ++ newNames (swaps m) b) then
    (St.mk (St.wipe ⟨σ.env, dropsO σ.objs m⟩ (evenNames m ++ newNames (swaps m) b)).env (layO (St.wipe ⟨σ.env, dropsO σ.objs m⟩ (evenNames m ++ newNames (swaps m) b)).objs (pickR objs b b))).force fun σ' =>
    match out with
    | .ret [v] => forceSV (v.ren b) fun v => k (setD σ' d v)
    | .ret vs => forceSV.forceSVs (SV.ren.rens b vs) fun vs => k (setD σ' d (.tup vs))
    | .pan v => C.pan (v.ren b) σ'
  else False
def isNilM : List (Nat × Nat) → Bool
  | [] => true
  | _ => false
def opCallT (C : Ctx) (d : Option Nat) (q : Bool) (fs : List Bool) (F : Tr) (fn : Func) (xs : List Operand) (cf : Operand) (σ : St) (k : St → Prop) : Prop :=
  match σ.freezes C.P (frozenArgs fs (evs σ xs)) with
  | none => False
  | some σ0 => σ0.force fun σ1 => match σ1.ev cf with
    | .clo _ caps =>
      let vs := plainVs C.P fs fn.params.toList (evs σ1 xs) ++ caps
      forceM (canonMap σ1.objs 0 (reach σ1.objs 400 (SV.hs.hss vs) [])) fun m =>
      bif nodupB (fsts m) && nodupB (snds m) && canonOk (pickR σ1.objs m m) && (!q || isNilM m) then forceSV.forceSVs (SV.ren.rens m vs) fun vs' => forceOs (pickR σ1.objs m m) fun os' => F vs' os' (afterCall C d m σ1 k) else False
    | _ => False
def opExt (d : Option Nat) (e : Ext) (xs : List SV) (σ : St) (k : St → Prop) : Prop :=
  match e, xs with
  | .load, [.ptr id off] => match getO σ.objs id with
    | some (.box cells) => match nth .unk cells off with
      | .val (.int .i64) u => k (setD σ d (.val (.int .i64) u))
      | _ => False
    | _ => False
  | .add, [.ptr id off, .val (.int .i64) y] => match getO σ.objs id with
    | some (.box cells) => match nth .unk cells off with
      | .val (.int .i64) u => k (setD (σ.setO id (.box (patch cells off [.val (.int .i64) (.i (IntKind.wrap .i64 (u.int + y.int)))]))) d (.val (.int .i64) (.i (IntKind.wrap .i64 (u.int + y.int)))))
      | _ => False
    | _ => False
  | _, _ => False
def opCall (C : Ctx) (d : Option Nat) (f : FuncId) (cf : Operand) (xs : List Operand) (σ : St) (k : St → Prop) : Prop :=
  match C.P.funcs[f]? with
  | none => False
  | some fn => match C.exts f with
   | some e => match σ.ev cf with
      | .clo _ [] => opExt d e (evs σ xs) σ k
      | _ => False
   | none => match C.trs f with
    | some (fs, F) => opCallT C d (C.calm f) fs F fn xs cf σ k
    | none => match σ.ev cf with
      | .clo _ [] => match scalars C.P fn.resultTypes.toList with
        | true => opCallIn C (toU C.P σ.objs) d f fn xs σ k
        | false => match σ.freezes C.P (handlesAll (evs σ xs)) with
          | some σ' => opCallIn C plainU d f fn xs σ' k
          | none => False
      | _ => False
def opAppend (C : Ctx) (d : Nat) (e : TypeId) (str : Bool) (s x : SV) (σ : St) (k : St → Prop) : Prop :=
  match Cs C.P e with
  | none => False
  | some (m, cs) => match source C.P σ.objs m cs str x, smallType C.P e with
    | some ys, true => match s with
      | .nil => bif decide (ys.length ≤ room) then k ((σ.new (2 * (d * 64 + 63)) (.arr e ys)).set d (.own (2 * (d * 64 + 63)))) else False
      | .own id => match x with
        | .own id' => bif Nat.beq id' id then False else opAppendOwn id ys
        | _ => opAppendOwn id ys
      | _ => False
    | _, _ => False
  where opAppendOwn (id : Nat) (ys : List U) : Prop := match getO σ.objs id with
    | some (.arr e' xs) => bif Nat.beq e' e then
        bif decide (xs.length + ys.length ≤ room) && !oddB id then k ((σ.new id (.arr e (xs ++ ys))).set d (.own id)) else False
      else False
    | _ => False
def ueq (c : Ct) (a b : U) : Bool := match c with
  | .int _ => decide (a.int = b.int)
  | .bool => a.bool == b.bool
  | _ => a.str.data.toList == b.str.data.toList
def mpos (c : Ct) (k : U) : List (U × U) → Nat
  | [] => 0
  | (a, _) :: r => bif ueq c k a then 0 else mpos c k r + 1
def mhas (c : Ct) (k : U) : List (U × U) → Bool
  | [] => false
  | (a, _) :: r => ueq c k a || mhas c k r
def mval (c : Ct) (k : U) (z : U) : List (U × U) → U
  | [] => z
  | (a, x) :: r => bif ueq c k a then x else mval c k z r
def mput (c : Ct) (k v : U) : List (U × U) → List (U × U)
  | [] => [(k, v)]
  | (a, x) :: r => bif ueq c k a then (k, v) :: r else (a, x) :: mput c k v r
def mset (v : U) : Nat → List (U × U) → List (U × U)
  | _, [] => []
  | 0, (a, _) :: r => (a, v) :: r
  | n + 1, e :: r => e :: mset v n r
def keyCt (P : Program) (t : TypeId) : Option Ct := match P.underlying t with
  | some (.int k) => some (.int k)
  | some .bool => some .bool
  | some .string => some .str
  | _ => none
def mapOf (P : Program) (t : TypeId) : Option (Ct × TypeId × Bool × List Ct) := match P.underlying t with
  | some (.map kt vt) => match keyCt P kt, Cs P vt with
    | some kc, some (vm, vcs) => some (kc, vt, vm, vcs)
    | _, _ => none
  | _ => none
def aggVal : Value → Bool
  | .agg _ => true
  | _ => false
def aggM (m : Bool) (v : Value) : Bool := match m with
  | true => aggVal v
  | false => !aggVal v
def zeroM (P : Program) (vt : TypeId) (vm : Bool) : Option U := match P.info? vt with
  | some i => match i.zero with
    | some zv => bif aggM vm zv then zeroElem P vt else none
    | none => none
  | none => none
def elemSV (m : Bool) (cs : List Ct) (u : U) : SV := match m, cs with
  | true, cs => .agg (vals cs u.list)
  | false, [c] => .val c u
  | false, _ => .unk
def newBox (C : Ctx) (d : Nat) (t : TypeId) (cells : List SV) (σ : St) (k : St → Prop) : Prop :=
  match owned C.P (d * 64 + 1) (elemsOf C.P 8 t) [] cells σ with
  | some (cs, σ') => k ((σ'.new (2 * (d * 64)) (.box (SV.sub.subs (2 * (d * 64)) .unk cs))).set d (.ptr (2 * (d * 64)) 0))
  | none => False
def overU (xs : List U) (j : Nat) (ys : List U) : List U := xs.take j ++ ys.take (xs.length - j) ++ xs.drop (j + (ys.take (xs.length - j)).length)
def opCopy (C : Ctx) (o : Oper) (e : TypeId) (id j : Nat) (ys : List U) (σ : St) (k : St → Prop) : Prop := match getO σ.objs id with
  | some (.arr e' xs) => bif Nat.beq e' e && decide (j ≤ xs.length) then k (setD (σ.setO id (.arr e (overU xs j ys))) o.dst (.val (.int .i64) (.i (((ys.take (xs.length - j)).length : Nat) : Int)))) else False
  | _ => False
def op1 (C : Ctx) (o : Oper) (σ : St) (k : St → Prop) : Prop :=
  match o.op with
  | .move x => k (setD σ o.dst (σ.ev x))
  | .assign x => match isNil (σ.ev x), o.dst, nilCell C.P o.type with
    | true, some d, some e => match smallType C.P e with
      | true => k ((σ.new (2 * (d * 64 + 62)) (.arr e [])).set d (.own (2 * (d * 64 + 62))))
      | false => False
    | _, _, _ => k (setD σ o.dst (σ.ev x))
  | .pick c a b => match σ.ev c with
    | .val .bool u => bif u.bool then k (setD σ o.dst (σ.ev a)) else k (setD σ o.dst (σ.ev b))
    | _ => False
  | .box t x => match o.dst with
    | some d => bif areCells (cellsV (σ.ev x)) then newBox C d t (cellsV (σ.ev x)) σ k else False
    | none => False
  | .alloc t => match o.dst, zeroCells C.P t with
    | some d, some z => newBox C d t z σ k
    | _, _ => False
  | .build t ps => match C.P.underlying t, zeroCells C.P t with
    | some (.struct fs), some z => match sizesOk C.P fs.toList, fillParts C.P fs.toList (evps σ ps.toList) z with
      | true, some cs => k (setD σ o.dst (.agg cs))
      | _, _ => False
    | _, _ => False
  | .buildSlice t n ps => match nilCell C.P t, o.dst with
    | some e, some d => match Cs C.P e, smallType C.P e, σ.freezes C.P (handleCells (evps σ ps.toList)) with
      | some (m, cs), true, some σ' => match n, zeroElem C.P e with
        | 0, some _ => match ps.toList with
          | [] => k ((σ'.new (2 * (d * 64 + 63)) (.arr e [])).set d (.own (2 * (d * 64 + 63))))
          | _ => False
        | 1, some _ => match evps σ' ps.toList with
          | [(0, v)] => match toUs plainU cs (cellsV v) with
            | some us => bif Nat.ble cs.length 16777216 then k ((σ'.new (2 * (d * 64 + 63)) (.arr e [ofElem m us])).set d (.own (2 * (d * 64 + 63)))) else False
            | none => False
          | _ => False
        | n, some z => match litElems m cs (evps σ' ps.toList) (List.replicate n z) with
          | some xs => bif Nat.ble (n * cs.length) 16777216 && Nat.blt 0 n then k ((σ'.new (2 * (d * 64 + 63)) (.arr e xs)).set d (.own (2 * (d * 64 + 63)))) else False
          | none => False
        | _, none => False
      | _, _, _ => False
    | _, _ => False
  | .makeSlice t l c => match nilCell C.P t, o.dst, σ.ev l, σ.ev c with
    | some e, some d, .val (.int _) l, .val (.int _) c => match smallType C.P e, zeroElem C.P e with
      | true, some z => bif decide (0 ≤ l.int ∧ l.int ≤ c.int ∧ c.int ≤ room) then
          k ((σ.new (2 * (d * 64 + 63)) (.arr e (List.replicate l.int.toNat z))).set d (.own (2 * (d * 64 + 63)))) else False
      | _, _ => False
    | _, _, _, _ => False
  | .load t a => match σ.ev a with
    | .ptr id off => match getO σ.objs id with
      | some (.box cells) => match part C.P t cells off with
        | some v => k (setD σ o.dst v)
        | none => False
      | _ => False
    | .aptr id sz j off => match getO σ.objs id with
      | some (.arr e xs) => match Cs C.P e with
        | some (m, cs) => bif Nat.beq cs.length sz && Nat.blt j xs.length then (match part C.P t (vals cs (elemU m (U.at xs j))) off with
            | some v => k (setD σ o.dst v)
            | none => False)
          else False
        | none => False
      | _ => False
    | .rptr cs us => match part C.P t (vals cs us) 0 with
      | some v => k (setD σ o.dst v)
      | none => False
    | _ => False
  | .store t a x => match σ.ev a, sizeT C.P t with
    | .ptr id off, some n => bif Nat.beq (cellsV (σ.ev x)).length n && areCells (cellsV (σ.ev x)) then
        match owned C.P ((id + 65536) * 64 + 1 + off) (elemsOf C.P 8 t) [] (cellsV (σ.ev x)) σ with
        | some (cs, σ') => match σ'.ev a with
          | .ptr id off => match getO σ'.objs id with
            | some (.box cells) => bif Nat.ble (off + n) cells.length then k (σ'.setO id (.box (patch cells off cs))) else False
            | _ => False
          | _ => False
        | none => False
      else False
    | .aptr _ _ _ _, some n => match σ.freezes C.P (handles (cellsV (σ.ev x))) with
      | some σ' => match σ'.ev a with
        | .aptr id sz j off => match getO σ'.objs id with
          | some (.arr e xs) => match Cs C.P e, Cs C.P t with
            | some (m, cs), some (_, ds) => match toUs plainU ds (cellsV (σ'.ev x)), Ct.beq.beqs ((cs.drop off).take n) ds with
              | some us, true => bif Nat.beq us.length n && Nat.beq ds.length n && Nat.ble (off + n) cs.length && Nat.beq cs.length sz && Nat.blt j xs.length then
                  k (σ'.setO id (.arr e (xs.set j (ofElem m (patchU (elemU m (U.at xs j)) off us)))))
                else False
              | _, _ => False
            | _, _ => False
          | _ => False
        | _ => False
      | none => False
    | _, _ => False
  | .nilCheck x => match σ.ev x with
    | .ptr id off => k (setD σ o.dst (.ptr id off))
    | .aptr id sz j off => k (setD σ o.dst (.aptr id sz j off))
    | .rptr cs us => k (setD σ o.dst (.rptr cs us))
    | _ => False
  | .binOp op t x y _ => bin C op t (σ.ev x) (σ.ev y) fun v => k (setD σ o.dst v)
  | .unOp .not _ x => match σ.ev x with
    | .val .bool u => k (setD σ o.dst (.val .bool (.b (!u.bool))))
    | _ => False
  | .unOp .neg _ x => match σ.ev x with
    | .val (.int i) u => k (setD σ o.dst (.val (.int i) (.i (i.wrap (0 - u.int)))))
    | _ => False
  | .unOp .xor _ x => match σ.ev x with
    | .val (.int i) u => k (setD σ o.dst (.val (.int i) (.i (compl i u.int))))
    | _ => False
  | .convert s t x => match C.P.underlying s, C.P.underlying t, σ.ev x with
    | some (.int _), some (.int i), .val (.int _) u => k (setD σ o.dst (.val (.int i) (.i (i.wrap u.int))))
    | some (.slice e), some .string, v => match C.P.underlying e with
      | some (.int .u8) => match toU C.P σ.objs (.sl false [.int .u8]) v with
        | some u => k (setD σ o.dst (.val .str (.s ⟨(u.list.map fun x => UInt8.ofNat x.int.toNat).toArray⟩)))
        | none => False
      | _ => False
    | some .string, some .string, .val .str u => k (setD σ o.dst (.val .str u))
    | _, _, _ => False
  | .fieldAddr s x f => match fieldOf C.P s f with
    | some fd => match sizeT C.P fd.type with
      | some (_ + 1) => match σ.ev x with
        | .ptr id off => k (setD σ o.dst (.ptr id (off + fd.offset)))
        | .aptr id sz j off => k (setD σ o.dst (.aptr id sz j (off + fd.offset)))
        | .rptr cs us => k (setD σ o.dst (.rptr (cs.drop fd.offset) (us.drop fd.offset)))
        | _ => False
      | _ => False
    | none => False
  | .field s x f => match fieldOf C.P s f, σ.ev x with
    | some fd, .agg cells => match part C.P fd.type cells fd.offset with
      | some v => k (setD σ o.dst v)
      | none => False
    | _, _ => False
  | .indexAddr t x i => match C.P.underlying t, σ.ev x, σ.ev i with
    | some (.slice e), .val (.sl m cs) u, .val (.int _) j => bif isSize C.P e cs.length then
        bif decide (0 ≤ j.int ∧ j.int < u.list.length) then k (setD σ o.dst (.rptr cs (elemU m (U.at u.list j.int.toNat)))) else False
      else False
    | some (.slice e'), .own id, .val (.int _) j => match getO σ.objs id with
      | some (.arr e xs) => match Cs C.P e with
        | some (_, cs) => bif isSize C.P e' cs.length then
            bif decide (0 ≤ j.int ∧ j.int < xs.length) then k (setD σ o.dst (.aptr id cs.length j.int.toNat 0)) else False
          else False
        | none => False
      | _ => False
    | _, _, _ => False
  | .index t x i => match C.P.underlying t, σ.ev x, σ.ev i with
    | some .string, .val .str s, .val (.int _) j =>
      bif decide (0 ≤ j.int ∧ j.int < s.str.size) then k (setD σ o.dst (.val (.int .u8) (.i (s.str.data.toList.getD j.int.toNat 0).toNat))) else False
    | _, _, _ => False
  | .extract x i => match σ.ev x with
    | .tup vs => bif Nat.blt i vs.length then k (setD σ o.dst (nth .unk vs i)) else False
    | _ => False
  | .slice t x lo hi mx => match C.P.underlying t, lst σ lo, lst σ hi, lst σ mx with
    | some (.slice e), some lo, some hi, some mx => match σ.ev x with
      | .val (.sl m cs) u => bif isSize C.P e cs.length then sliceK (.sl m cs) u lo hi mx else False
      | .own id => match getO σ.objs id, hi, mx with
        | some (.arr e' xs), none, none => match Cs C.P e' with
          | some (_, cs) => bif isSize C.P e cs.length then bif decide (0 ≤ lo.getD 0 ∧ lo.getD 0 ≤ xs.length) then k (setD σ o.dst (.osl id (lo.getD 0).toNat cs.length)) else False else False
          | none => False
        | _, _, _ => False
      | _ => False
    | some .string, some lo, some hi, some none => match σ.ev x with
      | .val .str u =>
        bif decide (0 ≤ lo.getD 0 ∧ lo.getD 0 ≤ hi.getD u.str.size ∧ hi.getD u.str.size ≤ u.str.size) then
          k (setD σ o.dst (.val .str (.s (u.str.extract (lo.getD 0).toNat (hi.getD u.str.size).toNat)))) else False
      | _ => False
    | _, _, _, _ => False
  | .call { callee := .builtin .len, args := args, argTypes := ts } => match evs σ args.toList, ts.toList with
    | [x], [t] => match C.P.underlying t, x with
      | some (.slice _), .val (.sl _ _) u => k (setD σ o.dst (.val (.int .i64) (.i (u.list.length : Int))))
      | some (.slice _), .own id => match getO σ.objs id with
        | some (.arr _ xs) => k (setD σ o.dst (.val (.int .i64) (.i (xs.length : Int))))
        | _ => False
      | some (.slice _), .nil => k (setD σ o.dst (.val (.int .i64) (.i 0)))
      | some (.map _ _), .mp id => match getO σ.objs id with
        | some (.map _ es) => bif Nat.ble es.length room then k (setD σ o.dst (.val (.int .i64) (.i (es.length : Int)))) else False
        | _ => False
      | some .string, .val .str u => k (setD σ o.dst (.val (.int .i64) (.i (u.str.size : Int))))
      | _, _ => False
    | _, _ => False
  | .call { callee := .builtin .min, args := args, .. } => match evs σ args.toList with
    | [.val (.int i) x, .val (.int j) y] => bif IntKind.same i j then k (setD σ o.dst (.val (.int i) (.i (bif decide (y.int < x.int) then y.int else x.int)))) else False
    | _ => False
  | .call { callee := .builtin .max, args := args, .. } => match evs σ args.toList with
    | [.val (.int i) x, .val (.int j) y] => bif IntKind.same i j then k (setD σ o.dst (.val (.int i) (.i (bif decide (x.int < y.int) then y.int else x.int)))) else False
    | _ => False
  | .call { callee := .builtin .append, args := args, argTypes := ts } => match evs σ args.toList, ts.toList, o.dst with
    | [s, x], [t, tx], some d => match nilCell C.P t, C.P.underlying tx with
      | some e, some (.slice _) => opAppend C d e false s x σ k
      | some e, some .string => opAppend C d e true s x σ k
      | _, _ => False
    | _, _, _ => False
  | .call { callee := .value cf, args := args, .. } => match σ.ev cf with
    | .clo f _ => opCall C o.dst f cf args.toList σ k
    | _ => False
  | .lookup t x i ok => match mapOf C.P t, σ.ev x with
    | some (kc, vt, vm, vcs), .mp id => match getO σ.objs id, plainU kc (σ.ev i), zeroM C.P vt vm with
      | some (.map t' es), some ku, some z => bif Nat.beq t' t then
          (match ok with
          | true => k (setD σ o.dst (.tup [elemSV vm vcs (mval kc ku z es), .val .bool (.b (mhas kc ku es))]))
          | false => k (setD σ o.dst (elemSV vm vcs (mval kc ku z es)))) else False
      | _, _, _ => False
    | _, _ => False
  | .mapUpdate t x i v => match mapOf C.P t, σ.ev x with
    | some (kc, _, vm, vcs), .mp id => match getO σ.objs id, plainU kc (σ.ev i), toUs plainU vcs (cellsV (σ.ev v)) with
      | some (.map t' es), some ku, some us => bif Nat.beq t' t && aggV vm (σ.ev v) then k (σ.setO id (.map t (mput kc ku (ofElem vm us) es))) else False
      | _, _, _ => False
    | _, _ => False
  | .mapEntry t x i => match mapOf C.P t, σ.ev x with
    | some (kc, vt, vm, vcs), .mp id => match getO σ.objs id, plainU kc (σ.ev i), zeroM C.P vt vm with
      | some (.map t' es), some ku, some z => bif Nat.beq t' t && Nat.ble es.length room then
          k (setD (σ.setO id (.map t (mput kc ku (mval kc ku z es) es))) o.dst (.tup [elemSV vm vcs (mval kc ku z es), .val (.int .i64) (.i (mpos kc ku es))])) else False
      | _, _, _ => False
    | _, _ => False
  | .entryStore t x i v => match mapOf C.P t, σ.ev x, σ.ev i with
    | some (_, _, vm, vcs), .mp id, .val (.int _) j => match getO σ.objs id, toUs plainU vcs (cellsV (σ.ev v)) with
      | some (.map t' es), some us => bif Nat.beq t' t && aggV vm (σ.ev v) && decide (0 ≤ j.int ∧ j.int < es.length) then k (σ.setO id (.map t (mset (ofElem vm us) j.int.toNat es))) else False
      | _, _ => False
    | _, _, _ => False
  | .makeFunc (.func f) first caps => match first.toList with
    | [] => k (setD σ o.dst (.clo f (evs σ caps.toList)))
    | _ => False
  | .makeInterface t x => match C.P.underlying t with
    | some (.interface _) => False
    | some _ => k (setD σ o.dst (.ifc t (σ.ev x)))
    | none => False
  | .panic x => match σ.ev x with
    | .ifc t v => C.pan (.ifc t v) σ
    | _ => False
  | .makeMap t none => match o.dst, C.P.underlying t with
    | some d, some (.map kt vt) => match Cs C.P kt, Cs C.P vt with
      | some _, some _ => k ((σ.new (2 * (d * 64)) (.map t [])).set d (.mp (2 * (d * 64))))
      | _, _ => False
    | _, _ => False
  | .call { callee := .builtin .copy, args := args, argTypes := ts } => match evs σ args.toList, ts.toList with
    | [d, s], [t, tx] => match nilCell C.P t, C.P.underlying tx with
      | some e, some (.slice _) => match Cs C.P e, source C.P σ.objs false [.int .u8] false s with
        | some (false, [.int .u8]), some ys => bif isSize C.P e 1 then (match d with
            | .own id => opCopy C o e id 0 ys σ k
            | .osl id j 1 => opCopy C o e id j ys σ k
            | _ => False) else False
        | _, _ => False
      | _, _ => False
    | _, _ => False
  | _ => False
  where sliceK (c : Ct) (u : U) (lo hi mx : Option Int) : Prop :=
      bif decide (0 ≤ lo.getD 0 ∧ lo.getD 0 ≤ hi.getD u.list.length ∧ hi.getD u.list.length ≤ mx.getD (hi.getD u.list.length) ∧ mx.getD (hi.getD u.list.length) ≤ u.list.length) && (match mx, hi with | some _, none => false | _, _ => true) then
        k (setD σ o.dst (.val c (.l ((u.list.take (hi.getD u.list.length).toNat).drop (lo.getD 0).toNat)))) else False
def gslot (all : List Oper) (j : Nat) : Option Nat := match nth none (all.map some) j with
  | some o => o.dst
  | none => none
def execOps (C : Ctx) (all : List Oper) : List Oper → St → (St → Prop) → Prop
  | [], σ, k => k σ
  | o :: r, σ, k => match o.guard with
    | none => op1 C o σ fun σ' => execOps C all r σ' k
    | some (j, want) => match gslot all j with
      | none => False
      | some t => match get σ.env t, want with
        | .val .bool u, true => bif u.bool then op1 C o (σ.set t (.val .bool (.b true))) fun σ' => execOps C all r σ' k
            else execOps C all r (setD (σ.set t (.val .bool (.b false))) o.dst .und) k
        | .val .bool u, false => bif u.bool then execOps C all r (setD (σ.set t (.val .bool (.b true))) o.dst .und) k
            else op1 C o (σ.set t (.val .bool (.b false))) fun σ' => execOps C all r σ' k
        | .und, _ => execOps C all r (setD σ o.dst .und) k
        | _, _ => False
def touchC (C : Ctx) (o : Oper) : Bool := match o.op with
  | .call { callee := .value (.func f), .. } => match C.exts f with | some _ => true | none => match C.trs f with | some _ => !C.calm f | none => false
  | .call { callee := .value _, .. } => true
  | .panic _ => true
  | _ => false
def touchB (C : Ctx) (o : Oper) : Bool := match o.op with
  | .store _ _ _ => true
  | .mapUpdate _ _ _ _ => true
  | .mapEntry _ _ _ => true
  | .entryStore _ _ _ _ => true
  | .insert _ _ _ _ => true
  | _ => touchC C o
def touchA (C : Ctx) (o : Oper) : Bool := match o.op with
  | .store _ _ _ => true
  | .call { callee := .builtin .append, .. } => true
  | .call { callee := .builtin .copy, .. } => true
  | _ => touchC C o
def noneB (C : Ctx) : List Oper → Bool
  | [] => true
  | o :: r => match touchB C o with | true => false | false => noneB C r
def noneA (C : Ctx) : List Oper → Bool
  | [] => true
  | o :: r => match touchA C o with | true => false | false => noneA C r
def quietOp (P : Program) (kb ka : Bool) (σ : St) (o : Oper) : Bool := match o.op with
  | .move _ => true
  | .assign x => !isNil (σ.ev x)
  | .pick _ _ _ => true
  | .load _ x => match σ.ev x with
    | .ptr _ _ => kb
    | .aptr _ _ _ _ => ka
    | .rptr _ _ => true
    | .und => true
    | _ => false
  | .nilCheck _ => true
  | .binOp _ _ _ _ _ => true
  | .unOp _ _ _ => true
  | .convert s _ x => match P.underlying s with
    | some (.slice _) => match σ.ev x with
      | .own _ => false
      | _ => true
    | _ => true
  | .fieldAddr _ _ _ => true
  | .field _ _ _ => true
  | .indexAddr _ _ _ => true
  | .index _ _ _ => true
  | .extract _ _ => true
  | .slice _ x _ _ _ => match σ.ev x with
    | .own _ => false
    | _ => true
  | .build _ _ => true
  | .makeFunc (.func _) _ _ => true
  | .makeInterface _ _ => true
  | .call { callee := .builtin .len, args := args, .. } => match evs σ args.toList with
    | [.mp _] => false
    | _ => true
  | _ => false
def quietG (P : Program) (kb ka : Bool) (all : List Oper) (σ : St) (o : Oper) : Bool := match o.guard with
  | none => quietOp P kb ka σ o
  | some (j, want) => match gslot all j with
    | none => false
    | some t => match get σ.env t with
      | .val .bool _ => quietOp P kb ka (σ.set t (.val .bool (.b want))) o
      | .und => true
      | _ => false
def firstQ (P : Program) (kb ka : Bool) (ops : Array Oper) (listed : Array Bool) (σ : St) : List Nat → Option (Nat × Oper)
  | [] => none
  | i :: r => match ops[i]? with
    | none => none
    | some o => match quietG P kb ka ops.toList σ o, Region.free .any ops listed i with
      | true, true => some (i, o)
      | _, _ => firstQ P kb ka ops listed σ r
structure Alt (x y : Prop) : Prop where
  l : x
  r : y
def allK (f : Nat → Prop) : List Nat → Prop
  | [] => True
  | [i] => f i
  | i :: r => Alt (f i) (allK f r)
def oneK (C : Ctx) (ops : Array Oper) (σ : St) (i : Nat) (k : St → Prop) : Prop := match ops[i]? with
  | some o => execOps C ops.toList [o] σ k
  | none => False
def drawK (C : Ctx) (ops : Array Oper) (kb ka : Bool) : Nat → Array Bool → St → (St → Prop) → Prop
  | 0, listed, σ, k => match Region.ready .any ops listed with
    | [] => k σ
    | _ => False
  | n + 1, listed, σ, k => match Region.ready .any ops listed with
    | [] => k σ
    | rs => match firstQ C.P kb ka ops listed σ rs with
      | some (i, o) => execOps C ops.toList [o] σ fun σ' => drawK C ops kb ka n (listed.setIfInBounds i true) σ' k
      | none => allK (fun i => oneK C ops σ i fun σ' => drawK C ops kb ka n (listed.setIfInBounds i true) σ' k) rs
def keepE (env : List (Nat × SV)) : List Nat → List (Nat × SV)
  | [] => []
  | t :: r => (t, get env t) :: keepE env r
def keepO (objs : List (Nat × Obj)) : List Nat → List (Nat × Obj)
  | [] => []
  | t :: r => match getO objs t with
    | some o => (t, o) :: keepO objs r
    | none => keepO objs r
def mask (σ : St) : Option (List Nat × List Nat) → St
  | none => σ
  | some (ts, os) => ⟨keepE σ.env ts, keepO σ.objs os⟩
def gets (env : List (Nat × SV)) : List Nat → List SV
  | [] => []
  | t :: r => get env t :: gets env r
def getOs (objs : List (Nat × Obj)) : List Nat → Option (List Obj)
  | [] => some []
  | t :: r => match getO objs t, getOs objs r with
    | some o, some os => some (o :: os)
    | _, _ => none
def outOf (C : Ctx) (id : Nat) (k : Ex → St → Prop) : Ex → St → Prop
  | .exit n, σ => bif Nat.beq n id then k .normal (mask σ (C.kout id)) else k (.exit n) σ
  | .normal, σ => k .normal (mask σ (C.kout id))
  | .ret, σ => k .ret σ
def exec (C : Ctx) : Code → Nat → St → (Ex → St → Prop) → Prop
  | .skip, _, σ, k => k .normal σ
  | .ret, _, σ, k => k .ret σ
  | .exit n, _, σ, k => k (.exit n) σ
  | .seq a b, c, σ, k => exec C a c σ fun e σ' => match e with
    | .normal => exec C b c σ' k
    | .ret => k .ret σ'
    | .exit n => k (.exit n) σ'
  | .cond x a b, c, σ, k => match σ.ev x with
    | .val .bool u => bif u.bool then exec C a c σ k else exec C b c σ k
    | _ => False
  | .block id a, _, σ, k => exec C a id σ (outOf C id k)
  | .loop _, c, σ, k => match C.loops c with
    | some (ts, os, F) => match σ.freezes C.P (strays os (handles (gets σ.env ts))) with
      | some σ => match getOs σ.objs os with
        | some l => F C.pan (gets σ.env ts) l k
        | none => False
      | none => False
    | none => False
  | .region _ ops draw, _, σ, k => match draw with
    | false => execOps C ops.toList ops.toList σ fun σ' => k .normal σ'
    | true => drawK C ops (noneB C ops.toList) (noneA C ops.toList) ops.size (Array.replicate ops.size false) σ fun σ' => k .normal σ'
  | _, _, _, _ => False
def retMask (lo lr : Option (List Nat × List Nat)) : Option (List Nat × List Nat) := match lr with | none => lo | some x => some x
def again (P : Program) (lo lr : Option (List Nat × List Nat)) (pan : SV → St → Prop) (ts os : List Nat) (F : LoopF) (μ : List SV → List Obj → Nat) (n : Nat) (k : Ex → St → Prop) : Ex → St → Prop
  | .normal, σ => match σ.freezes P (strays os (handles (gets σ.env ts))) with
    | some σ => match getOs σ.objs os with
      | some l => bif Nat.blt (μ (gets σ.env ts) l) n then F pan (gets σ.env ts) l k else False
      | none => False
    | none => False
  | .ret, σ => k .ret (mask σ (retMask lo lr))
  | .exit m, σ => k (.exit m) (mask σ lo)
end
def resVals (P : Program) (σ : St) : List ResultVar → Option (List SV)
  | [] => some []
  | .tmp t :: r => match resVals P σ r with
    | some l => some (get σ.env t :: l)
    | none => none
  | .cell x t :: r => match get σ.env x, resVals P σ r with
    | .ptr id off, some l => match getO σ.objs id with
      | some (.box cells) => match part P t cells off with
        | some v => some (v :: l)
        | none => none
      | _ => none
    | _, _ => none
def fin (P : Program) (fn : Func) : Ex → St → Option (List (List U))
  | .exit _, _ => none
  | _, σ => match resVals P σ fn.results.toList with
    | some vs => flats P (toU P σ.objs) fn.resultTypes.toList vs
    | none => none
def args (P : Program) : Nat → List TypeId → List (List U) → Option (List (Nat × SV))
  | _, [], [] => some []
  | n, t :: ts, u :: us => match unflat P t u, args P (n + 1) ts us with
    | some v, some vs => some ((n, v) :: vs)
    | _, _ => none
  | _, _, _ => none
def bodyOf (fn : Func) : Code := match fn.body with | some c => c | none => .refuse "no body"
def finK (P : Program) (fn : Func) (R : List (List U) → Prop) (e : Ex) (σ : St) : Prop := match fin P fn e σ with
  | some rs => R rs
  | none => False
def Ctx.panics (C : Ctx) (pan : SV → St → Prop) : Ctx := { C with pan := pan }
def run (C : Ctx) (fn : Func) (us : List (List U)) (R : List (List U) → Prop) : Prop := match args C.P 0 fn.params.toList us with
  | some env => exec (C.panics fun _ _ => False) (bodyOf fn) 0 ⟨env, []⟩ (finK C.P fn R)
  | none => False
def loopsOf : Code → Nat → List (Nat × Code)
  | .seq a b, c => loopsOf a c ++ loopsOf b c
  | .cond _ a b, c => loopsOf a c ++ loopsOf b c
  | .block id a, _ => loopsOf a id
  | .loop a, c => (c, a) :: loopsOf a c
  | _, _ => []
def loopBody (fn : Func) (k : Nat) : Code := (nth (0, .skip) (loopsOf (bodyOf fn) 0) k).2
end Go.Den

namespace Go.Den
open Go Go.RowKit
section
variable (w : World) (Z : Nat → Prop)
mutual
def RepC : Ct → Value → U → Prop
  | .int k, v, u => v = .int k u.int ∧ k.min ≤ u.int ∧ u.int ≤ k.max
  | .bool, v, u => v = .bool u.bool
  | .str, v, u => v = .string u.str ∧ u.str.size ≤ maxLen
  | .sl m cs, v, u => ∃ A c, v = .slice A u.list.length c ∧ u.list.length ≤ c ∧ c ≤ maxLen ∧ ∀ k, k < u.list.length → ∃ b o, A = some ⟨b, o, none⟩ ∧ Z b ∧ RepCs cs b (o + k * cs.length) (elemU m (U.at u.list k))
  | .oth, _, _ => False
def RepCs : List Ct → Nat → Nat → List U → Prop
  | [], _, _, _ => True
  | c :: cs, b, o, us => (∃ v, w.cell? ⟨b, o, none⟩ = some v ∧ RepC c v (U.at us 0)) ∧ RepCs cs b (o + 1) us.tail
end
def RepL : List Ct → List Value → List U → Prop
  | [], vs, _ => vs = []
  | c :: cs, vs, us => ∃ v t, vs = v :: t ∧ RepC w Z c v (U.at us 0) ∧ RepL cs t us.tail
def RepK (m : Bool) (cs : List Ct) (v : Value) (u : U) : Prop := match m with
  | true => ∃ vs, v = .agg vs ∧ RepL w Z cs vs.toList u.list
  | false => ∃ c, cs = [c] ∧ RepC w Z c v u
def RepEnts (km : Bool) (kcs : List Ct) (vm : Bool) (vcs : List Ct) : Nat → List (U × U) → List MapEntry → Prop
  | _, [], es => es = []
  | n, (k, x) :: r, es => ∃ e t, es = e :: t ∧ e.born = n ∧ RepK w Z km kcs e.key k ∧ RepK w Z vm vcs e.val x ∧ RepEnts km kcs vm vcs (n + 1) r t
def RepElems (m : Bool) (cs : List Ct) : List U → List Value → Prop
  | [], vs => vs = []
  | u :: us, vs => ∃ p q, vs = p ++ q ∧ RepL w Z cs p (elemU m u) ∧ RepElems m cs us q
def slFrom (j z : Nat) : Value → Value
  | .slice A n c => .slice (if c = j then A else A.map (·.add (j * z))) (n - j) (c - j)
  | v => v
variable (G : Nat → Value)
mutual
def RepSV : SV → Value → Prop
  | .val c u, v => RepC w Z c v u
  | .agg cs, v => ∃ vs, v = .agg vs ∧ RepSVs cs vs.toList
  | .nil, v => v = .slice none 0 0
  | .own id, v => v = G id
  | .ptr id off, v => ∃ b, G id = .pointer (some ⟨b, 0, none⟩) ∧ v = .pointer (some ⟨b, off, none⟩)
  | .aptr id sz j off, v => ∃ b n c, G id = .slice (some ⟨b, 0, none⟩) n c ∧ v = .pointer (some ⟨b, j * sz + off, none⟩)
  | .osl id j z, v => v = slFrom j z (G id)
  | .rptr cs us, v => ∃ b o, v = .pointer (some ⟨b, o, none⟩) ∧ Z b ∧ RepCs w Z cs b o us
  | .nilp, v => v = .pointer none
  | .tup l, v => ∃ vs, v = .tuple vs ∧ RepSVs l vs.toList
  | .clo f cs, v => ∃ vs, v = .func (.func f) #[] vs ∧ RepSVs cs vs.toList
  | .mp id, v => ∃ b, G id = .pointer (some ⟨b, 0, none⟩) ∧ v = .map (some b)
  | .ifc t s, v => ∃ x, v = .iface t x ∧ RepSV s x
  | .nili, v => v = .nilIface
  | .und, v => v = undef
  | .unk, _ => True
def RepSVs : List SV → List Value → Prop
  | [], vs => vs = []
  | s :: r, vs => ∃ v t, vs = v :: t ∧ RepSV s v ∧ RepSVs r t
end
def RepO (P : Program) (id : Nat) : Obj → Prop
  | .box cells => ∃ b ty c, G id = .pointer (some ⟨b, 0, none⟩) ∧ w.heap[b]? = some (.cells c ty (0, 0)) ∧ RepSVs w Z G cells c.toList
  | .arr e xs => ∃ m cs vs, Cs P e = some (m, cs) ∧ w.ownsRow 0 e cs.length (G id) xs.length vs ∧ RepElems w Z m cs xs vs
  | .map t es => ∃ b ents kt vt km kcs vm vcs, G id = .pointer (some ⟨b, 0, none⟩) ∧ w.heap[b]? = some (.map ents es.length) ∧ P.underlying t = some (.map kt vt) ∧ Cs P kt = some (km, kcs) ∧ Cs P vt = some (vm, vcs) ∧
      RepEnts w Z km kcs vm vcs 0 es ents.toList
end
def blk : Value → Option Nat
  | .pointer (some a) => some a.block
  | .slice (some a) _ _ => some a.block
  | _ => none
structure Fut (M : Nat → Prop) (w0 w : World) : Prop where
  os : w.os = w0.os
  tape : w.tape = w0.tape
  output : w.output = w0.output
  size : w0.heap.size ≤ w.heap.size
  block : ∀ k, k < w0.heap.size → ¬ M k → w.heap[k]? = w0.heap[k]?
theorem Fut.refl (M : Nat → Prop) (w : World) : Fut M w w := ⟨rfl, rfl, rfl, Nat.le_refl _, fun _ _ _ => rfl⟩
theorem Fut.trans {M M' N : Nat → Prop} {a b c : World} (h : Fut M a b) (k : Fut M' b c) (hM : ∀ i, M i → N i) (hM' : ∀ i, i < a.heap.size → M' i → N i) : Fut N a c :=
  ⟨k.os.trans h.os, k.tape.trans h.tape, k.output.trans h.output, Nat.le_trans h.size k.size,
    fun i hi hn => (k.block i (Nat.lt_of_lt_of_le hi h.size) (fun hm => hn (hM' i hi hm))).trans (h.block i hi (fun hm => hn (hM i hm)))⟩
def Plain (w : World) (b : Nat) : Prop := ∃ c ty, w.heap[b]? = some (.cells c ty (0, 0))
theorem Plain.of {w w' : World} {b : Nat} (h : Plain w b) (e : w'.heap[b]? = w.heap[b]?) : Plain w' b := by
  obtain ⟨c, ty, h⟩ := h
  exact ⟨c, ty, e.trans h⟩
structure Stays (w w' : World) (Z Z' : Nat → Prop) : Prop where
  sub : ∀ b, Z b → Z' b
  same : ∀ b, Z b → w'.heap[b]? = w.heap[b]?
theorem Stays.refl (w : World) (Z : Nat → Prop) : Stays w w Z Z := ⟨fun _ h => h, fun _ _ => rfl⟩
mutual
theorem RepC.mono {w w' : World} {Z Z' : Nat → Prop} (S : Stays w w' Z Z') : ∀ (c : Ct) (v : Value) (u : U), RepC w Z c v u → RepC w' Z' c v u
  | .int _, _, _, h => h
  | .bool, _, _, h => h
  | .str, _, _, h => h
  | .oth, _, _, h => h
  | .sl m cs, v, u, h => by
    obtain ⟨A, c, hv, hc, hcm, hk⟩ := h
    refine ⟨A, c, hv, hc, hcm, fun k hl => ?_⟩
    obtain ⟨b, o, hA, hb, hr⟩ := hk k hl
    exact ⟨b, o, hA, S.sub b hb, RepCs.mono S cs b _ _ (S.same b hb) hr⟩
theorem RepCs.mono {w w' : World} {Z Z' : Nat → Prop} (S : Stays w w' Z Z') : ∀ (cs : List Ct) (b o : Nat) (us : List U), w'.heap[b]? = w.heap[b]? → RepCs w Z cs b o us → RepCs w' Z' cs b o us
  | [], _, _, _, _, _ => trivial
  | c :: cs, b, o, us, hb, h => by
    obtain ⟨⟨v, hc, hr⟩, ht⟩ := h
    exact ⟨⟨v, (World.cell?_of_block (w := w) (a := ⟨b, o, none⟩) hb).trans hc, RepC.mono S c v _ hr⟩, RepCs.mono S cs b (o + 1) us.tail hb ht⟩
end
mutual

theorem RepC.ok {w : World} {Z : Nat → Prop} : ∀ {c : Ct} {v : Value} {u : U}, RepC w Z c v u → okC c u
  | .int _, _, _, h => h.2
  | .bool, _, _, _ => trivial
  | .str, _, _, h => h.2
  | .oth, _, _, _ => trivial
  | .sl m cs, v, u, h => by
    obtain ⟨A, c, hv, hc, hcm, hk⟩ := h
    refine ⟨Nat.le_trans hc hcm, fun k hl => ?_⟩
    obtain ⟨b, o, hA, hb, hr⟩ := hk k hl
    exact RepCs.ok hr
theorem RepCs.ok {w : World} {Z : Nat → Prop} : ∀ {cs : List Ct} {b o : Nat} {us : List U}, RepCs w Z cs b o us → okCs cs us
  | [], _, _, _, _ => trivial
  | _ :: _, _, _, _, h => by
    obtain ⟨⟨v, _, hr⟩, ht⟩ := h
    exact ⟨RepC.ok hr, RepCs.ok ht⟩
end
theorem RepL.ok {w : World} {Z : Nat → Prop} : ∀ {cs : List Ct} {vs : List Value} {us : List U}, RepL w Z cs vs us → okCs cs us
  | [], _, _, _ => trivial
  | _ :: _, _, _, h => by
    obtain ⟨v, t, _, hr, ht⟩ := h
    exact ⟨hr.ok, RepL.ok ht⟩
theorem wrap_within (k : IntKind) (n : Int) : k.min ≤ k.wrap n ∧ k.wrap n ≤ k.max := by
  cases k <;> simp only [IntKind.wrap, IntKind.min, IntKind.max, IntKind.bits, IntKind.signed] <;> simp <;> (try split) <;> omega
theorem kind_zero (k : IntKind) : k.min ≤ 0 ∧ 0 ≤ k.max := by cases k <;> simp [IntKind.min, IntKind.max, IntKind.bits, IntKind.signed]
theorem rep_wrap {w : World} {Z : Nat → Prop} (k : IntKind) (n : Int) : RepC w Z (.int k) (.int k (k.wrap n)) (.i (k.wrap n)) := ⟨rfl, wrap_within k n⟩
theorem rep_len {w : World} {Z : Nat → Prop} {n : Nat} (h : n ≤ maxLen) : RepC w Z (.int .i64) (.int .i64 (n : Int)) (.i (n : Int)) :=
  ⟨rfl, by show -(2 ^ 63 : Int) ≤ (n : Int); omega, by show (n : Int) ≤ 2 ^ 63 - 1; unfold maxLen at h; omega⟩
theorem rep_u8 {w : World} {Z : Nat → Prop} (b : UInt8) : RepC w Z (.int .u8) (.int .u8 (b.toNat : Int)) (.i (b.toNat : Int)) :=
  ⟨rfl, by show (0 : Int) ≤ _; exact Int.natCast_nonneg _, by show ((b.toNat : Nat) : Int) ≤ 2 ^ 8 - 1; have := b.toNat_lt; omega⟩
theorem rep_div {w : World} {Z : Nat → Prop} {k : IntKind} {m : Int} (h : k.min ≤ m ∧ m ≤ k.max) (j : Nat) : RepC w Z (.int k) (.int k (m.fdiv (2 ^ j))) (.i (m.fdiv (2 ^ j))) := by
  have hp : (1 : Int) ≤ 2 ^ j := by have := Int.pow_pos (n := 2) (m := j) (by omega); omega
  have h0 := kind_zero k
  rw [Int.fdiv_eq_ediv_of_nonneg _ (by omega)]
  refine ⟨rfl, ?_, ?_⟩
  · show k.min ≤ m / 2 ^ j
    by_cases hm : 0 ≤ m
    · have := Int.ediv_nonneg hm (show (0 : Int) ≤ 2 ^ j by omega); omega
    · have : m ≤ m / 2 ^ j := by
        rw [Int.le_ediv_iff_mul_le (by omega)]
        have := Int.mul_le_mul_of_nonpos_left (a := m) (by omega) hp
        omega
      omega
  · show m / 2 ^ j ≤ k.max
    by_cases hm : 0 ≤ m
    · have := Int.ediv_le_self (2 ^ j) hm; omega
    · have : m / 2 ^ j < 0 := Int.ediv_neg_of_neg_of_pos (by omega) (by omega)
      omega
theorem rep_mod {w : World} {Z : Nat → Prop} {k : IntKind} {m : Int} (h : k.min ≤ m ∧ m ≤ k.max) (n : Int) : RepC w Z (.int k) (.int k (m.tmod n)) (.i (m.tmod n)) := by
  have h0 := kind_zero k
  have ha : (m.tmod n).natAbs ≤ m.natAbs := by rw [Int.natAbs_tmod]; exact Nat.mod_le _ _
  refine ⟨rfl, ?_, ?_⟩
  · show k.min ≤ m.tmod n
    by_cases hm : 0 ≤ m
    · have := Int.tmod_nonneg n hm; omega
    · omega
  · show m.tmod n ≤ k.max
    by_cases hm : 0 ≤ m
    · omega
    · have : m.tmod n ≤ 0 := by
        have := Int.tmod_nonneg n (show 0 ≤ -m by omega)
        rw [Int.neg_tmod] at this; omega
      omega
theorem RepL.mono {w w' : World} {Z Z' : Nat → Prop} (S : Stays w w' Z Z') : ∀ {cs : List Ct} {vs : List Value} {us : List U}, RepL w Z cs vs us → RepL w' Z' cs vs us
  | [], _, _, h => h
  | _ :: _, _, _, h => by
    obtain ⟨v, t, hv, hr, ht⟩ := h
    exact ⟨v, t, hv, RepC.mono S _ v _ hr, RepL.mono S ht⟩
theorem RepK.mono {w w' : World} {Z Z' : Nat → Prop} (S : Stays w w' Z Z') {m : Bool} {cs : List Ct} {v : Value} {u : U} (h : RepK w Z m cs v u) : RepK w' Z' m cs v u := by
  cases m with
  | true => obtain ⟨vs, hv, hr⟩ := h; exact ⟨vs, hv, RepL.mono S hr⟩
  | false => obtain ⟨c, hc, hr⟩ := h; exact ⟨c, hc, RepC.mono S c v u hr⟩
theorem RepEnts.mono {w w' : World} {Z Z' : Nat → Prop} (S : Stays w w' Z Z') {km vm : Bool} {kcs vcs : List Ct} : ∀ {es : List (U × U)} {n : Nat} {l : List MapEntry}, RepEnts w Z km kcs vm vcs n es l → RepEnts w' Z' km kcs vm vcs n es l
  | [], _, _, h => h
  | (_, _) :: _, _, _, h => by
    obtain ⟨e, t, hl, hb, hk, hx, ht⟩ := h
    exact ⟨e, t, hl, hb, RepK.mono S hk, RepK.mono S hx, RepEnts.mono S ht⟩
theorem RepElems.mono {w w' : World} {Z Z' : Nat → Prop} (S : Stays w w' Z Z') {m : Bool} {cs : List Ct} : ∀ {us : List U} {vs : List Value}, RepElems w Z m cs us vs → RepElems w' Z' m cs us vs
  | [], _, h => h
  | _ :: _, _, h => by
    obtain ⟨p, q, hv, hr, ht⟩ := h
    exact ⟨p, q, hv, RepL.mono S hr, RepElems.mono S ht⟩
theorem RepL.length {w : World} {Z : Nat → Prop} : ∀ {cs : List Ct} {vs : List Value} {us : List U}, RepL w Z cs vs us → vs.length = cs.length
  | [], _, _, h => by have h : _ = [] := h; subst h; rfl
  | _ :: _, _, _, h => by
    obtain ⟨v, t, rfl, _, ht⟩ := h
    simp [RepL.length ht]
theorem RepElems.length {w : World} {Z : Nat → Prop} {m : Bool} {cs : List Ct} : ∀ {us : List U} {vs : List Value}, RepElems w Z m cs us vs → vs.length = us.length * cs.length
  | [], _, h => by have h : _ = [] := h; subst h; simp
  | _ :: us, _, h => by
    obtain ⟨p, q, rfl, hp, hq⟩ := h
    simp [RepL.length hp, RepElems.length hq, Nat.add_mul]; omega
theorem RepElems.app {w : World} {Z : Nat → Prop} {m : Bool} {cs : List Ct} : ∀ {us ys : List U} {vs ws : List Value}, RepElems w Z m cs us vs → RepElems w Z m cs ys ws → RepElems w Z m cs (us ++ ys) (vs ++ ws)
  | [], _, _, _, h, k => by have h : _ = [] := h; subst h; exact k
  | _ :: _, _, _, _, h, k => by
    obtain ⟨p, q, rfl, hp, hq⟩ := h
    exact ⟨p, q ++ _, by rw [List.append_assoc], hp, RepElems.app hq k⟩
theorem RepElems.at_ {w : World} {Z : Nat → Prop} {m : Bool} {cs : List Ct} : ∀ {us : List U} {vs : List Value} (_ : RepElems w Z m cs us vs) (k : Nat), k < us.length →
    ∃ p q r, vs = p ++ q ++ r ∧ p.length = k * cs.length ∧ RepL w Z cs q (elemU m (U.at us k))
  | [], _, _, _, hk => absurd hk (by simp)
  | u :: us, _, h, 0, _ => by
    obtain ⟨p, q, rfl, hp, _⟩ := h
    exact ⟨[], p, q, rfl, by simp, hp⟩
  | u :: us, _, h, k + 1, hk => by
    obtain ⟨p, q, rfl, hp, hq⟩ := h
    obtain ⟨p', q', r', rfl, hl, hr⟩ := RepElems.at_ hq k (by simpa using hk)
    exact ⟨p ++ p', q', r', by simp [List.append_assoc], by simp [RepL.length hp, hl, Nat.add_mul]; omega, hr⟩
theorem RepElems.set_ {w : World} {Z : Nat → Prop} {m : Bool} {cs : List Ct} : ∀ {us : List U} {p q r : List Value} {k : Nat} {x : U} {q' : List Value}, RepElems w Z m cs us (p ++ q ++ r) → k < us.length → p.length = k * cs.length → q.length = cs.length →
    RepL w Z cs q' (elemU m x) → RepElems w Z m cs (us.set k x) (p ++ q' ++ r)
  | [], _, _, _, _, _, _, _, hk, _, _, _ => absurd hk (by simp)
  | u :: us, p, q, r, 0, x, q', h, _, hp, hq, hr => by
    have : p = [] := List.eq_nil_of_length_eq_zero (by simpa using hp)
    subst this
    obtain ⟨p1, q1, he, h1, h2⟩ := h
    have he : q ++ r = p1 ++ q1 := by simpa using he
    obtain ⟨rfl, rfl⟩ := List.append_inj he (by rw [hq, RepL.length h1])
    exact ⟨q', r, by simp, hr, h2⟩
  | u :: us, p, q, r, k + 1, x, q', h, hk, hp, hq, hr => by
    obtain ⟨p1, q1, he, h1, h2⟩ := h
    have hl1 := RepL.length h1
    have hle : p1.length ≤ p.length := by rw [hl1, hp, Nat.add_mul]; omega
    have hpp : p = p1 ++ p.drop p1.length := by
      have := congrArg (List.take p1.length) he
      simp only [List.append_assoc] at this
      rw [List.take_append_of_le_length hle, List.take_left] at this
      have ht := List.take_append_drop p1.length p
      rw [this] at ht
      exact ht.symm
    refine ⟨p1, p.drop p1.length ++ q' ++ r, by rw [← List.append_assoc, ← List.append_assoc, ← hpp], h1, RepElems.set_ (q := q) ?_ (by simpa using hk) ?_ hq hr⟩
    · have : p1 ++ (p.drop p1.length ++ q ++ r) = p1 ++ q1 := by rw [← he, ← List.append_assoc, ← List.append_assoc, ← hpp]
      rw [List.append_cancel_left this]; exact h2
    · simp [hp, hl1, Nat.add_mul]
theorem RepElems.replicate {w : World} {Z : Nat → Prop} {m : Bool} {cs : List Ct} {x : U} {q : List Value} (h : RepL w Z cs q (elemU m x)) : ∀ n : Nat, RepElems w Z m cs (List.replicate n x) (List.replicate n q).flatten
  | 0 => rfl
  | n + 1 => ⟨q, (List.replicate n q).flatten, by simp [List.replicate_succ], h, RepElems.replicate h n⟩
structure Turns (w w' : World) (Z Z' : Nat → Prop) (G G' : Nat → Value) (id : Nat) (x : SV) : Prop extends Stays w w' Z Z' where
  other : ∀ i, i ≠ id → G' i = G i
  its : RepSV w' Z' G' x (G id)
mutual
theorem RepSV.sub {w w' : World} {Z Z' : Nat → Prop} {G G' : Nat → Value} {id : Nat} {x : SV} (T : Turns w w' Z Z' G G' id x) : ∀ (s : SV) (v : Value), RepSV w Z G s v → RepSV w' Z' G' (SV.sub id x s) v
  | .val c u, v, h => RepC.mono T.toStays c v u h
  | .agg cs, v, h => by
    obtain ⟨vs, hv, hr⟩ := h
    exact ⟨vs, hv, RepSVs.sub T cs _ hr⟩
  | .nil, _, h => h
  | .own i, v, h => by
    unfold SV.sub
    have h : v = G i := h
    cases hb : Nat.beq i id with
    | true =>
      have : i = id := Nat.eq_of_beq_eq_true hb
      subst this; subst h
      exact T.its
    | false =>
      show v = G' i
      rw [T.other i (Nat.ne_of_beq_eq_false hb)]; exact h
  | .ptr i off, v, h => by
    unfold SV.sub
    cases hb : Nat.beq i id with
    | true => trivial
    | false =>
      obtain ⟨b, h1, h2⟩ := h
      exact ⟨b, (T.other i (Nat.ne_of_beq_eq_false hb)).trans h1, h2⟩
  | .osl i j z, v, h => by
    unfold SV.sub
    cases hb : Nat.beq i id with
    | true => trivial
    | false =>
      show v = slFrom j z (G' i)
      rw [T.other i (Nat.ne_of_beq_eq_false hb)]; exact h
  | .aptr i sz j off, v, h => by
    unfold SV.sub
    cases hb : Nat.beq i id with
    | true => trivial
    | false =>
      obtain ⟨b, n, c, h1, h2⟩ := h
      exact ⟨b, n, c, (T.other i (Nat.ne_of_beq_eq_false hb)).trans h1, h2⟩
  | .rptr cs us, v, h => by
    obtain ⟨b, o, hv, hb, hr⟩ := h
    exact ⟨b, o, hv, T.sub b hb, RepCs.mono T.toStays cs b o us (T.same b hb) hr⟩
  | .nilp, _, h => h
  | .tup l, v, h => by
    obtain ⟨vs, hv, hr⟩ := h
    exact ⟨vs, hv, RepSVs.sub T l _ hr⟩
  | .clo _ l, v, h => by
    obtain ⟨vs, hv, hr⟩ := h
    exact ⟨vs, hv, RepSVs.sub T l _ hr⟩
  | .mp i, v, h => by
    unfold SV.sub
    cases hb : Nat.beq i id with
    | true => trivial
    | false =>
      obtain ⟨b, h1, h2⟩ := h
      exact ⟨b, (T.other i (Nat.ne_of_beq_eq_false hb)).trans h1, h2⟩
  | .ifc _ s, v, h => by
    obtain ⟨x, hv, hr⟩ := h
    exact ⟨x, hv, RepSV.sub T s x hr⟩
  | .nili, _, h => h
  | .und, _, h => h
  | .unk, _, _ => trivial
theorem RepSVs.sub {w w' : World} {Z Z' : Nat → Prop} {G G' : Nat → Value} {id : Nat} {x : SV} (T : Turns w w' Z Z' G G' id x) : ∀ (l : List SV) (vs : List Value), RepSVs w Z G l vs → RepSVs w' Z' G' (SV.sub.subs id x l) vs
  | [], _, h => h
  | s :: r, vs, h => by
    obtain ⟨v, t, hv, hs, hr⟩ := h
    exact ⟨v, t, hv, RepSV.sub T s v hs, RepSVs.sub T r t hr⟩
end
mutual
theorem RepSV.mono {w w' : World} {Z Z' : Nat → Prop} {G : Nat → Value} (S : Stays w w' Z Z') : ∀ (s : SV) (v : Value), RepSV w Z G s v → RepSV w' Z' G s v
  | .val c u, v, h => RepC.mono S c v u h
  | .agg cs, v, h => by
    obtain ⟨vs, hv, hr⟩ := h
    exact ⟨vs, hv, RepSVs.mono S cs _ hr⟩
  | .nil, _, h => h
  | .own _, _, h => h
  | .ptr _ _, _, h => h
  | .aptr _ _ _ _, _, h => h
  | .osl _ _ _, _, h => h
  | .rptr cs us, v, h => by
    obtain ⟨b, o, hv, hb, hr⟩ := h
    exact ⟨b, o, hv, S.sub b hb, RepCs.mono S cs b o us (S.same b hb) hr⟩
  | .nilp, _, h => h
  | .tup l, v, h => by
    obtain ⟨vs, hv, hr⟩ := h
    exact ⟨vs, hv, RepSVs.mono S l _ hr⟩
  | .clo _ l, v, h => by
    obtain ⟨vs, hv, hr⟩ := h
    exact ⟨vs, hv, RepSVs.mono S l _ hr⟩
  | .mp _, _, h => h
  | .ifc _ s, v, h => by
    obtain ⟨x, hv, hr⟩ := h
    exact ⟨x, hv, RepSV.mono S s x hr⟩
  | .nili, _, h => h
  | .und, _, h => h
  | .unk, _, _ => trivial
theorem RepSVs.mono {w w' : World} {Z Z' : Nat → Prop} {G : Nat → Value} (S : Stays w w' Z Z') : ∀ (l : List SV) (vs : List Value), RepSVs w Z G l vs → RepSVs w' Z' G l vs
  | [], _, h => h
  | s :: r, vs, h => by
    obtain ⟨v, t, hv, hs, hr⟩ := h
    exact ⟨v, t, hv, RepSV.mono S s v hs, RepSVs.mono S r t hr⟩
end
theorem RepSVs.length {w : World} {Z : Nat → Prop} {G : Nat → Value} : ∀ {l : List SV} {vs : List Value}, RepSVs w Z G l vs → l.length = vs.length
  | [], vs, h => by have h : vs = [] := h; subst h; rfl
  | s :: r, vs, h => by
    obtain ⟨v, t, rfl, _, hr⟩ := h
    simp [RepSVs.length hr]
theorem RepSVs.nth {w : World} {Z : Nat → Prop} {G : Nat → Value} : ∀ {l : List SV} {vs : List Value} (_ : RepSVs w Z G l vs) (i : Nat) (v : Value), vs[i]? = some v → RepSV w Z G (nth .unk l i) v
  | [], vs, h, i, v, hv => by have h : vs = [] := h; simp [h] at hv
  | s :: r, vs, h, i, v, hv => by
    obtain ⟨v', t, rfl, hs, hr⟩ := h
    cases i with
    | zero => simp at hv; subst hv; exact hs
    | succ i => exact RepSVs.nth hr i v (by simpa using hv)
theorem RepSVs.drop {w : World} {Z : Nat → Prop} {G : Nat → Value} : ∀ {l : List SV} {vs : List Value} (_ : RepSVs w Z G l vs) (n : Nat), RepSVs w Z G (l.drop n) (vs.drop n)
  | _, _, h, 0 => h
  | [], vs, h, _ + 1 => by have h : vs = [] := h; subst h; exact rfl
  | s :: r, vs, h, n + 1 => by
    obtain ⟨v, t, rfl, _, hr⟩ := h
    exact RepSVs.drop hr n
theorem RepSVs.take {w : World} {Z : Nat → Prop} {G : Nat → Value} : ∀ {l : List SV} {vs : List Value} (_ : RepSVs w Z G l vs) (n : Nat), RepSVs w Z G (l.take n) (vs.take n)
  | _, _, _, 0 => by simp only [List.take_zero]; exact rfl
  | [], vs, h, _ + 1 => by have h : vs = [] := h; subst h; exact rfl
  | s :: r, vs, h, n + 1 => by
    obtain ⟨v, t, rfl, hs, hr⟩ := h
    exact ⟨v, t.take n, rfl, hs, RepSVs.take hr n⟩
theorem RepSVs.app {w : World} {Z : Nat → Prop} {G : Nat → Value} : ∀ {l m : List SV} {vs us : List Value} (_ : RepSVs w Z G l vs) (_ : RepSVs w Z G m us), RepSVs w Z G (l ++ m) (vs ++ us)
  | [], m, vs, us, h, k => by have h : vs = [] := h; subst h; exact k
  | s :: r, m, vs, us, h, k => by
    obtain ⟨v, t, rfl, hs, hr⟩ := h
    exact ⟨v, t ++ us, rfl, hs, RepSVs.app hr k⟩
mutual
theorem RepSV.ok {w : World} {Z : Nat → Prop} {G : Nat → Value} : ∀ {s : SV} {v : Value}, RepSV w Z G s v → okS s
  | .val _ _, _, h => RepC.ok h
  | .agg _, _, h => by obtain ⟨vs, _, hr⟩ := h; exact RepSVs.ok hr
  | .tup _, _, h => by obtain ⟨vs, _, hr⟩ := h; exact RepSVs.ok hr
  | .clo _ _, _, h => by obtain ⟨vs, _, hr⟩ := h; exact RepSVs.ok hr
  | .ifc _ s, _, h => by obtain ⟨x, _, hr⟩ := h; exact RepSV.ok (s := s) (v := x) hr
  | .rptr _ _, _, h => by obtain ⟨b, o, _, _, hr⟩ := h; exact RepCs.ok hr
  | .nil, _, _ => trivial
  | .own _, _, _ => trivial
  | .ptr _ _, _, _ => trivial
  | .aptr _ _ _ _, _, _ => trivial
  | .osl _ _ _, _, _ => trivial
  | .nilp, _, _ => trivial
  | .mp _, _, _ => trivial
  | .nili, _, _ => trivial
  | .und, _, _ => trivial
  | .unk, _, _ => trivial
theorem RepSVs.ok {w : World} {Z : Nat → Prop} {G : Nat → Value} : ∀ {l : List SV} {vs : List Value}, RepSVs w Z G l vs → okS.okSs l
  | [], _, _ => trivial
  | _ :: _, _, h => by obtain ⟨v, t, _, hs, hr⟩ := h; exact ⟨RepSV.ok hs, RepSVs.ok hr⟩
end
theorem RepO.ok {w : World} {Z : Nat → Prop} {G : Nat → Value} {P : Program} {id : Nat} {o : Obj} (h : RepO w Z G P id o) : okO P o := by
  cases o with
  | box cells => obtain ⟨b, ty, c, _, _, hr⟩ := h; exact RepSVs.ok hr
  | arr e xs =>
    obtain ⟨m, cs, vs, hcs, hown, hr⟩ := h
    refine ⟨?_, fun m' cs' hcs' k hk => ?_⟩
    · rcases hown.2 with ⟨_, h0⟩ | ⟨g, cap, cur, _, _, _, h1, h2, _⟩
      · rw [h0]; exact Nat.zero_le _
      · exact Nat.le_trans h1 h2
    · rw [hcs] at hcs'
      cases hcs'
      obtain ⟨p, q, r, _, _, hq⟩ := hr.at_ k hk
      exact hq.ok
  | map t es => trivial
end Go.Den

namespace Go.Den
open Go Go.RowKit
theorem nbeq_ne {k t : Nat} (h : k ≠ t) : Nat.beq k t = false := by
  cases hb : Nat.beq k t with
  | false => rfl
  | true => exact absurd (Nat.eq_of_beq_eq_true hb) h
theorem nbeq_self (k : Nat) : Nat.beq k k = true := Nat.beq_refl k
theorem get_cons (k t : Nat) (v : SV) (r : List (Nat × SV)) : get ((k, v) :: r) t = if k = t then v else get r t := by
  show (bif Nat.beq k t then v else get r t) = _
  by_cases h : k = t
  · subst h; simp
  · simp [h, nbeq_ne h]
theorem getO_cons (k t : Nat) (v : Obj) (r : List (Nat × Obj)) : getO ((k, v) :: r) t = if k = t then some v else getO r t := by
  show (bif Nat.beq k t then some v else getO r t) = _
  by_cases h : k = t
  · subst h; simp
  · simp [h, nbeq_ne h]
theorem getO_dropO_same (r : List (Nat × Obj)) (t : Nat) : getO (dropO r t) t = none := by
  induction r with
  | nil => rfl
  | cons x r ih =>
    obtain ⟨k, v⟩ := x
    show getO (bif Nat.beq k t then dropO r t else (k, v) :: dropO r t) t = none
    by_cases h : k = t
    · subst h; rw [nbeq_self]; exact ih
    · rw [nbeq_ne h, cond_false, getO_cons, if_neg h]; exact ih
theorem getO_dropO_other (r : List (Nat × Obj)) {t s : Nat} (hs : s ≠ t) : getO (dropO r t) s = getO r s := by
  induction r with
  | nil => rfl
  | cons x r ih =>
    obtain ⟨k, v⟩ := x
    show getO (bif Nat.beq k t then dropO r t else (k, v) :: dropO r t) s = getO ((k, v) :: r) s
    by_cases h : k = t
    · subst h; rw [nbeq_self, cond_true, ih, getO_cons, if_neg (Ne.symm hs)]
    · rw [nbeq_ne h, cond_false, getO_cons, getO_cons, ih]
theorem get_subE (id : Nat) (x : SV) (r : List (Nat × SV)) (t : Nat) : get (subE id x r) t = SV.sub id x (get r t) := by
  induction r with
  | nil => rfl
  | cons y r ih =>
    obtain ⟨k, v⟩ := y
    unfold subE
    rw [get_cons, get_cons]
    split
    · rfl
    · exact ih
def Obj.sub (id : Nat) (x : SV) : Obj → Obj
  | .box cs => .box (SV.sub.subs id x cs)
  | o => o
theorem getO_subO (id : Nat) (x : SV) (r : List (Nat × Obj)) (t : Nat) : getO (subO id x r) t = (getO r t).map (Obj.sub id x) := by
  induction r with
  | nil => rfl
  | cons y r ih =>
    obtain ⟨k, v⟩ := y
    cases v <;> (unfold subO; rw [getO_cons, getO_cons]; split; rfl; exact ih)
structure Anc where
  w : World
  M : Nat → Prop
  N : Nat → Prop
  Z0 : Nat → Prop
  kb : Bool
  ka : Bool
  G0 : Nat → Value
  ds : List Deferred
def Anc.keeps (Θ : Anc) : Obj → Bool
  | .arr _ _ => Θ.ka
  | _ => Θ.kb
def Anc.lets (C : Ctx) (Θ : Anc) (o : Oper) : Bool := (!touchB C o || !Θ.kb) && (!touchA C o || !Θ.ka)
structure Sim (P : Program) (Θ : Anc) (n : Nat) (σ : St) (a : Act) (w : World) (Z : Nat → Prop) (G : Nat → Value) : Prop where
  size : a.tmps.size = n
  calm : a.defers = Θ.ds
  slot : ∀ t, RepSV w Z G (get σ.env t) (a.tmps.getD t undef)
  obj : ∀ id o, getO σ.objs id = some o → RepO w Z G P id o
  sep : ∀ id id' o o' b, getO σ.objs id = some o → getO σ.objs id' = some o' → blk (G id) = some b → blk (G id') = some b → id = id'
  free : ∀ id o b, getO σ.objs id = some o → blk (G id) = some b → ¬ Z b ∧ (Θ.M b ∨ Θ.N b ∨ Θ.w.heap.size ≤ b)
  keep : ∀ id o b, getO σ.objs id = some o → blk (G id) = some b → Θ.N b → Θ.keeps o = true
  nlt : ∀ b, Θ.N b → b < Θ.w.heap.size
  lt : ∀ b, Z b → b < w.heap.size
  fut : Fut Θ.M Θ.w w
  new : ∀ b, Z b → Θ.Z0 b ∨ Θ.M b ∨ Θ.N b ∨ Θ.w.heap.size ≤ b
  sub : ∀ b, Θ.Z0 b → Z b
  flat : ∀ id, (G id).oneCell' = true
  odd : ∀ id, id % 2 = 1 → G id = Θ.G0 id
  row : ∀ b, Z b → Θ.Z0 b ∨ Plain w b
section
variable {P : Program} {Θ : Anc} {n : Nat} {σ : St} {a : Act} {w : World} {Z : Nat → Prop} {G : Nat → Value}
theorem cond_sv {b : Bool} {s : SV} {v : Value} (h : b = true → RepSV w Z G s v) : RepSV w Z G (bif b then s else .unk) v := by
  cases b
  · trivial
  · exact h rfl
theorem ofConst_rep (v : Value) : RepSV w Z G (ofConst v) v := by
  unfold ofConst
  split <;> first | exact rfl | trivial | skip
  · refine cond_sv fun hb => ?_
    simp only [inK, Bool.and_eq_true, decide_eq_true_eq] at hb
    exact ⟨rfl, hb⟩
  · exact cond_sv fun hb => ⟨rfl, Nat.le_of_ble_eq_true hb⟩
theorem Sim.ev (S : Sim P Θ n σ a w Z G) (x : Operand) : RepSV w Z G (σ.ev x) (a.eval x) := by
  cases x with
  | tmp t => exact S.slot t
  | const v =>
    show RepSV w Z G (ofConst v) v
    exact ofConst_rep v
  | global g => exact trivial
  | func f => exact ⟨#[], rfl, rfl⟩
theorem Sim.set (S : Sim P Θ n σ a w Z G) {t : Nat} {s : SV} {v : Value} (h : RepSV w Z G s v) (ht : t < n) :
    Sim P Θ n (σ.set t s) { a with tmps := a.tmps.setIfInBounds t v } w Z G :=
  { S with
    size := by simpa using S.size
    slot := fun u => by
      show RepSV w Z G (get ((t, s) :: σ.env) u) _
      rw [get_cons]
      by_cases hu : t = u
      · subst hu
        rw [if_pos rfl, Array.getD_eq_getD_getElem?, Array.getElem?_setIfInBounds_self_of_lt (by rw [S.size]; exact ht)]
        exact h
      · rw [if_neg hu]
        have := S.slot u
        rw [Array.getD_eq_getD_getElem?, Array.getElem?_setIfInBounds_ne hu, ← Array.getD_eq_getD_getElem?]
        exact this }
theorem Sim.put (S : Sim P Θ n σ a w Z G) {d : Option Nat} {s : SV} {v : Value} (h : RepSV w Z G s v) (hd : ∀ t, d = some t → t < n) :
    Sim P Θ n (setD σ d s) (a.put d v) w Z G := by
  cases d with
  | none => exact S
  | some t => exact S.set h (hd t rfl)
theorem Sim.know (S : Sim P Θ n σ a w Z G) {t : Nat} {s : SV} (h : RepSV w Z G s (a.tmps.getD t undef)) : Sim P Θ n (σ.set t s) a w Z G :=
  { S with
    slot := fun u => by
      show RepSV w Z G (get ((t, s) :: σ.env) u) _
      rw [get_cons]
      by_cases hu : t = u
      · subst hu; rw [if_pos rfl]; exact h
      · rw [if_neg hu]; exact S.slot u }
theorem Sim.drew (S : Sim P Θ n σ a w Z G) (d : Nat) : Sim P Θ n σ a { w with drawn := d } Z G := by
  have K : Stays w { w with drawn := d } Z Z := ⟨fun _ h => h, fun _ _ => rfl⟩
  exact { S with
    slot := fun t => RepSV.mono K _ _ (S.slot t)
    obj := fun id o ho => by
      have h := S.obj id o ho
      cases o with
      | box cells =>
        obtain ⟨b, ty, c, h1, h2, h3⟩ := h
        exact ⟨b, ty, c, h1, h2, RepSVs.mono K _ _ h3⟩
      | arr e xs =>
        obtain ⟨m, cs, vs, h1, h2, h3⟩ := h
        exact ⟨m, cs, vs, h1, h2, RepElems.mono K h3⟩
      | map t es =>
        obtain ⟨b, ents, kt, vt, km, kcs, vm, vcs, h1, h2, h3, h4, h5, h6⟩ := h
        exact ⟨b, ents, kt, vt, km, kcs, vm, vcs, h1, h2, h3, h4, h5, RepEnts.mono K h6⟩
    fut := ⟨S.fut.os, S.fut.tape, S.fut.output, S.fut.size, S.fut.block⟩ }
end
theorem blk_ownBlock (v : Value) (b : Nat) (h : v.ownBlock = some b) : blk v = some b := by
  unfold Value.ownBlock at h
  split at h
  · exact h
  · cases h
theorem RepO.mono {P : Program} {w w' : World} {Z Z' : Nat → Prop} {G : Nat → Value} {id : Nat} {o : Obj} (K : Stays w w' Z Z') (hb : ∀ b, blk (G id) = some b → w'.heap[b]? = w.heap[b]?) (h : RepO w Z G P id o) : RepO w' Z' G P id o := by
  cases o with
  | box cells =>
    obtain ⟨b, ty, c, h1, h2, h3⟩ := h
    exact ⟨b, ty, c, h1, (hb b (by rw [h1]; rfl)).trans h2, RepSVs.mono K _ _ h3⟩
  | arr e xs =>
    obtain ⟨m, cs, vs, h1, ⟨h2, h2'⟩, h3⟩ := h
    refine ⟨m, cs, vs, h1, ⟨h2, ?_⟩, RepElems.mono K h3⟩
    rcases h2' with h2' | ⟨g, cap, cur, hv, hg, hh, r⟩
    · exact .inl h2'
    · exact .inr ⟨g, cap, cur, hv, hg, (hb g (by rw [hv]; rfl)).trans hh, r⟩
  | map t es =>
    obtain ⟨b, ents, kt, vt, km, kcs, vm, vcs, h1, h2, h3, h4, h5, h6⟩ := h
    exact ⟨b, ents, kt, vt, km, kcs, vm, vcs, h1, (hb b (by rw [h1]; rfl)).trans h2, h3, h4, h5, RepEnts.mono K h6⟩
theorem RepO.sub {P : Program} {w w' : World} {Z Z' : Nat → Prop} {G G' : Nat → Value} {id j : Nat} {x : SV} {o : Obj} (T : Turns w w' Z Z' G G' id x) (hj : j ≠ id) (hb : ∀ b, blk (G j) = some b → w'.heap[b]? = w.heap[b]?)
    (h : RepO w Z G P j o) : RepO w' Z' G' P j (o.sub id x) := by
  cases o with
  | box cells =>
    obtain ⟨b, ty, c, h1, h2, h3⟩ := h
    exact ⟨b, ty, c, (T.other j hj).trans h1, (hb b (by rw [h1]; rfl)).trans h2, RepSVs.sub T _ _ h3⟩
  | arr e xs =>
    have h' : RepO w' Z' G P j (.arr e xs) := RepO.mono T.toStays hb h
    obtain ⟨m, cs, vs, h1, h2, h3⟩ := h'
    refine ⟨m, cs, vs, h1, ?_, h3⟩
    rw [T.other j hj]; exact h2
  | map t es =>
    have h' : RepO w' Z' G P j (.map t es) := RepO.mono T.toStays hb h
    obtain ⟨b, ents, kt, vt, km, kcs, vm, vcs, h1, h2⟩ := h'
    exact ⟨b, ents, kt, vt, km, kcs, vm, vcs, (T.other j hj).trans h1, h2⟩
section
variable {P : Program} {Θ : Anc} {n : Nat} {σ : St} {a : Act} {w w' : World} {Z : Nat → Prop} {G : Nat → Value}
theorem RepO.lt (S : Sim P Θ n σ a w Z G) {j : Nat} {p : Obj} {b : Nat} (hp : getO σ.objs j = some p) (hb : blk (G j) = some b) : b < w.heap.size := by
  have hr := S.obj j p hp
  cases p with
  | box cells =>
    obtain ⟨b', ty, c, h1, h2, _⟩ := hr
    rw [h1] at hb
    have hb : b' = b := by simpa [blk] using hb
    subst hb
    rcases Nat.lt_or_ge b' w.heap.size with h | h
    · exact h
    · rw [Array.getElem?_eq_none h] at h2; cases h2
  | arr e xs =>
    obtain ⟨m, cs, vs, _, h2, _⟩ := hr
    refine (World.ownsRow.lt h2 b ?_).2
    rcases h2.2 with ⟨h3, _⟩ | ⟨g, cap, cur, h3, _⟩
    · rw [h3] at hb; simp [blk] at hb
    · rw [h3] at hb ⊢; simpa [blk, Value.ownBlock] using hb
  | map t es =>
    obtain ⟨b', ents, kt, vt, km, kcs, vm, vcs, h1, h2, _⟩ := hr
    rw [h1] at hb
    have hb : b' = b := by simpa [blk] using hb
    subst hb
    rcases Nat.lt_or_ge b' w.heap.size with h | h
    · exact h
    · rw [Array.getElem?_eq_none h] at h2; cases h2
theorem Sim.newO (S : Sim P Θ n σ a w Z G) {id : Nat} {o : Obj} {v : Value} {row : Option Nat} (hev : id % 2 = 0) (hg : w.grownBy w' row)
    (hrow : ∀ b, row = some b → blk (G id) = some b ∧ ∃ p, getO σ.objs id = some p ∧ Θ.keeps p = false)
    (hv : ∀ b, blk v = some b → row = some b ∨ w.heap.size ≤ b)
    (ho : RepO w' Z (fun i => if i = id then v else G i) P id o) :
    Sim P Θ n (σ.new id o) a w' Z (fun i => if i = id then v else G i) := by
  have hZrow : ∀ b, Z b → some b ≠ row := by
    intro b hb he
    obtain ⟨h1, p, hp, _⟩ := hrow b he.symm
    exact (S.free id p b hp h1).1 hb
  have hK : Stays w w' Z Z := ⟨fun _ h => h, fun b hb => hg.block b (S.lt b hb) (hZrow b hb)⟩
  have T : Turns w w' Z Z G (fun i => if i = id then v else G i) id .unk := { toStays := hK, other := fun i hi => if_neg hi, its := trivial }
  have hobj : ∀ j o', j ≠ id → getO (σ.new id o).objs j = some o' → ∃ p, getO σ.objs j = some p ∧ o' = p.sub id .unk := by
    intro j o' hj h
    have h : getO ((id, o) :: dropO (subO id .unk σ.objs) id) j = some o' := h
    rw [getO_cons, if_neg (Ne.symm hj), getO_dropO_other _ hj, getO_subO] at h
    obtain ⟨p, h1, h2⟩ := Option.map_eq_some_iff.1 h
    exact ⟨p, h1, h2.symm⟩
  have hlt : ∀ j p b, getO σ.objs j = some p → blk (G j) = some b → b < w.heap.size := fun j p b hp hb => RepO.lt S hp hb
  have hother : ∀ j p b, j ≠ id → getO σ.objs j = some p → blk (G j) = some b → some b ≠ row := by
    intro j p b hj hp hb he
    obtain ⟨h1, q, hq, _⟩ := hrow b he.symm
    exact hj (S.sep j id p q b hp hq hb h1)
  refine { size := S.size, calm := S.calm, slot := ?_, obj := ?_, sep := ?_, free := ?_, keep := ?_, nlt := S.nlt, lt := ?_, fut := ?_, new := S.new, sub := S.sub, flat := ?_, odd := fun i hi => (if_neg (by rintro rfl; omega)).trans (S.odd i hi), row := fun b hb => (S.row b hb).imp (fun h => h) fun h => h.of (hK.same b hb) }
  · intro t
    show RepSV w' Z _ (get (subE id .unk σ.env) t) _
    rw [get_subE]
    exact RepSV.sub T _ _ (S.slot t)
  · intro j o' hj
    by_cases h : j = id
    · subst h
      have hj : getO ((j, o) :: dropO (subO j .unk σ.objs) j) j = some o' := hj
      rw [getO_cons, if_pos rfl] at hj
      cases hj
      exact ho
    · obtain ⟨p, hp, rfl⟩ := hobj j o' h hj
      exact RepO.sub T h (fun b hb => hg.block b (hlt j p b hp hb) (hother j p b h hp hb)) (S.obj j p hp)
  · intro j j' p p' b hp hp' hb hb'
    by_cases h : j = id <;> by_cases h' : j' = id
    · rw [h, h']
    · obtain ⟨q, hq, _⟩ := hobj j' p' h' hp'
      simp only [h, if_true] at hb
      simp only [h', if_false] at hb'
      have h1 := hlt j' q b hq hb'
      rcases hv b hb with h2 | h2
      · exact absurd h2.symm (hother j' q b h' hq hb')
      · omega
    · obtain ⟨q, hq, _⟩ := hobj j p h hp
      simp only [h', if_true] at hb'
      simp only [h, if_false] at hb
      have h1 := hlt j q b hq hb
      rcases hv b hb' with h2 | h2
      · exact absurd h2.symm (hother j q b h hq hb)
      · omega
    · obtain ⟨q, hq, _⟩ := hobj j p h hp
      obtain ⟨q', hq', _⟩ := hobj j' p' h' hp'
      simp only [h, if_false] at hb
      simp only [h', if_false] at hb'
      exact S.sep j j' q q' b hq hq' hb hb'
  · intro j p b hp hb
    by_cases h : j = id
    · simp only [h, if_true] at hb
      rcases hv b hb with h1 | h1
      · obtain ⟨h2, q, hq, _⟩ := hrow b h1
        exact S.free id q b hq h2
      · exact ⟨fun hz => by have := S.lt b hz; omega, .inr (.inr (Nat.le_trans S.fut.size h1))⟩
    · obtain ⟨q, hq, _⟩ := hobj j p h hp
      simp only [h, if_false] at hb
      exact S.free j q b hq hb
  · intro j p b hp hb hN
    by_cases h : j = id
    · simp only [h, if_true] at hb
      rcases hv b hb with h1 | h1
      · obtain ⟨h2, q, hq, hkq⟩ := hrow b h1
        have := S.keep id q b hq h2 hN
        rw [hkq] at this; cases this
      · refine absurd hN fun hN => ?_
        have := S.nlt b hN
        have := S.fut.size
        omega
    · obtain ⟨q, hq, rfl⟩ := hobj j p h hp
      simp only [h, if_false] at hb
      have h2 := S.keep j q b hq hb hN
      cases q <;> exact h2
  · exact fun b hb => Nat.lt_of_lt_of_le (S.lt b hb) hg.size
  · refine S.fut.trans (M' := fun b => row = some b) ⟨hg.os, hg.tape, hg.output, hg.size, fun k hk hn => hg.block k hk (fun e => hn e.symm)⟩ (fun _ h => h) (fun b hb h => ?_)
    obtain ⟨h1, q, hq, hkq⟩ := hrow b h
    rcases (S.free id q b hq h1).2 with h2 | h2 | h2
    · exact h2
    · have := S.keep id q b hq h1 h2
      rw [hkq] at this; cases this
    · omega
  · intro j
    by_cases h : j = id
    · subst h
      cases o with
      | box cells => obtain ⟨b, ty, c, h1, _⟩ := ho; show Value.oneCell' ((fun i => if i = j then v else G i) j) = true; rw [h1]; rfl
      | arr e xs =>
        obtain ⟨m, cs, vs, _, h2, _⟩ := ho
        rcases h2.2 with ⟨h3, _⟩ | ⟨g, cap, cur, h3, _⟩ <;> (show Value.oneCell' ((fun i => if i = j then v else G i) j) = true; rw [h3]; rfl)
      | map t es => obtain ⟨b, ents, kt, vt, km, kcs, vm, vcs, h1, _⟩ := ho; show Value.oneCell' ((fun i => if i = j then v else G i) j) = true; rw [h1]; rfl
    · simp only [h, if_false]; exact S.flat j
theorem Sim.stored (S : Sim P Θ n σ a w Z G) {id : Nat} {o o' : Obj} {b : Nat} (hp : getO σ.objs id = some o) (hb : blk (G id) = some b) (hg : w.grownBy w' (some b)) (hs : w'.heap.size = w.heap.size)
    (hkq : Θ.keeps o = false) (ho : RepO w' Z G P id o') : Sim P Θ n (σ.setO id o') a w' Z G := by
  have hZ : ∀ c, Z c → some c ≠ some b := fun c hc e => (S.free id o b hp hb).1 (by cases e; exact hc)
  have hK : Stays w w' Z Z := ⟨fun _ h => h, fun c hc => hg.block c (S.lt c hc) (hZ c hc)⟩
  have hobj : ∀ j q, j ≠ id → getO (σ.setO id o').objs j = some q → getO σ.objs j = some q := by
    intro j q hj h
    have h : getO ((id, o') :: dropO σ.objs id) j = some q := h
    rwa [getO_cons, if_neg (Ne.symm hj), getO_dropO_other _ hj] at h
  have hin : ∀ j q, getO (σ.setO id o').objs j = some q → ∃ p, getO σ.objs j = some p := by
    intro j q h
    by_cases hj : j = id
    · exact ⟨o, by rw [hj]; exact hp⟩
    · exact ⟨q, hobj j q hj h⟩
  refine { size := S.size, calm := S.calm, slot := fun t => RepSV.mono hK _ _ (S.slot t), obj := ?_, sep := ?_, free := ?_, keep := ?_, nlt := S.nlt, lt := fun c hc => by rw [hs]; exact S.lt c hc, fut := ?_, new := S.new, sub := S.sub, flat := S.flat, odd := S.odd, row := fun c hc => (S.row c hc).imp (fun h => h) fun h => h.of (hK.same c hc) }
  · intro j q hj
    by_cases h : j = id
    · subst h
      have hj : getO ((j, o') :: dropO σ.objs j) j = some q := hj
      rw [getO_cons, if_pos rfl] at hj
      cases hj
      exact ho
    · have hq := hobj j q h hj
      exact RepO.mono hK (fun c hc => hg.block c (RepO.lt S hq hc) (fun e => h (S.sep j id q o c hq hp hc (by rw [hb]; exact e.symm)))) (S.obj j q hq)
  · intro j j' p p' c hp1 hp2 hb1 hb2
    obtain ⟨q, hq⟩ := hin j p hp1
    obtain ⟨q', hq'⟩ := hin j' p' hp2
    exact S.sep j j' q q' c hq hq' hb1 hb2
  · intro j p c hp1 hb1
    obtain ⟨q, hq⟩ := hin j p hp1
    exact S.free j q c hq hb1
  · intro j p c hp1 hb1 hN
    by_cases h : j = id
    · subst h
      have := S.keep j o c hp hb1 hN
      rw [hkq] at this; cases this
    · exact S.keep j p c (hobj j p h hp1) hb1 hN
  · refine S.fut.trans (M' := fun c => c = b) ⟨hg.os, hg.tape, hg.output, hg.size, fun k hk hn => hg.block k hk (fun e => hn (by cases e; rfl))⟩ (fun _ h => h) (fun c hc h => ?_)
    subst h
    rcases (S.free id o c hp hb).2 with h2 | h2 | h2
    · exact h2
    · have := S.keep id o c hp hb h2
      rw [hkq] at this; cases this
    · omega
end
def Live (σ : St) (G : Nat → Value) (b : Nat) : Prop := ∃ id e xs, getO σ.objs id = some (.arr e xs) ∧ blk (G id) = some b
theorem arr_plain {P : Program} {w : World} {Z : Nat → Prop} {G : Nat → Value} {id : Nat} {e : TypeId} {xs : List U} (h : RepO w Z G P id (.arr e xs)) {b : Nat} (hb : blk (G id) = some b) : Plain w b := by
  obtain ⟨m, cs, vs, h1, ⟨_, h2⟩, h3⟩ := h
  rcases h2 with ⟨h2, _⟩ | ⟨g, cap, cur, h2, _, h4, _⟩
  · rw [h2] at hb; cases hb
  · rw [h2] at hb; cases hb; exact ⟨cur, e, h4⟩
section
variable {P : Program} {Θ : Anc} {n : Nat} {σ : St} {a : Act} {w : World} {Z : Nat → Prop} {G : Nat → Value}
theorem Sim.freeze (S : Sim P Θ n σ a w Z G) {id : Nat} {o : Obj} {x : SV} (hp : getO σ.objs id = some o)
    (hx : RepSV w (fun b => Z b ∨ blk (G id) = some b) G x (G id)) (hpl : ∀ b, blk (G id) = some b → Plain w b) : Sim P Θ n (σ.freeze id x) a w (fun b => Z b ∨ blk (G id) = some b) G := by
  have T : Turns w w Z (fun b => Z b ∨ blk (G id) = some b) G G id x := { sub := fun _ h => .inl h, same := fun _ _ => rfl, other := fun _ _ => rfl, its := hx }
  have hobj : ∀ j q, getO (σ.freeze id x).objs j = some q → j ≠ id ∧ ∃ p, getO σ.objs j = some p ∧ q = p.sub id x := by
    intro j q h
    have h : getO (subO id x (dropO σ.objs id)) j = some q := h
    rw [getO_subO] at h
    obtain ⟨p, h1, h2⟩ := Option.map_eq_some_iff.1 h
    by_cases hj : j = id
    · subst hj; rw [getO_dropO_same] at h1; cases h1
    · rw [getO_dropO_other _ hj] at h1
      exact ⟨hj, p, h1, h2.symm⟩
  refine { size := S.size, calm := S.calm, slot := ?_, obj := ?_, sep := ?_, free := ?_, keep := ?_, nlt := S.nlt, lt := ?_, fut := S.fut, new := ?_, sub := fun b hb => .inl (S.sub b hb), flat := S.flat, odd := S.odd, row := fun b hb => hb.elim (S.row b) fun h => .inr (hpl b h) }
  · intro t
    show RepSV w _ _ (get (subE id x σ.env) t) _
    rw [get_subE]
    exact RepSV.sub T _ _ (S.slot t)
  · intro j q hj
    obtain ⟨hne, p, hq, rfl⟩ := hobj j q hj
    exact RepO.sub T hne (fun _ _ => rfl) (S.obj j p hq)
  · intro j j' p p' b h1 h2 hb1 hb2
    obtain ⟨_, q, hq, _⟩ := hobj j p h1
    obtain ⟨_, q', hq', _⟩ := hobj j' p' h2
    exact S.sep j j' q q' b hq hq' hb1 hb2
  · intro j p b h1 hb
    obtain ⟨hne, q, hq, _⟩ := hobj j p h1
    refine ⟨?_, (S.free j q b hq hb).2⟩
    rintro (h | h)
    · exact (S.free j q b hq hb).1 h
    · exact hne (S.sep j id q o b hq hp hb h)
  · intro j p b h1 hb hN
    obtain ⟨hne, q, hq, rfl⟩ := hobj j p h1
    have h2 := S.keep j q b hq hb hN
    cases q <;> exact h2
  · rintro b (h | h)
    · exact S.lt b h
    · exact RepO.lt S hp h
  · rintro b (h | h)
    · exact S.new b h
    · exact .inr (S.free id o b hp h).2
theorem Sim.less (S : Sim P Θ n σ a w Z G) {τ : St} (he : ∀ t, get τ.env t = get σ.env t ∨ get τ.env t = .unk) (ho : ∀ id o, getO τ.objs id = some o → getO σ.objs id = some o) : Sim P Θ n τ a w Z G :=
  { S with
    slot := fun t => by
      rcases he t with h | h
      · rw [h]; exact S.slot t
      · rw [h]; trivial
    obj := fun id o h => S.obj id o (ho id o h)
    sep := fun id id' o o' b h h' hb hb' => S.sep id id' o o' b (ho id o h) (ho id' o' h') hb hb'
    free := fun id o b h hb => S.free id o b (ho id o h) hb
    keep := fun id o b h hb => S.keep id o b (ho id o h) hb }
end
end Go.Den
