/- A part of the proof of this: two entries that are alike may stand upon the same sectors; two that overlap otherwise may not: the later one is bad. Conditions: none. Joined of B110, F111, B86T, F86T, B112, F112, B113, F113, DenRO, B115, F114, F115, F116. -/
import Derived.Test.YtjleagfibbbjnaaC5
import Derived.KernelRfl
namespace Go.Mat
open Go Go.Den Go.Proofs
def whU (F:U):List U:=List.take (min (List.length F.list / (16:Nat)) (65536:Nat) * (16:Nat)) F.list
def bdU (c z s T Sh M Q F:U):List U:=Prod.fst (badL (whU F) c.int (linesX [[c,z,s,T,Sh,M,Q],[U.l (whU F)]]))
def woU (c z s T Sh M Q F:U):List U × List U:=woOf (U.i 1) (U.i 0) (U.i 0) (U.i 0) (U.i 0) T.list Sh.list (bdU c z s T Sh M Q F)
def szU (F:U):Int:=IntKind.wrap IntKind.i64 (Int.tdiv (List.length (whU F):Int) 16)
def flBad (p:U):U:=.l [.i 1,nth (.i 0) p.list.tail 0,nth (.i 0) p.list 0]
def flCnt (size:Int) (Q:List U) (i:Int) (x:U):List U:=
 bif decide ((bif decide (i < (Q.length:Int)) then (U.at Q i.toNat).int else 0) < (bif decide (i ≥ size) then 0 else x.int)) then [.l [.i 2,.i i,.i 0]]
 else bif decide ((bif decide (i < (Q.length:Int)) then (U.at Q i.toNat).int else 0) > (bif decide (i ≥ size) then 0 else x.int)) then [.l [.i 3,.i i,.i 0]] else []
def flCnts (size:Int) (Q:List U):Int→List U→List U
 | _,[]=>[]
 | i,x :: r=>flCnt size Q i x ++ flCnts size Q (i + 1) r
noncomputable def faLoop0:LoopF:=fun _ svs os k=>match svs,os with
 | [.val (.int .i64) i,.val (.int .i64) n,.val (.sl true x0) L,.own o,.ptr p q,.val (.sl false [.int .u8]) F,.val (.sl true x4) L5],[.arr t X,.box [.val (.int .i64) c,.val (.int .i64) z,.val .str s,.val (.sl false [.sl true x1]) T,.val (.sl true x3) Sh,.val (.sl true x2) M,.val (.sl false [.int .i64]) Q]]=>
  ((x0=PPC∧o=892∧p=256∧q=0∧x4=PPC∧t=47∧x1=EC∧x3=SC∧x2=BC)∧n.int=(L.list.length:Int)∧0≤i.int∧i.int≤n.int∧X.length + L.list.length≤1073741823 + i.int.toNat)∧
  k (.exit 0) ⟨[(6,.own 892),(2,.ptr 256 0),(1,.val (.sl false [.int .u8]) F),(5,vt PPC L5)],[(892,.arr 47 (X ++ (L.list.drop i.int.toNat).map flBad)),(256,.box [vi c,vi z,vs s,.val TRC T,vt SC Sh,vt BC M,vl (.int .i64) Q])]⟩
 | _,_=>False
noncomputable def faLoop2:LoopF:=fun _ svs os k=>match svs,os with
 | [.val (.int .i64) i,.val (.int .i64) n,.val (.sl false [.int .i64]) L,.own o,.ptr p q,.val (.int .i64) sz],[.arr t X,.box [.val (.int .i64) c,.val (.int .i64) z,.val .str s,.val (.sl false [.sl true x1]) T,.val (.sl true x3) Sh,.val (.sl true x2) M,.val (.sl false [.int .i64]) Q]]=>
  ((i = .i i.int∧o=892∧p=256∧q=0∧t=47∧x1=EC∧x3=SC∧x2=BC)∧n.int=(L.list.length:Int)∧0≤i.int∧i.int≤n.int∧X.length + L.list.length≤1073741823 + i.int.toNat)∧
  k (.exit 2) ⟨[(6,.own 892)],[(892,.arr 47 (X ++ flCnts sz.int Q.list i.int (L.list.drop i.int.toNat)))]⟩
 | _,_=>False
noncomputable def faC:Ctx:=mkC PR eqs0 (fnsCons 37 metaS (fnsCons 38 wholeS (fnsConsP 39 badP badS (fnsConsP 40 ofP ofS fnsNil)))) (trsCons 41 [] woF trsNil)
 (loopCons 0 [24,23,22,6,2,1,5] [892,256] faLoop0 (loopCons 2 [52,51,50,6,2,9] [892,256] faLoop2 noLoops)) (outCons 0 [6,2,1,5] [892,256] (outCons 2 [6] [892] noOut)) noOut
theorem fa_round0 (pan:KP) (μ:Mu) (N:Nat) (k:KE) (i n L F L5 c z s T Sh M Q:U) (X:List U):(exec (faC.panics pan) (loopBody Try.f15 0) 0 ⟨[(24,vi i),(23,vi n),(22,vt PPC L),(6,.own 892),(2,.ptr 256 0),(1,.val (.sl false [.int .u8]) F),(5,vt PPC L5)],[(892,.arr 47 X),(256,.box [vi c,vi z,vs s,.val TRC T,vt SC Sh,vt BC M,vl (.int .i64) Q])]⟩ (again PR (some ([6,2,1,5],[892,256])) none pan [24,23,22,6,2,1,5] [892,256] faLoop0 μ N k))=(bif decide (i.int < n.int) then bif decide ((0:Int)≤i.int∧i.int < (L.list.length:Int)) then bif decide (List.length X + 1≤room) && true then bif Nat.blt (μ [vi (U.i (IntKind.wrap .i64 (i.int + 1))),vi n,.val (.sl true PPC) L,.own 892,.ptr 256 0,.val (.sl false [.int .u8]) F,.val (.sl true PPC) L5] [.arr 47 (X ++ [U.l [U.i 1,nth (U.i 0) (List.tail (U.list (nth (U.i 0) L.list (Int.toNat i.int)))) (0:Nat),nth (U.i 0) (U.list (nth (U.i 0) L.list (Int.toNat i.int))) (0:Nat)]]),.box [vi c,vi z,.val .str s,.val (.sl false [.sl true EC]) T,.val (.sl true [.str,.int .i64,Ct.sl false [.sl true EC]]) Sh,.val (.sl true [.str,Ct.bool,Ct.sl true PPC]) M,.val (.sl false [.int .i64]) Q]]) N then ((PPC=PPC∧nat_lit 892=nat_lit 892∧nat_lit 256=nat_lit 256∧nat_lit 0=nat_lit 0∧PPC=PPC∧nat_lit 47=nat_lit 47∧EC=EC∧[Ct.str,.int .i64,Ct.sl false [Ct.sl true EC]]=[.str,.int .i64,Ct.sl false [.sl true EC]]∧[Ct.str,Ct.bool,Ct.sl true PPC]=[.str,Ct.bool,Ct.sl true PPC])∧n.int=(L.list.length:Int)∧(0:Int)≤IntKind.wrap .i64 (i.int + 1)∧IntKind.wrap .i64 (i.int + 1)≤n.int∧List.length (X ++ [U.l [U.i 1,nth (U.i 0) (List.tail (U.list (nth (U.i 0) L.list (Int.toNat i.int)))) (0:Nat),nth (U.i 0) (U.list (nth (U.i 0) L.list (Int.toNat i.int))) (0:Nat)]]) + L.list.length≤(1073741823:Nat) + Int.toNat (IntKind.wrap .i64 (i.int + 1)))∧k (Ex.exit 0) (St.mk [(6,.own 892),(2,.ptr 256 0),(1,.val (.sl false [.int .u8]) F),(5,.val (.sl true PPC) L5)] [(892,.arr 47 (X ++ [U.l [U.i 1,nth (U.i 0) (List.tail (U.list (nth (U.i 0) L.list (Int.toNat i.int)))) (0:Nat),nth (U.i 0) (U.list (nth (U.i 0) L.list (Int.toNat i.int))) (0:Nat)]] ++ List.map flBad (List.drop (Int.toNat (IntKind.wrap .i64 (i.int + 1))) L.list))),(256,.box [vi c,vi z,.val .str s,.val (.sl false [.sl true EC]) T,.val (.sl true [.str,.int .i64,Ct.sl false [.sl true EC]]) Sh,.val (.sl true [.str,Ct.bool,Ct.sl true PPC]) M,.val (.sl false [.int .i64]) Q])]) else False else False else False else k (Ex.exit 0) (St.mk [(6,.own 892),(2,.ptr 256 0),(1,.val (.sl false [.int .u8]) F),(5,.val (.sl true PPC) L5)] [(892,.arr 47 X),(256,.box [vi c,vi z,.val .str s,.val (.sl false [.sl true EC]) T,.val (.sl true [.str,.int .i64,Ct.sl false [.sl true EC]]) Sh,.val (.sl true [.str,Ct.bool,Ct.sl true PPC]) M,.val (.sl false [.int .i64]) Q])])):=by kernel_rfl
theorem fa_round2 (pan:KP) (μ:Mu) (N:Nat) (k:KE) (i n L sz c z s T Sh M Q:U) (X:List U):(exec (faC.panics pan) (loopBody Try.f15 1) 2 ⟨[(52,vi i),(51,vi n),(50,.val (.sl false [.int .i64]) L),(6,.own 892),(2,.ptr 256 0),(9,vi sz)],[(892,.arr 47 X),(256,.box [vi c,vi z,vs s,.val TRC T,vt SC Sh,vt BC M,vl (.int .i64) Q])]⟩ (again PR (some ([6],[892])) none pan [52,51,50,6,2,9] [892,256] faLoop2 μ N k))=(bif decide (i.int < n.int) then bif decide ((0:Int)≤i.int∧i.int < (L.list.length:Int)) then bif decide (i.int ≥ sz.int) then bif decide (i.int < (Q.list.length:Int)) then bif decide ((0:Int)≤i.int∧i.int < (Q.list.length:Int)) then bif decide (U.int (nth (U.i 0) Q.list (Int.toNat i.int)) < 0) then bif decide (List.length X + 1≤room) && true then bif Nat.blt (μ [vi (U.i (IntKind.wrap .i64 (i.int + 1))),vi n,.val (.sl false [.int .i64]) L,.own 892,.ptr 256 0,vi sz] [.arr 47 (X ++ [U.l [U.i 2,i,U.i 0]]),.box [vi c,vi z,.val .str s,.val (.sl false [.sl true EC]) T,.val (.sl true [.str,.int .i64,Ct.sl false [.sl true EC]]) Sh,.val (.sl true [.str,Ct.bool,Ct.sl true PPC]) M,.val (.sl false [.int .i64]) Q]]) N then ((U.i (IntKind.wrap .i64 (i.int + 1))=U.i (IntKind.wrap .i64 (i.int + 1))∧nat_lit 892=nat_lit 892∧nat_lit 256=nat_lit 256∧nat_lit 0=nat_lit 0∧nat_lit 47=nat_lit 47∧EC=EC∧[Ct.str,.int .i64,Ct.sl false [Ct.sl true EC]]=[.str,.int .i64,Ct.sl false [.sl true EC]]∧[Ct.str,Ct.bool,Ct.sl true PPC]=[.str,Ct.bool,Ct.sl true PPC])∧n.int=(L.list.length:Int)∧(0:Int)≤IntKind.wrap .i64 (i.int + 1)∧IntKind.wrap .i64 (i.int + 1)≤n.int∧List.length (X ++ [U.l [U.i 2,i,U.i 0]]) + L.list.length≤(1073741823:Nat) + Int.toNat (IntKind.wrap .i64 (i.int + 1)))∧k (Ex.exit 2) (St.mk [(6,.own 892)] [(892,.arr 47 (X ++ [U.l [U.i 2,i,U.i 0]] ++ flCnts sz.int Q.list (IntKind.wrap .i64 (i.int + 1)) (List.drop (Int.toNat (IntKind.wrap .i64 (i.int + 1))) L.list)))]) else False else False else bif decide (U.int (nth (U.i 0) Q.list (Int.toNat i.int)) > 0) then bif decide (List.length X + 1≤room) && true then bif Nat.blt (μ [vi (U.i (IntKind.wrap .i64 (i.int + 1))),vi n,.val (.sl false [.int .i64]) L,.own 892,.ptr 256 0,vi sz] [.arr 47 (X ++ [U.l [U.i 3,i,U.i 0]]),.box [vi c,vi z,.val .str s,.val (.sl false [.sl true EC]) T,.val (.sl true [.str,.int .i64,Ct.sl false [.sl true EC]]) Sh,.val (.sl true [.str,Ct.bool,Ct.sl true PPC]) M,.val (.sl false [.int .i64]) Q]]) N then ((U.i (IntKind.wrap .i64 (i.int + 1))=U.i (IntKind.wrap .i64 (i.int + 1))∧nat_lit 892=nat_lit 892∧nat_lit 256=nat_lit 256∧nat_lit 0=nat_lit 0∧nat_lit 47=nat_lit 47∧EC=EC∧[Ct.str,.int .i64,Ct.sl false [Ct.sl true EC]]=[.str,.int .i64,Ct.sl false [.sl true EC]]∧[Ct.str,Ct.bool,Ct.sl true PPC]=[.str,Ct.bool,Ct.sl true PPC])∧n.int=(L.list.length:Int)∧(0:Int)≤IntKind.wrap .i64 (i.int + 1)∧IntKind.wrap .i64 (i.int + 1)≤n.int∧List.length (X ++ [U.l [U.i 3,i,U.i 0]]) + L.list.length≤(1073741823:Nat) + Int.toNat (IntKind.wrap .i64 (i.int + 1)))∧k (Ex.exit 2) (St.mk [(6,.own 892)] [(892,.arr 47 (X ++ [U.l [U.i 3,i,U.i 0]] ++ flCnts sz.int Q.list (IntKind.wrap .i64 (i.int + 1)) (List.drop (Int.toNat (IntKind.wrap .i64 (i.int + 1))) L.list)))]) else False else False else bif Nat.blt (μ [vi (U.i (IntKind.wrap .i64 (i.int + 1))),vi n,.val (.sl false [.int .i64]) L,.own 892,.ptr 256 0,vi sz] [.arr 47 X,.box [vi c,vi z,.val .str s,.val (.sl false [.sl true EC]) T,.val (.sl true [.str,.int .i64,Ct.sl false [.sl true EC]]) Sh,.val (.sl true [.str,Ct.bool,Ct.sl true PPC]) M,.val (.sl false [.int .i64]) Q]]) N then ((U.i (IntKind.wrap .i64 (i.int + 1))=U.i (IntKind.wrap .i64 (i.int + 1))∧nat_lit 892=nat_lit 892∧nat_lit 256=nat_lit 256∧nat_lit 0=nat_lit 0∧nat_lit 47=nat_lit 47∧EC=EC∧[Ct.str,.int .i64,Ct.sl false [Ct.sl true EC]]=[.str,.int .i64,Ct.sl false [.sl true EC]]∧[Ct.str,Ct.bool,Ct.sl true PPC]=[.str,Ct.bool,Ct.sl true PPC])∧n.int=(L.list.length:Int)∧(0:Int)≤IntKind.wrap .i64 (i.int + 1)∧IntKind.wrap .i64 (i.int + 1)≤n.int∧List.length X + L.list.length≤(1073741823:Nat) + Int.toNat (IntKind.wrap .i64 (i.int + 1)))∧k (Ex.exit 2) (St.mk [(6,.own 892)] [(892,.arr 47 (X ++ flCnts sz.int Q.list (IntKind.wrap .i64 (i.int + 1)) (List.drop (Int.toNat (IntKind.wrap .i64 (i.int + 1))) L.list)))]) else False else False else bif Nat.blt (μ [vi (U.i (IntKind.wrap .i64 (i.int + 1))),vi n,.val (.sl false [.int .i64]) L,.own 892,.ptr 256 0,vi sz] [.arr 47 X,.box [vi c,vi z,.val .str s,.val (.sl false [.sl true EC]) T,.val (.sl true [.str,.int .i64,Ct.sl false [.sl true EC]]) Sh,.val (.sl true [.str,Ct.bool,Ct.sl true PPC]) M,.val (.sl false [.int .i64]) Q]]) N then ((U.i (IntKind.wrap .i64 (i.int + 1))=U.i (IntKind.wrap .i64 (i.int + 1))∧nat_lit 892=nat_lit 892∧nat_lit 256=nat_lit 256∧nat_lit 0=nat_lit 0∧nat_lit 47=nat_lit 47∧EC=EC∧[Ct.str,.int .i64,Ct.sl false [Ct.sl true EC]]=[.str,.int .i64,Ct.sl false [.sl true EC]]∧[Ct.str,Ct.bool,Ct.sl true PPC]=[.str,Ct.bool,Ct.sl true PPC])∧n.int=(L.list.length:Int)∧(0:Int)≤IntKind.wrap .i64 (i.int + 1)∧IntKind.wrap .i64 (i.int + 1)≤n.int∧List.length X + L.list.length≤(1073741823:Nat) + Int.toNat (IntKind.wrap .i64 (i.int + 1)))∧k (Ex.exit 2) (St.mk [(6,.own 892)] [(892,.arr 47 (X ++ flCnts sz.int Q.list (IntKind.wrap .i64 (i.int + 1)) (List.drop (Int.toNat (IntKind.wrap .i64 (i.int + 1))) L.list)))]) else False else bif decide (i.int < (Q.list.length:Int)) then bif decide ((0:Int)≤i.int∧i.int < (Q.list.length:Int)) then bif decide (U.int (nth (U.i 0) Q.list (Int.toNat i.int)) < U.int (nth (U.i 0) L.list (Int.toNat i.int))) then bif decide (List.length X + 1≤room) && true then bif Nat.blt (μ [vi (U.i (IntKind.wrap .i64 (i.int + 1))),vi n,.val (.sl false [.int .i64]) L,.own 892,.ptr 256 0,vi sz] [.arr 47 (X ++ [U.l [U.i 2,i,U.i 0]]),.box [vi c,vi z,.val .str s,.val (.sl false [.sl true EC]) T,.val (.sl true [.str,.int .i64,Ct.sl false [.sl true EC]]) Sh,.val (.sl true [.str,Ct.bool,Ct.sl true PPC]) M,.val (.sl false [.int .i64]) Q]]) N then ((U.i (IntKind.wrap .i64 (i.int + 1))=U.i (IntKind.wrap .i64 (i.int + 1))∧nat_lit 892=nat_lit 892∧nat_lit 256=nat_lit 256∧nat_lit 0=nat_lit 0∧nat_lit 47=nat_lit 47∧EC=EC∧[Ct.str,.int .i64,Ct.sl false [Ct.sl true EC]]=[.str,.int .i64,Ct.sl false [.sl true EC]]∧[Ct.str,Ct.bool,Ct.sl true PPC]=[.str,Ct.bool,Ct.sl true PPC])∧n.int=(L.list.length:Int)∧(0:Int)≤IntKind.wrap .i64 (i.int + 1)∧IntKind.wrap .i64 (i.int + 1)≤n.int∧List.length (X ++ [U.l [U.i 2,i,U.i 0]]) + L.list.length≤(1073741823:Nat) + Int.toNat (IntKind.wrap .i64 (i.int + 1)))∧k (Ex.exit 2) (St.mk [(6,.own 892)] [(892,.arr 47 (X ++ [U.l [U.i 2,i,U.i 0]] ++ flCnts sz.int Q.list (IntKind.wrap .i64 (i.int + 1)) (List.drop (Int.toNat (IntKind.wrap .i64 (i.int + 1))) L.list)))]) else False else False else bif decide (U.int (nth (U.i 0) Q.list (Int.toNat i.int)) > U.int (nth (U.i 0) L.list (Int.toNat i.int))) then bif decide (List.length X + 1≤room) && true then bif Nat.blt (μ [vi (U.i (IntKind.wrap .i64 (i.int + 1))),vi n,.val (.sl false [.int .i64]) L,.own 892,.ptr 256 0,vi sz] [.arr 47 (X ++ [U.l [U.i 3,i,U.i 0]]),.box [vi c,vi z,.val .str s,.val (.sl false [.sl true EC]) T,.val (.sl true [.str,.int .i64,Ct.sl false [.sl true EC]]) Sh,.val (.sl true [.str,Ct.bool,Ct.sl true PPC]) M,.val (.sl false [.int .i64]) Q]]) N then ((U.i (IntKind.wrap .i64 (i.int + 1))=U.i (IntKind.wrap .i64 (i.int + 1))∧nat_lit 892=nat_lit 892∧nat_lit 256=nat_lit 256∧nat_lit 0=nat_lit 0∧nat_lit 47=nat_lit 47∧EC=EC∧[Ct.str,.int .i64,Ct.sl false [Ct.sl true EC]]=[.str,.int .i64,Ct.sl false [.sl true EC]]∧[Ct.str,Ct.bool,Ct.sl true PPC]=[.str,Ct.bool,Ct.sl true PPC])∧n.int=(L.list.length:Int)∧(0:Int)≤IntKind.wrap .i64 (i.int + 1)∧IntKind.wrap .i64 (i.int + 1)≤n.int∧List.length (X ++ [U.l [U.i 3,i,U.i 0]]) + L.list.length≤(1073741823:Nat) + Int.toNat (IntKind.wrap .i64 (i.int + 1)))∧k (Ex.exit 2) (St.mk [(6,.own 892)] [(892,.arr 47 (X ++ [U.l [U.i 3,i,U.i 0]] ++ flCnts sz.int Q.list (IntKind.wrap .i64 (i.int + 1)) (List.drop (Int.toNat (IntKind.wrap .i64 (i.int + 1))) L.list)))]) else False else False else bif Nat.blt (μ [vi (U.i (IntKind.wrap .i64 (i.int + 1))),vi n,.val (.sl false [.int .i64]) L,.own 892,.ptr 256 0,vi sz] [.arr 47 X,.box [vi c,vi z,.val .str s,.val (.sl false [.sl true EC]) T,.val (.sl true [.str,.int .i64,Ct.sl false [.sl true EC]]) Sh,.val (.sl true [.str,Ct.bool,Ct.sl true PPC]) M,.val (.sl false [.int .i64]) Q]]) N then ((U.i (IntKind.wrap .i64 (i.int + 1))=U.i (IntKind.wrap .i64 (i.int + 1))∧nat_lit 892=nat_lit 892∧nat_lit 256=nat_lit 256∧nat_lit 0=nat_lit 0∧nat_lit 47=nat_lit 47∧EC=EC∧[Ct.str,.int .i64,Ct.sl false [Ct.sl true EC]]=[.str,.int .i64,Ct.sl false [.sl true EC]]∧[Ct.str,Ct.bool,Ct.sl true PPC]=[.str,Ct.bool,Ct.sl true PPC])∧n.int=(L.list.length:Int)∧(0:Int)≤IntKind.wrap .i64 (i.int + 1)∧IntKind.wrap .i64 (i.int + 1)≤n.int∧List.length X + L.list.length≤(1073741823:Nat) + Int.toNat (IntKind.wrap .i64 (i.int + 1)))∧k (Ex.exit 2) (St.mk [(6,.own 892)] [(892,.arr 47 (X ++ flCnts sz.int Q.list (IntKind.wrap .i64 (i.int + 1)) (List.drop (Int.toNat (IntKind.wrap .i64 (i.int + 1))) L.list)))]) else False else False else bif decide ((0:Int) < U.int (nth (U.i 0) L.list (Int.toNat i.int))) then bif decide (List.length X + 1≤room) && true then bif Nat.blt (μ [vi (U.i (IntKind.wrap .i64 (i.int + 1))),vi n,.val (.sl false [.int .i64]) L,.own 892,.ptr 256 0,vi sz] [.arr 47 (X ++ [U.l [U.i 2,i,U.i 0]]),.box [vi c,vi z,.val .str s,.val (.sl false [.sl true EC]) T,.val (.sl true [.str,.int .i64,Ct.sl false [.sl true EC]]) Sh,.val (.sl true [.str,Ct.bool,Ct.sl true PPC]) M,.val (.sl false [.int .i64]) Q]]) N then ((U.i (IntKind.wrap .i64 (i.int + 1))=U.i (IntKind.wrap .i64 (i.int + 1))∧nat_lit 892=nat_lit 892∧nat_lit 256=nat_lit 256∧nat_lit 0=nat_lit 0∧nat_lit 47=nat_lit 47∧EC=EC∧[Ct.str,.int .i64,Ct.sl false [Ct.sl true EC]]=[.str,.int .i64,Ct.sl false [.sl true EC]]∧[Ct.str,Ct.bool,Ct.sl true PPC]=[.str,Ct.bool,Ct.sl true PPC])∧n.int=(L.list.length:Int)∧(0:Int)≤IntKind.wrap .i64 (i.int + 1)∧IntKind.wrap .i64 (i.int + 1)≤n.int∧List.length (X ++ [U.l [U.i 2,i,U.i 0]]) + L.list.length≤(1073741823:Nat) + Int.toNat (IntKind.wrap .i64 (i.int + 1)))∧k (Ex.exit 2) (St.mk [(6,.own 892)] [(892,.arr 47 (X ++ [U.l [U.i 2,i,U.i 0]] ++ flCnts sz.int Q.list (IntKind.wrap .i64 (i.int + 1)) (List.drop (Int.toNat (IntKind.wrap .i64 (i.int + 1))) L.list)))]) else False else False else bif decide ((0:Int) > U.int (nth (U.i 0) L.list (Int.toNat i.int))) then bif decide (List.length X + 1≤room) && true then bif Nat.blt (μ [vi (U.i (IntKind.wrap .i64 (i.int + 1))),vi n,.val (.sl false [.int .i64]) L,.own 892,.ptr 256 0,vi sz] [.arr 47 (X ++ [U.l [U.i 3,i,U.i 0]]),.box [vi c,vi z,.val .str s,.val (.sl false [.sl true EC]) T,.val (.sl true [.str,.int .i64,Ct.sl false [.sl true EC]]) Sh,.val (.sl true [.str,Ct.bool,Ct.sl true PPC]) M,.val (.sl false [.int .i64]) Q]]) N then ((U.i (IntKind.wrap .i64 (i.int + 1))=U.i (IntKind.wrap .i64 (i.int + 1))∧nat_lit 892=nat_lit 892∧nat_lit 256=nat_lit 256∧nat_lit 0=nat_lit 0∧nat_lit 47=nat_lit 47∧EC=EC∧[Ct.str,.int .i64,Ct.sl false [Ct.sl true EC]]=[.str,.int .i64,Ct.sl false [.sl true EC]]∧[Ct.str,Ct.bool,Ct.sl true PPC]=[.str,Ct.bool,Ct.sl true PPC])∧n.int=(L.list.length:Int)∧(0:Int)≤IntKind.wrap .i64 (i.int + 1)∧IntKind.wrap .i64 (i.int + 1)≤n.int∧List.length (X ++ [U.l [U.i 3,i,U.i 0]]) + L.list.length≤(1073741823:Nat) + Int.toNat (IntKind.wrap .i64 (i.int + 1)))∧k (Ex.exit 2) (St.mk [(6,.own 892)] [(892,.arr 47 (X ++ [U.l [U.i 3,i,U.i 0]] ++ flCnts sz.int Q.list (IntKind.wrap .i64 (i.int + 1)) (List.drop (Int.toNat (IntKind.wrap .i64 (i.int + 1))) L.list)))]) else False else False else bif Nat.blt (μ [vi (U.i (IntKind.wrap .i64 (i.int + 1))),vi n,.val (.sl false [.int .i64]) L,.own 892,.ptr 256 0,vi sz] [.arr 47 X,.box [vi c,vi z,.val .str s,.val (.sl false [.sl true EC]) T,.val (.sl true [.str,.int .i64,Ct.sl false [.sl true EC]]) Sh,.val (.sl true [.str,Ct.bool,Ct.sl true PPC]) M,.val (.sl false [.int .i64]) Q]]) N then ((U.i (IntKind.wrap .i64 (i.int + 1))=U.i (IntKind.wrap .i64 (i.int + 1))∧nat_lit 892=nat_lit 892∧nat_lit 256=nat_lit 256∧nat_lit 0=nat_lit 0∧nat_lit 47=nat_lit 47∧EC=EC∧[Ct.str,.int .i64,Ct.sl false [Ct.sl true EC]]=[.str,.int .i64,Ct.sl false [.sl true EC]]∧[Ct.str,Ct.bool,Ct.sl true PPC]=[.str,Ct.bool,Ct.sl true PPC])∧n.int=(L.list.length:Int)∧(0:Int)≤IntKind.wrap .i64 (i.int + 1)∧IntKind.wrap .i64 (i.int + 1)≤n.int∧List.length X + L.list.length≤(1073741823:Nat) + Int.toNat (IntKind.wrap .i64 (i.int + 1)))∧k (Ex.exit 2) (St.mk [(6,.own 892)] [(892,.arr 47 (X ++ flCnts sz.int Q.list (IntKind.wrap .i64 (i.int + 1)) (List.drop (Int.toNat (IntKind.wrap .i64 (i.int + 1))) L.list)))]) else False else False else k (Ex.exit 2) (St.mk [(6,.own 892)] [(892,.arr 47 X)])):=by kernel_rfl
theorem fa_tree (R:RF) (c z s T Sh M Q F:U):(run faC Try.f15 [[c,z,s,T,Sh,M,Q],[F]] R)=(bif !metaR c z s T Sh M Q then R [[U.l []]] else badP [[c,z,s,T,Sh,M,Q],[U.l (whU F)]]∧((PPC=PPC∧nat_lit 892=nat_lit 892∧nat_lit 256=nat_lit 256∧nat_lit 0=nat_lit 0∧PPC=PPC∧nat_lit 47=nat_lit 47∧EC=EC∧[Ct.str,.int .i64,Ct.sl false [Ct.sl true EC]]=[.str,.int .i64,Ct.sl false [.sl true EC]]∧[Ct.str,Ct.bool,Ct.sl true PPC]=[.str,Ct.bool,Ct.sl true PPC])∧(↑(List.length (bdU c z s T Sh M Q F)):Int)=(↑(List.length (bdU c z s T Sh M Q F)):Int)∧(0:Int)≤0∧(0:Int)≤(↑(List.length (bdU c z s T Sh M Q F)):Int)∧(0:Nat) + List.length (bdU c z s T Sh M Q F)≤(1073741823:Nat) + Int.toNat 0)∧((EC=EC∧[Ct.str,.int .i64,Ct.sl false [Ct.sl true EC]]=[.str,.int .i64,Ct.sl false [.sl true EC]]∧[Ct.str,Ct.bool,Ct.sl true PPC]=[.str,Ct.bool,Ct.sl true PPC]∧PPC=PPC)∧List.length (bdU c z s T Sh M Q F)≤(1073741824:Nat)∧woOk T.list Sh.list (bdU c z s T Sh M Q F))∧ofP [[c,z,s,U.l (Prod.fst (woU c z s T Sh M Q F)),U.l (Prod.snd (woU c z s T Sh M Q F)),M,Q],[U.i (bif decide (szU F < (Q.list.length:Int)) then (Q.list.length:Int) else szU F)]]∧((U.i (0:Int)=U.i 0∧nat_lit 892=nat_lit 892∧nat_lit 256=nat_lit 256∧nat_lit 0=nat_lit 0∧nat_lit 47=nat_lit 47∧EC=EC∧[Ct.str,.int .i64,Ct.sl false [Ct.sl true EC]]=[.str,.int .i64,Ct.sl false [.sl true EC]]∧[Ct.str,Ct.bool,Ct.sl true PPC]=[.str,Ct.bool,Ct.sl true PPC])∧(↑(List.length (bif decide ((bif decide (szU F < (Q.list.length:Int)) then (Q.list.length:Int) else szU F) < 0) then [] else bif decide ((65536:Int) < bif decide (szU F < (Q.list.length:Int)) then (Q.list.length:Int) else szU F) then [] else ofV (linesM [[c,z,s,U.l (Prod.fst (woU c z s T Sh M Q F)),U.l (Prod.snd (woU c z s T Sh M Q F)),M,Q],[U.i (bif decide (szU F < (Q.list.length:Int)) then (Q.list.length:Int) else szU F)]]) (Int.toNat (bif decide (szU F < (Q.list.length:Int)) then (Q.list.length:Int) else szU F)))):Int)=(↑(List.length (bif decide ((bif decide (szU F < (Q.list.length:Int)) then (Q.list.length:Int) else szU F) < 0) then [] else bif decide ((65536:Int) < bif decide (szU F < (Q.list.length:Int)) then (Q.list.length:Int) else szU F) then [] else ofV (linesM [[c,z,s,U.l (Prod.fst (woU c z s T Sh M Q F)),U.l (Prod.snd (woU c z s T Sh M Q F)),M,Q],[U.i (bif decide (szU F < (Q.list.length:Int)) then (Q.list.length:Int) else szU F)]]) (Int.toNat (bif decide (szU F < (Q.list.length:Int)) then (Q.list.length:Int) else szU F)))):Int)∧(0:Int)≤0∧(0:Int)≤(↑(List.length (bif decide ((bif decide (szU F < (Q.list.length:Int)) then (Q.list.length:Int) else szU F) < 0) then [] else bif decide ((65536:Int) < bif decide (szU F < (Q.list.length:Int)) then (Q.list.length:Int) else szU F) then [] else ofV (linesM [[c,z,s,U.l (Prod.fst (woU c z s T Sh M Q F)),U.l (Prod.snd (woU c z s T Sh M Q F)),M,Q],[U.i (bif decide (szU F < (Q.list.length:Int)) then (Q.list.length:Int) else szU F)]]) (Int.toNat (bif decide (szU F < (Q.list.length:Int)) then (Q.list.length:Int) else szU F)))):Int)∧List.length ([] ++ List.map flBad (List.drop (Int.toNat 0) (bdU c z s T Sh M Q F))) + List.length (bif decide ((bif decide (szU F < (Q.list.length:Int)) then (Q.list.length:Int) else szU F) < 0) then [] else bif decide ((65536:Int) < bif decide (szU F < (Q.list.length:Int)) then (Q.list.length:Int) else szU F) then [] else ofV (linesM [[c,z,s,U.l (Prod.fst (woU c z s T Sh M Q F)),U.l (Prod.snd (woU c z s T Sh M Q F)),M,Q],[U.i (bif decide (szU F < (Q.list.length:Int)) then (Q.list.length:Int) else szU F)]]) (Int.toNat (bif decide (szU F < (Q.list.length:Int)) then (Q.list.length:Int) else szU F)))≤(1073741823:Nat) + Int.toNat 0)∧R [[U.l ([] ++ List.map flBad (List.drop (Int.toNat 0) (bdU c z s T Sh M Q F)) ++ flCnts (szU F) Q.list 0 (List.drop (Int.toNat 0) (bif decide ((bif decide (szU F < (Q.list.length:Int)) then (Q.list.length:Int) else szU F) < 0) then [] else bif decide ((65536:Int) < bif decide (szU F < (Q.list.length:Int)) then (Q.list.length:Int) else szU F) then [] else ofV (linesM [[c,z,s,U.l (Prod.fst (woU c z s T Sh M Q F)),U.l (Prod.snd (woU c z s T Sh M Q F)),M,Q],[U.i (bif decide (szU F < (Q.list.length:Int)) then (Q.list.length:Int) else szU F)]]) (Int.toNat (bif decide (szU F < (Q.list.length:Int)) then (Q.list.length:Int) else szU F)))))]]):=by kernel_rfl
end Go.Mat

namespace Go.Mat
open Go Go.Den Go.Proofs
set_option maxRecDepth 100000
theorem fa_loop0:LoopOk faC 0 (loopBody Try.f15 0):=by
 refine loopOk_of (F:=faLoop0) (ts:=[24,23,22,6,2,1,5]) (os:=[892,256]) rfl (fun svs _=>match svs with | .val _ i :: .val _ n :: _=>(n.int - i.int).toNat | _=>0) ?_
 intro pan svs os k ho1 ho2 h
 unfold faLoop0 at h
 split at h
 ·rename_i i n x0 L o p q F x4 L5 t X c z s x1 T x3 Sh x2 M Q
  obtain ⟨⟨⟨rfl,rfl,rfl,rfl,rfl,rfl,rfl,rfl,rfl⟩,hn,h0,hin,hX⟩,hk⟩:=h
  refine .eq (fa_round0 pan _ _ k i n L F L5 c z s T Sh M Q X) ?_
  refine bd (fun hlt=>?_) (fun hlt=>?_)
  ·have hi:i.int.toNat < L.list.length:=by omega
   have hwi:IntKind.wrap .i64 (i.int + 1)=i.int + 1:=i64_in (by omega) (by have:L.list.length≤maxLen:=ho1.2.2.1.1;unfold maxLen at this;omega)
   have hc:(i.int + 1).toNat=i.int.toNat + 1:=by omega
   rw [drop_cons_at hi,List.map_cons] at hk
   refine dt ⟨h0,by omega⟩ (broom (by unfold room;omega) rfl ?_)
   rw [hwi,hc]
   exact blt (by simp only [U.int_i];omega) ⟨⟨⟨by trivial,by trivial,by trivial,by trivial,by trivial,by trivial,by trivial,by trivial,by trivial⟩,hn,by omega,by omega,by rw [List.length_append,List.length_singleton];omega⟩,by rw [List.append_assoc];exact hk⟩
  ·have hd:L.list.drop i.int.toNat=[]:=List.drop_eq_nil_of_le (by omega)
   rw [hd,List.map_nil,List.append_nil] at hk
   exact hk
 ·exact h.elim
theorem fa_loop2:LoopOk faC 2 (loopBody Try.f15 1):=by
 refine loopOk_of (F:=faLoop2) (ts:=[52,51,50,6,2,9]) (os:=[892,256]) rfl (fun svs _=>match svs with | .val _ i :: .val _ n :: _=>(n.int - i.int).toNat | _=>0) ?_
 intro pan svs os k ho1 ho2 h
 unfold faLoop2 at h
 split at h
 ·rename_i i n L o p q sz t X c z s x1 T x3 Sh x2 M Q
  obtain ⟨⟨⟨hii,rfl,rfl,rfl,rfl,rfl,rfl,rfl⟩,hn,h0,hin,hX⟩,hk⟩:=h
  refine .eq (fa_round2 pan _ _ k i n L sz c z s T Sh M Q X) ?_
  refine bd (fun hlt=>?_) (fun hlt=>?_)
  ·have hi:i.int.toNat < L.list.length:=by omega
   have hwi:IntKind.wrap .i64 (i.int + 1)=i.int + 1:=i64_in (by omega) (by have:L.list.length≤maxLen:=ho1.2.2.1.1;unfold maxLen at this;omega)
   have hc:(i.int + 1).toNat=i.int.toNat + 1:=by omega
   have hcn:flCnts sz.int Q.list i.int (U.at L.list i.int.toNat :: L.list.drop (i.int.toNat + 1))=flCnt sz.int Q.list i.int (U.at L.list i.int.toNat) ++ flCnts sz.int Q.list (i.int + 1) (L.list.drop (i.int.toNat + 1)):=rfl
   rw [drop_cons_at hi,hcn] at hk
   rw [hwi,hc]
   have hxe:nth (.i 0) L.list i.int.toNat=U.at L.list i.int.toNat:=rfl
   have hqe:nth (.i 0) Q.list i.int.toNat=U.at Q.list i.int.toNat:=rfl
   have hie:∀ k:Int,U.l [U.i k,i,U.i 0]=U.l [U.i k,.i i.int,U.i 0]:=fun k=>by rw [← hii]
   rw [hxe,hqe,hie 2,hie 3]
   generalize hx:U.at L.list i.int.toNat=x at hk
   have hr:X.length + 1≤room:=by unfold room;omega
   refine dt ⟨h0,by omega⟩ ?_
   refine bd (fun hs=>?_) (fun hs=>?_)
   ·refine bd (fun hq=>dt ⟨h0,hq⟩ ?_) (fun hq=>?_)
    ·refine bd (fun ha=>broom hr rfl ?_) (fun ha=>bd (fun hb=>broom hr rfl ?_) (fun hb=>?_))
     ·exact blt (by simp only [U.int_i];omega) ⟨⟨⟨by trivial,by trivial,by trivial,by trivial,by trivial,by trivial,by trivial,by trivial⟩,hn,by omega,by omega,by rw [List.length_append,List.length_singleton];omega⟩,by have hY:=(by unfold flCnt;rw [decide_eq_true hs,decide_eq_true hq,cond_true,cond_true,decide_eq_true ha];rfl:flCnt sz.int Q.list i.int x=[.l [.i 2,.i i.int,.i 0]]);rw [hY] at hk;rw [List.append_assoc];exact hk⟩
     ·exact blt (by simp only [U.int_i];omega) ⟨⟨⟨by trivial,by trivial,by trivial,by trivial,by trivial,by trivial,by trivial,by trivial⟩,hn,by omega,by omega,by rw [List.length_append,List.length_singleton];omega⟩,by have hY:=(by unfold flCnt;rw [decide_eq_true hs,decide_eq_true hq,cond_true,cond_true,decide_eq_false ha,decide_eq_true hb];rfl:flCnt sz.int Q.list i.int x=[.l [.i 3,.i i.int,.i 0]]);rw [hY] at hk;rw [List.append_assoc];exact hk⟩
     ·exact blt (by simp only [U.int_i];omega) ⟨⟨⟨by trivial,by trivial,by trivial,by trivial,by trivial,by trivial,by trivial,by trivial⟩,hn,by omega,by omega,by omega⟩,by have hY:=(by unfold flCnt;rw [decide_eq_true hs,decide_eq_true hq,cond_true,cond_true,decide_eq_false ha,decide_eq_false hb];rfl:flCnt sz.int Q.list i.int x=[]);rw [hY] at hk;rw [List.nil_append] at hk;exact hk⟩
    ·exact blt (by simp only [U.int_i];omega) ⟨⟨⟨by trivial,by trivial,by trivial,by trivial,by trivial,by trivial,by trivial,by trivial⟩,hn,by omega,by omega,by omega⟩,by have hY:=(by unfold flCnt;rw [decide_eq_true hs,decide_eq_false hq,cond_true,cond_false];rfl:flCnt sz.int Q.list i.int x=[]);rw [hY] at hk;rw [List.nil_append] at hk;exact hk⟩
   ·refine bd (fun hq=>dt ⟨h0,hq⟩ ?_) (fun hq=>?_)
    ·refine bd (fun ha=>broom hr rfl ?_) (fun ha=>bd (fun hb=>broom hr rfl ?_) (fun hb=>?_))
     ·exact blt (by simp only [U.int_i];omega) ⟨⟨⟨by trivial,by trivial,by trivial,by trivial,by trivial,by trivial,by trivial,by trivial⟩,hn,by omega,by omega,by rw [List.length_append,List.length_singleton];omega⟩,by have hY:=(by unfold flCnt;rw [decide_eq_false hs,decide_eq_true hq,cond_true,cond_false,decide_eq_true ha];rfl:flCnt sz.int Q.list i.int x=[.l [.i 2,.i i.int,.i 0]]);rw [hY] at hk;rw [List.append_assoc];exact hk⟩
     ·exact blt (by simp only [U.int_i];omega) ⟨⟨⟨by trivial,by trivial,by trivial,by trivial,by trivial,by trivial,by trivial,by trivial⟩,hn,by omega,by omega,by rw [List.length_append,List.length_singleton];omega⟩,by have hY:=(by unfold flCnt;rw [decide_eq_false hs,decide_eq_true hq,cond_true,cond_false,decide_eq_false ha,decide_eq_true hb];rfl:flCnt sz.int Q.list i.int x=[.l [.i 3,.i i.int,.i 0]]);rw [hY] at hk;rw [List.append_assoc];exact hk⟩
     ·exact blt (by simp only [U.int_i];omega) ⟨⟨⟨by trivial,by trivial,by trivial,by trivial,by trivial,by trivial,by trivial,by trivial⟩,hn,by omega,by omega,by omega⟩,by have hY:=(by unfold flCnt;rw [decide_eq_false hs,decide_eq_true hq,cond_true,cond_false,decide_eq_false ha,decide_eq_false hb];rfl:flCnt sz.int Q.list i.int x=[]);rw [hY] at hk;rw [List.nil_append] at hk;exact hk⟩
    ·refine bd (fun ha=>broom hr rfl ?_) (fun ha=>bd (fun hb=>broom hr rfl ?_) (fun hb=>?_))
     ·exact blt (by simp only [U.int_i];omega) ⟨⟨⟨by trivial,by trivial,by trivial,by trivial,by trivial,by trivial,by trivial,by trivial⟩,hn,by omega,by omega,by rw [List.length_append,List.length_singleton];omega⟩,by have hY:=(by unfold flCnt;rw [decide_eq_false hs,decide_eq_false hq,cond_false,cond_false,decide_eq_true ha];rfl:flCnt sz.int Q.list i.int x=[.l [.i 2,.i i.int,.i 0]]);rw [hY] at hk;rw [List.append_assoc];exact hk⟩
     ·exact blt (by simp only [U.int_i];omega) ⟨⟨⟨by trivial,by trivial,by trivial,by trivial,by trivial,by trivial,by trivial,by trivial⟩,hn,by omega,by omega,by rw [List.length_append,List.length_singleton];omega⟩,by have hY:=(by unfold flCnt;rw [decide_eq_false hs,decide_eq_false hq,cond_false,cond_false,decide_eq_false ha,decide_eq_true hb];rfl:flCnt sz.int Q.list i.int x=[.l [.i 3,.i i.int,.i 0]]);rw [hY] at hk;rw [List.append_assoc];exact hk⟩
     ·exact blt (by simp only [U.int_i];omega) ⟨⟨⟨by trivial,by trivial,by trivial,by trivial,by trivial,by trivial,by trivial,by trivial⟩,hn,by omega,by omega,by omega⟩,by have hY:=(by unfold flCnt;rw [decide_eq_false hs,decide_eq_false hq,cond_false,cond_false,decide_eq_false ha,decide_eq_false hb];rfl:flCnt sz.int Q.list i.int x=[]);rw [hY] at hk;rw [List.nil_append] at hk;exact hk⟩
  ·have hd:L.list.drop i.int.toNat=[]:=List.drop_eq_nil_of_le (by omega)
   have h1:flCnts sz.int Q.list i.int []=[]:=rfl
   rw [hd,h1,List.append_nil] at hk
   exact hk
 ·exact h.elim
def nU (F Q:U):Int:=bif decide (szU F < (Q.list.length:Int)) then (Q.list.length:Int) else szU F
def okM (c z s T Sh M Q F:U):List U:=linesOf (.i (-1)) (woU c z s T Sh M Q F).1 ++ shotLines 0 (woU c z s T Sh M Q F).2
def faV (c z s T Sh M Q F:U):List U:=(bdU c z s T Sh M Q F).map flBad ++ flCnts (szU F) Q.list 0 (ofV (okM c z s T Sh M Q F) (nU F Q).toNat)
def faS:List (List U)→List (List U):=fun us=>match us with
 | [[c,z,s,T,Sh,M,Q],[F]]=>[[.l (bif metaR c z s T Sh M Q then faV c z s T Sh M Q F else [])]]
 | _=>[]
def mgP (T Sh:U):Prop:=T.list.length≤1099511627776∧∀ x,x ∈ Sh.list→(shT x).list.length≤1099511627776
def faP:List (List U)→Prop:=fun us=>mgP (nth (.i 0) (nth [] us 0) 3) (nth (.i 0) (nth [] us 0) 4)
theorem whU_len (F:U):(whU F).length≤1048576:=by unfold whU;rw [List.length_take];omega
theorem szU_in (F:U):0≤szU F∧szU F≤65536:=by
 have h:=whU_len F
 have e:szU F=((whU F).length:Int) / 16:=by
  unfold szU
  rw [Int.tdiv_eq_ediv_of_nonneg (by omega)]
  exact i64_in (by omega) (by omega)
 omega
theorem nU_in {F Q:U} (h:Q.list.length≤65536):0≤nU F Q∧nU F Q≤65536:=by
 have:=szU_in F
 unfold nU
 by_cases h1:szU F < (Q.list.length:Int)
 ·rw [decide_eq_true h1,cond_true];omega
 ·rw [decide_eq_false h1,cond_false];omega
theorem ofV_len (L:List U) (n:Nat):(ofV L n).length=n:=by unfold ofV;rw [List.length_map,List.length_range]
theorem fa_ok:SpecFP PR 15 faP faS:=fun fn us hfn hpre=>by
 have hf:PR.funcs[(15:Nat)]? = some Try.f15:=by kernel_rfl
 rw [hf] at hfn;cases hfn
 refine fn_okH (C:=faC) (mkC_ok eqs0_ok mixed_ok (.cons meta_ok (.cons whole_ok (.consP bad_ok (.consP of_ok .nil)))) (.cons wo_ok .nil)) hf (by kernel_rfl) (loops_two (by kernel_rfl) fa_loop0 fa_loop2) fun hok=>?_
 have hp:Try.f15.params.toList=[41,25]:=by kernel_rfl
 rw [hp] at hok
 obtain ⟨u,u2,rfl,h1,h2⟩:=shape2 (by kernel_rfl:Cs PR 41=some (true,[.int .i64,.int .i64,.str,.sl false [.sl true EC],.sl true SC,.sl true BC,.sl false [.int .i64]])) (by kernel_rfl:Cs PR 25=some (false,[.sl false [.int .u8]])) hok.1
 obtain ⟨c,z,s,T,Sh,M,Q,rfl⟩:∃ a b c d e f g,u=[a,b,c,d,e,f,g]:=match u,h1 with | [a,b,c,d,e,f,g],_=>⟨a,b,c,d,e,f,g,rfl⟩
 obtain ⟨F,rfl⟩:=len1 h2
 clear hok h1 h2
 have hpre:mgP T Sh:=hpre
 refine .eq (fa_tree _ c z s T Sh M Q F) ?_
 rw [show faS [[c,z,s,T,Sh,M,Q],[F]]=[[.l (bif metaR c z s T Sh M Q then faV c z s T Sh M Q F else [])]] from rfl]
 refine bi (fun hr=>by rw [nt hr];rfl) (fun hr=>?_)
 rw [nf hr,cond_true]
 obtain ⟨hG,hQ,_⟩:=GM.of_right (nf hr) hpre.1 hpre.2
 obtain ⟨b1,b2⟩:=GM.bad (F:=whU F) (c:=c.int) hG
 have hbe:bdU c z s T Sh M Q F=(badL (whU F) c.int (linesOf (.i (-1)) T.list ++ shotLines 0 Sh.list)).1:=rfl
 rw [← hbe] at b1 b2
 have i0:inFit (U.i 0).int:=⟨by decide,by decide⟩
 obtain ⟨hW,hWl⟩:=GM.wo (a:=.i 1) (e:=.i 0) (g:=.i 0) i0 i0 hG b2
 have hwe:woU c z s T Sh M Q F=woOf (.i 1) (.i 0) (.i 0) (.i 0) (.i 0) T.list Sh.list (bdU c z s T Sh M Q F):=rfl
 rw [← hwe] at hW hWl
 obtain ⟨n0,n1⟩:=nU_in (F:=F) hQ
 have hne:(bif decide (szU F < (Q.list.length:Int)) then (Q.list.length:Int) else szU F)=nU F Q:=rfl
 have hlm:linesM [[c,z,s,.l (woU c z s T Sh M Q F).1,.l (woU c z s T Sh M Q F).2,M,Q],[.i (nU F Q)]]=okM c z s T Sh M Q F:=rfl
 rw [hne,hlm,decide_eq_false (by omega:¬ nU F Q < 0),decide_eq_false (by omega:¬ 65536 < nU F Q)]
 simp only [cond_false,ofV_len,Int.toNat_zero,List.drop_zero,List.nil_append,List.length_map]
 refine ⟨⟨hG.each.1,?_⟩,⟨⟨by trivial,by trivial,by trivial,by trivial,by trivial,by trivial,by trivial,by trivial,by trivial⟩,by trivial,by omega,by omega,by omega⟩,⟨⟨by trivial,by trivial,by trivial,by trivial⟩,by omega,hG.ok b2⟩,⟨hW.each.1,hW.fit⟩,⟨⟨by trivial,by trivial,by trivial,by trivial,by trivial,by trivial,by trivial,by trivial⟩,by trivial,by omega,by omega,by omega⟩,rfl⟩
 have:=hG.each.2
 show (linesOf (.i (-1)) T.list ++ shotLines 0 Sh.list).length≤536870912
 omega
end Go.Mat

namespace Go.Mat
open Go Go.Den Go.Proofs
theorem ofT_tree (R:RT) (c z s T S M Q n:U):(runD ofC Try.f40 [.agg [vi c,vi z,vs s,.val TRC T,vt SC S,vt BC M,vl (.int .i64) Q],vi n] [] R)=(bif decide (n.int < 0) then R (Out.ret [.own 2097152]) [(2097152,.arr 3 [])] else bif decide (n.int > 65536) then R (Out.ret [.own 2097152]) [(2097152,.arr 3 [])] else bif decide ((0:Int)≤n.int∧n.int≤n.int∧n.int≤(↑room:Int)) then (2558=nat_lit 2558∧nat_lit 3=nat_lit 3∧EC=EC∧[Ct.str,.int .i64,Ct.sl false [Ct.sl true EC]]=[.str,.int .i64,Ct.sl false [.sl true EC]]∧[Ct.str,Ct.bool,Ct.sl true [.int .i64,.int .i64]]=[.str,Ct.bool,Ct.sl true [.int .i64,.int .i64]]∧nat_lit 256=nat_lit 256∧nat_lit 0=nat_lit 0∧(0:Int)≤0∧(bif decide ((2:Int) < n.int) then (2:Int) else n.int)≤(↑(List.length (List.replicate (Int.toNat n.int) (U.i 0))):Int)∧List.length (List.replicate (Int.toNat n.int) (U.i 0))≤(65536:Nat)∧nrmR (List.replicate (Int.toNat n.int) (U.i 0))∧bndR 1000 (List.drop (Int.toNat 0) (List.replicate (Int.toNat n.int) (U.i 0)))=true)∧eachP [[c,z,s,T,S,M,Q]]∧(2558=nat_lit 2558∧nat_lit 3=nat_lit 3∧LNC=LNC∧(↑(List.length (linesOf (U.i (-1:Int)) T.list ++ shotLines 0 S.list)):Int)=(↑(List.length (linesOf (U.i (-1:Int)) T.list ++ shotLines 0 S.list)):Int)∧(0:Int)≤0∧(0:Int)≤(↑(List.length (linesOf (U.i (-1:Int)) T.list ++ shotLines 0 S.list)):Int)∧List.length (linesOf (U.i (-1:Int)) T.list ++ shotLines 0 S.list)≤(1073741824:Nat)∧n.int=(↑(List.length (addR (inI 0 (bif decide ((2:Int) < n.int) then (2:Int) else n.int)) (0:Nat) (List.replicate (Int.toNat n.int) (U.i 0)))):Int)∧List.length (addR (inI 0 (bif decide ((2:Int) < n.int) then (2:Int) else n.int)) (0:Nat) (List.replicate (Int.toNat n.int) (U.i 0)))≤(65536:Nat)∧nrmR (addR (inI 0 (bif decide ((2:Int) < n.int) then (2:Int) else n.int)) (0:Nat) (List.replicate (Int.toNat n.int) (U.i 0)))∧fitL (List.drop (Int.toNat 0) (linesOf (U.i (-1:Int)) T.list ++ shotLines 0 S.list))=true∧bndR ((1:Int) + 0) (addR (inI 0 (bif decide ((2:Int) < n.int) then (2:Int) else n.int)) (0:Nat) (List.replicate (Int.toNat n.int) (U.i 0)))=true)∧R (Out.ret [.own 2097152]) [(2097152,.arr 3 (addR (coverR (List.drop (Int.toNat 0) (linesOf (U.i (-1:Int)) T.list ++ shotLines 0 S.list))) (0:Nat) (addR (inI 0 (bif decide ((2:Int) < n.int) then (2:Int) else n.int)) (0:Nat) (List.replicate (Int.toNat n.int) (U.i 0)))))] else False):=by kernel_rfl
noncomputable def ofF:Tr:=fun args objs k=>match args,objs with
 | [.agg [.val (.int .i64) c,.val (.int .i64) z,.val .str s,.val (.sl false [.sl true x1]) T,.val (.sl true x3) S,.val (.sl true x2) M,.val (.sl false [.int .i64]) Q],.val (.int .i64) n],[]=>
  ((x1=EC∧x3=SC∧x2=BC)∧(0≤n.int∧n.int≤65536)∧ofP [[c,z,s,T,S,M,Q],[n]])∧
  k (.ret [.own 2097152]) [(2097152,.arr 3 (ofV (linesM [[c,z,s,T,S,M,Q],[n]]) n.int.toNat))]
 | _,_=>False
end Go.Mat

namespace Go.Mat
open Go Go.Den Go.Proofs
set_option maxRecDepth 100000
theorem of_val (L:List U) (m:Nat):addR (coverR L) 0 (addR (inI 0 (bif decide ((2:Int) < (m:Int)) then (2:Int) else (m:Int))) 0 (List.replicate m (.i 0)))=ofV L m:=by
 rw [addR_add,addR_rep]
 unfold ofV
 rw [List.range_eq_range']
 refine List.map_congr_left fun k hk=>?_
 have hk:k < m:=by
  have:=List.mem_range'_1.1 hk
  omega
 congr 2
 unfold inI
 rw [decide_eq_true (by omega:(0:Int)≤(k:Int))]
 by_cases h2:(2:Int) < m
 ·rw [decide_eq_true h2]
  simp only [cond_true,Bool.true_and]
  by_cases h:k < 2
  ·rw [if_pos h,decide_eq_true (by omega:(k:Int) < 2)];rfl
  ·rw [if_neg h,decide_eq_false (by omega:¬ (k:Int) < 2)];rfl
 ·rw [decide_eq_false h2]
  simp only [cond_false,Bool.true_and]
  rw [if_pos (by omega),decide_eq_true (by omega:(k:Int) < (m:Int))];rfl
theorem ofT_ok:SpecT PR 40 ofF:=fun fn hfn=>by
 have hf:PR.funcs[(40:Nat)]? = some Try.f40:=by kernel_rfl
 rw [hf] at hfn;cases hfn
 refine fnT_okH (C:=ofC) (mkC_ok eqs0_ok mixed_ok (.consP each_ok .nil) .nil) hf (by kernel_rfl) (loops_three (by kernel_rfl) of_loop0 of_loop2 of_loop4) fun vs objs R h1 h2 h=>?_
 clear h1 h2
 unfold ofF at h
 split at h
 ·rename_i c sz bk x1 T x3 S x2 M Q n
  obtain ⟨⟨⟨rfl,rfl,rfl⟩,⟨hn0,hn1⟩,hpre⟩,hk⟩:=h
  obtain ⟨hE,hfit⟩:=hpre
  obtain ⟨e1,e2,e3⟩:T.list.length≤65536∧S.list.length≤1000∧shotsFit S.list=true:=hE
  have hfit:fitL (linesOf (.i (-1)) T.list ++ shotLines 0 S.list)=true:=hfit
  have hlen:(linesOf (.i (-1)) T.list ++ shotLines 0 S.list).length≤1073741824:=by
   have h1:=linesOf_len (.i (-1)) T.list
   have h2:=shotLines_len 0 S.list e3
   rw [List.length_append]
   omega
  refine .eq (ofT_tree _ c sz bk T S M Q n) ?_
  have hle:linesM [[c,sz,bk,T,S,M,Q],[n]]=linesOf (.i (-1)) T.list ++ shotLines 0 S.list:=rfl
  rw [hle] at hk
  generalize linesOf (.i (-1)) T.list ++ shotLines 0 S.list=L at hfit hlen hk
  refine bd (fun h1=>absurd h1 (by omega)) (fun h1=>bd (fun h2=>absurd h2 (by omega)) (fun h2=>?_))
  obtain ⟨m,hm⟩:∃ m:Nat,n.int=(m:Int):=⟨n.int.toNat,by omega⟩
  rw [hm,Int.toNat_natCast] at hk
  simp only [Int.toNat_zero,List.drop_zero,hm,Int.toNat_natCast,List.length_replicate,addR_len]
  refine dt ⟨by omega,by omega,by unfold room;omega⟩ ⟨⟨by trivial,by trivial,by trivial,by trivial,by trivial,by trivial,by trivial,by omega,?_,by omega,?_,?_⟩,⟨e1,e2,e3⟩,⟨by trivial,by trivial,by trivial,by trivial,by omega,by omega,hlen,by trivial,by omega,nrm_add _ _,hfit,?_⟩,?_⟩
  ·by_cases h:(2:Int) < m
   ·rw [decide_eq_true h];simp only [cond_true];omega
   ·rw [decide_eq_false h];simp only [cond_false];omega
  ·unfold nrmR
   rw [addR_rep,List.map_const',List.length_range']
  ·refine List.all_eq_true.2 fun x hx=>?_
   rw [(List.mem_replicate.1 hx).2]
   rfl
  ·rw [Int.add_zero,show (1:Int)=0 + 1 from rfl]
   refine bnd_add 0 _ (List.all_eq_true.2 fun x hx=>?_) fun j=>inI_01 _ _ j
   rw [(List.mem_replicate.1 hx).2]
   rfl
  ·rw [of_val];exact hk
 ·exact h.elim
end Go.Mat

namespace Go.Mat
open Go Go.Den Go.Proofs
def mpSet (x:U):U:=.l (patchU x.list 2 [.l (nth (.i 0) x.list.tail.tail 0).list])
def mpL (x:U):List U:=(nth (.i 0) x.list.tail.tail 0).list
noncomputable def mdLoop0:LoopF:=fun _ svs os k=>match svs,os with
 | [.val (.int .i64) i,.val (.int .i64) n,.ptr p q,.val (.sl false [.int .u8]) F,.ptr p4 q4],[.box [.val (.int .i64) c,.val (.int .i64) z,.val .str s,.val (.sl false [.sl true x1]) T,.own o,.val (.sl true x2) M,.val (.sl false [.int .i64]) Q],.arr t X,
   .box [.val (.int .i64) r1,.val (.int .i64) r2,.val .str r3,.own o1,.own o2,.own o3,.own o4],.arr t4 [],.arr t3 [],.arr t2 [],.arr t1 []]=>
  ((p=256∧q=0∧p4=512∧q4=0∧x1=EC∧o=2448∧x2=BC∧t=73)∧(o1=520∧o2=522∧o3=524∧o4=526∧t4=3∧t3=77∧t2=73∧t1=64)∧
    n.int=(X.length:Int)∧0≤i.int∧i.int≤n.int∧X.length≤1073741824∧∀ x,x ∈ X.drop i.int.toNat→tabP (shT x).list)∧
  k (.exit 0) ⟨[(2,.ptr 256 0),(1,.val (.sl false [.int .u8]) F),(4,.ptr 512 0)],[(256,.box [vi c,vi z,vs s,.val TRC T,.own 2448,vt BC M,vl (.int .i64) Q]),(2448,.arr 73 (X.take i.int.toNat ++ (X.drop i.int.toNat).map fun x=>shSet x (shT x).list)),
   (512,.box [vi r1,vi r2,vs r3,.own 520,.own 522,.own 524,.own 526]),(526,.arr 3 []),(524,.arr 77 []),(522,.arr 73 []),(520,.arr 64 [])]⟩
 | _,_=>False
noncomputable def mdLoop2:LoopF:=fun _ svs os k=>match svs,os with
 | [.val (.int .i64) i,.val (.int .i64) n,.ptr p q,.val (.sl false [.int .u8]) F,.ptr p4 q4],[.box [.val (.int .i64) c,.val (.int .i64) z,.val .str s,.val (.sl false [.sl true x1]) T,.own o,.own o5,.val (.sl false [.int .i64]) Q],.arr t X,.arr t5 Y,
   .box [.val (.int .i64) r1,.val (.int .i64) r2,.val .str r3,.own o1,.own o2,.own o3,.own o4],.arr t4 [],.arr t3 [],.arr t2 [],.arr t1 []]=>
  ((p=256∧q=0∧p4=512∧q4=0∧x1=EC∧o=2448∧o5=5264∧t=73∧t5=77)∧(o1=520∧o2=522∧o3=524∧o4=526∧t4=3∧t3=77∧t2=73∧t1=64)∧
    n.int=(Y.length:Int)∧0≤i.int∧i.int≤n.int∧Y.length≤1073741824∧∀ x,x ∈ Y.drop i.int.toNat→(mpL x).length≤1073741824)∧
  k (.exit 2) ⟨[(2,.ptr 256 0),(1,.val (.sl false [.int .u8]) F),(4,.ptr 512 0)],[(256,.box [vi c,vi z,vs s,.val TRC T,.own 2448,.own 5264,vl (.int .i64) Q]),(2448,.arr 73 X),(5264,.arr 77 (Y.take i.int.toNat ++ (Y.drop i.int.toNat).map mpSet)),
   (512,.box [vi r1,vi r2,vs r3,.own 520,.own 522,.own 524,.own 526]),(526,.arr 3 []),(524,.arr 77 []),(522,.arr 73 []),(520,.arr 64 [])]⟩
 | _,_=>False
noncomputable def mdC:Ctx:=mkC PR eqs0 (fnsCons 37 metaS (fnsCons 38 wholeS (fnsConsP 39 badP badS (fnsConsP 42 cutP copyS fnsNil))))
 (trsCons 41 [] woF (trsCons 43 [] (cloneF BC 77) (trsCons 44 [] (frzT PR [2097152] (cloneF [.int .i64,.int .i64] 81)) (trsCons 40 [] ofF trsNil))))
 (loopCons 0 [23,22,2,1,4] [256,2448,512,526,524,522,520] mdLoop0 (loopCons 2 [46,45,2,1,4] [256,2448,5264,512,526,524,522,520] mdLoop2 noLoops)) (outCons 0 [2,1,4] [256,2448,512,526,524,522,520] (outCons 2 [2,1,4] [256,2448,5264,512,526,524,522,520] noOut)) noOut
theorem md_round0 (pan:KP) (μ:Mu) (N:Nat) (k:KE) (i n F c z s T M Q r1 r2 r3:U) (X:List U):(exec (mdC.panics pan) (loopBody Try.f16 0) 0 ⟨[(23,vi i),(22,vi n),(2,.ptr 256 0),(1,.val (.sl false [.int .u8]) F),(4,.ptr 512 0)],[(256,.box [vi c,vi z,vs s,.val TRC T,.own 2448,vt BC M,vl (.int .i64) Q]),(2448,.arr 73 X),(512,.box [vi r1,vi r2,vs r3,.own 520,.own 522,.own 524,.own 526]),(526,.arr 3 []),(524,.arr 77 []),(522,.arr 73 []),(520,.arr 64 [])]⟩ (again PR (some ([2,1,4],[256,2448,512,526,524,522,520])) none pan [23,22,2,1,4] [256,2448,512,526,524,522,520] mdLoop0 μ N k))=(bif decide (i.int < n.int) then Alt (bif decide ((0:Int)≤i.int∧i.int < (X.length:Int)) then bif Nat.blt (Int.toNat i.int) (List.length X) then cutP [[nth (U.i 0) (List.tail (List.tail (U.list (nth (U.i 0) X (Int.toNat i.int))))) (0:Nat)],[U.i 4096]]∧bif decide ((0:Int)≤i.int∧i.int < (X.length:Int)) then bif Nat.blt (Int.toNat i.int) (List.length X) then bif Nat.blt (μ [vi (U.i (IntKind.wrap .i64 (i.int + 1))),vi n,.ptr 256 0,.val (.sl false [.int .u8]) F,.ptr 512 0] [.box [vi c,vi z,.val .str s,.val (.sl false [.sl true EC]) T,.own 2448,.val (.sl true [.str,Ct.bool,Ct.sl true PPC]) M,.val (.sl false [.int .i64]) Q],.arr 73 (List.set X (Int.toNat i.int) (U.l (patchU (U.list (nth (U.i 0) X (Int.toNat i.int))) 2 [U.l (U.list (nth (U.i 0) (List.tail (List.tail (U.list (nth (U.i 0) X (Int.toNat i.int))))) (0:Nat)))]))),.box [vi r1,vi r2,.val .str r3,.own 520,.own 522,.own 524,.own 526],.arr 3 [],.arr 77 [],.arr 73 [],.arr 64 []]) N then ((256=nat_lit 256∧nat_lit 0=nat_lit 0∧nat_lit 512=nat_lit 512∧nat_lit 0=nat_lit 0∧EC=EC∧nat_lit 2448=nat_lit 2448∧[Ct.str,Ct.bool,Ct.sl true PPC]=[.str,Ct.bool,Ct.sl true PPC]∧nat_lit 73=nat_lit 73)∧(520=nat_lit 520∧nat_lit 522=nat_lit 522∧nat_lit 524=nat_lit 524∧nat_lit 526=nat_lit 526∧nat_lit 3=nat_lit 3∧nat_lit 77=nat_lit 77∧nat_lit 73=nat_lit 73∧nat_lit 64=nat_lit 64)∧n.int=(↑(List.length (List.set X (Int.toNat i.int) (U.l (patchU (U.list (nth (U.i 0) X (Int.toNat i.int))) 2 [U.l (U.list (nth (U.i 0) (List.tail (List.tail (U.list (nth (U.i 0) X (Int.toNat i.int))))) (0:Nat)))])))):Int)∧(0:Int)≤IntKind.wrap .i64 (i.int + 1)∧IntKind.wrap .i64 (i.int + 1)≤n.int∧List.length (List.set X (Int.toNat i.int) (U.l (patchU (U.list (nth (U.i 0) X (Int.toNat i.int))) 2 [U.l (U.list (nth (U.i 0) (List.tail (List.tail (U.list (nth (U.i 0) X (Int.toNat i.int))))) (0:Nat)))])))≤(1073741824:Nat)∧∀ (x:U),x ∈ List.drop (Int.toNat (IntKind.wrap .i64 (i.int + 1))) (List.set X (Int.toNat i.int) (U.l (patchU (U.list (nth (U.i 0) X (Int.toNat i.int))) 2 [U.l (U.list (nth (U.i 0) (List.tail (List.tail (U.list (nth (U.i 0) X (Int.toNat i.int))))) (0:Nat)))])))→tabP (U.list (shT x)))∧k (Ex.exit 0) (St.mk [(2,.ptr 256 0),(1,.val (.sl false [.int .u8]) F),(4,.ptr 512 0)] [(256,.box [vi c,vi z,.val .str s,.val (.sl false [.sl true EC]) T,.own 2448,.val (.sl true [.str,Ct.bool,Ct.sl true PPC]) M,.val (.sl false [.int .i64]) Q]),(2448,.arr 73 (List.take (Int.toNat (IntKind.wrap .i64 (i.int + 1))) (List.set X (Int.toNat i.int) (U.l (patchU (U.list (nth (U.i 0) X (Int.toNat i.int))) 2 [U.l (U.list (nth (U.i 0) (List.tail (List.tail (U.list (nth (U.i 0) X (Int.toNat i.int))))) (0:Nat)))]))) ++ List.map (fun x=>shSet x (U.list (shT x))) (List.drop (Int.toNat (IntKind.wrap .i64 (i.int + 1))) (List.set X (Int.toNat i.int) (U.l (patchU (U.list (nth (U.i 0) X (Int.toNat i.int))) 2 [U.l (U.list (nth (U.i 0) (List.tail (List.tail (U.list (nth (U.i 0) X (Int.toNat i.int))))) (0:Nat)))])))))),(512,.box [vi r1,vi r2,.val .str r3,.own 520,.own 522,.own 524,.own 526]),(526,.arr 3 []),(524,.arr 77 []),(522,.arr 73 []),(520,.arr 64 [])]) else False else False else False else False else False) (bif decide ((0:Int)≤i.int∧i.int < (X.length:Int)) then Alt (bif Nat.blt (Int.toNat i.int) (List.length X) then cutP [[nth (U.i 0) (List.tail (List.tail (U.list (nth (U.i 0) X (Int.toNat i.int))))) (0:Nat)],[U.i 4096]]∧bif decide ((0:Int)≤i.int∧i.int < (X.length:Int)) then bif Nat.blt (Int.toNat i.int) (List.length X) then bif Nat.blt (μ [vi (U.i (IntKind.wrap .i64 (i.int + 1))),vi n,.ptr 256 0,.val (.sl false [.int .u8]) F,.ptr 512 0] [.box [vi c,vi z,.val .str s,.val (.sl false [.sl true EC]) T,.own 2448,.val (.sl true [.str,Ct.bool,Ct.sl true PPC]) M,.val (.sl false [.int .i64]) Q],.arr 73 (List.set X (Int.toNat i.int) (U.l (patchU (U.list (nth (U.i 0) X (Int.toNat i.int))) 2 [U.l (U.list (nth (U.i 0) (List.tail (List.tail (U.list (nth (U.i 0) X (Int.toNat i.int))))) (0:Nat)))]))),.box [vi r1,vi r2,.val .str r3,.own 520,.own 522,.own 524,.own 526],.arr 3 [],.arr 77 [],.arr 73 [],.arr 64 []]) N then ((256=nat_lit 256∧nat_lit 0=nat_lit 0∧nat_lit 512=nat_lit 512∧nat_lit 0=nat_lit 0∧EC=EC∧nat_lit 2448=nat_lit 2448∧[Ct.str,Ct.bool,Ct.sl true PPC]=[.str,Ct.bool,Ct.sl true PPC]∧nat_lit 73=nat_lit 73)∧(520=nat_lit 520∧nat_lit 522=nat_lit 522∧nat_lit 524=nat_lit 524∧nat_lit 526=nat_lit 526∧nat_lit 3=nat_lit 3∧nat_lit 77=nat_lit 77∧nat_lit 73=nat_lit 73∧nat_lit 64=nat_lit 64)∧n.int=(↑(List.length (List.set X (Int.toNat i.int) (U.l (patchU (U.list (nth (U.i 0) X (Int.toNat i.int))) 2 [U.l (U.list (nth (U.i 0) (List.tail (List.tail (U.list (nth (U.i 0) X (Int.toNat i.int))))) (0:Nat)))])))):Int)∧(0:Int)≤IntKind.wrap .i64 (i.int + 1)∧IntKind.wrap .i64 (i.int + 1)≤n.int∧List.length (List.set X (Int.toNat i.int) (U.l (patchU (U.list (nth (U.i 0) X (Int.toNat i.int))) 2 [U.l (U.list (nth (U.i 0) (List.tail (List.tail (U.list (nth (U.i 0) X (Int.toNat i.int))))) (0:Nat)))])))≤(1073741824:Nat)∧∀ (x:U),x ∈ List.drop (Int.toNat (IntKind.wrap .i64 (i.int + 1))) (List.set X (Int.toNat i.int) (U.l (patchU (U.list (nth (U.i 0) X (Int.toNat i.int))) 2 [U.l (U.list (nth (U.i 0) (List.tail (List.tail (U.list (nth (U.i 0) X (Int.toNat i.int))))) (0:Nat)))])))→tabP (U.list (shT x)))∧k (Ex.exit 0) (St.mk [(2,.ptr 256 0),(1,.val (.sl false [.int .u8]) F),(4,.ptr 512 0)] [(256,.box [vi c,vi z,.val .str s,.val (.sl false [.sl true EC]) T,.own 2448,.val (.sl true [.str,Ct.bool,Ct.sl true PPC]) M,.val (.sl false [.int .i64]) Q]),(2448,.arr 73 (List.take (Int.toNat (IntKind.wrap .i64 (i.int + 1))) (List.set X (Int.toNat i.int) (U.l (patchU (U.list (nth (U.i 0) X (Int.toNat i.int))) 2 [U.l (U.list (nth (U.i 0) (List.tail (List.tail (U.list (nth (U.i 0) X (Int.toNat i.int))))) (0:Nat)))]))) ++ List.map (fun x=>shSet x (U.list (shT x))) (List.drop (Int.toNat (IntKind.wrap .i64 (i.int + 1))) (List.set X (Int.toNat i.int) (U.l (patchU (U.list (nth (U.i 0) X (Int.toNat i.int))) 2 [U.l (U.list (nth (U.i 0) (List.tail (List.tail (U.list (nth (U.i 0) X (Int.toNat i.int))))) (0:Nat)))])))))),(512,.box [vi r1,vi r2,.val .str r3,.own 520,.own 522,.own 524,.own 526]),(526,.arr 3 []),(524,.arr 77 []),(522,.arr 73 []),(520,.arr 64 [])]) else False else False else False else False) (bif Nat.blt (Int.toNat i.int) (List.length X) then (fun T=>Alt T T) (cutP [[nth (U.i 0) (List.tail (List.tail (U.list (nth (U.i 0) X (Int.toNat i.int))))) (0:Nat)],[U.i 4096]]∧bif decide ((0:Int)≤i.int∧i.int < (X.length:Int)) then bif Nat.blt (Int.toNat i.int) (List.length X) then bif Nat.blt (μ [vi (U.i (IntKind.wrap .i64 (i.int + 1))),vi n,.ptr 256 0,.val (.sl false [.int .u8]) F,.ptr 512 0] [.box [vi c,vi z,.val .str s,.val (.sl false [.sl true EC]) T,.own 2448,.val (.sl true [.str,Ct.bool,Ct.sl true PPC]) M,.val (.sl false [.int .i64]) Q],.arr 73 (List.set X (Int.toNat i.int) (U.l (patchU (U.list (nth (U.i 0) X (Int.toNat i.int))) 2 [U.l (U.list (nth (U.i 0) (List.tail (List.tail (U.list (nth (U.i 0) X (Int.toNat i.int))))) (0:Nat)))]))),.box [vi r1,vi r2,.val .str r3,.own 520,.own 522,.own 524,.own 526],.arr 3 [],.arr 77 [],.arr 73 [],.arr 64 []]) N then ((256=nat_lit 256∧nat_lit 0=nat_lit 0∧nat_lit 512=nat_lit 512∧nat_lit 0=nat_lit 0∧EC=EC∧nat_lit 2448=nat_lit 2448∧[Ct.str,Ct.bool,Ct.sl true PPC]=[.str,Ct.bool,Ct.sl true PPC]∧nat_lit 73=nat_lit 73)∧(520=nat_lit 520∧nat_lit 522=nat_lit 522∧nat_lit 524=nat_lit 524∧nat_lit 526=nat_lit 526∧nat_lit 3=nat_lit 3∧nat_lit 77=nat_lit 77∧nat_lit 73=nat_lit 73∧nat_lit 64=nat_lit 64)∧n.int=(↑(List.length (List.set X (Int.toNat i.int) (U.l (patchU (U.list (nth (U.i 0) X (Int.toNat i.int))) 2 [U.l (U.list (nth (U.i 0) (List.tail (List.tail (U.list (nth (U.i 0) X (Int.toNat i.int))))) (0:Nat)))])))):Int)∧(0:Int)≤IntKind.wrap .i64 (i.int + 1)∧IntKind.wrap .i64 (i.int + 1)≤n.int∧List.length (List.set X (Int.toNat i.int) (U.l (patchU (U.list (nth (U.i 0) X (Int.toNat i.int))) 2 [U.l (U.list (nth (U.i 0) (List.tail (List.tail (U.list (nth (U.i 0) X (Int.toNat i.int))))) (0:Nat)))])))≤(1073741824:Nat)∧∀ (x:U),x ∈ List.drop (Int.toNat (IntKind.wrap .i64 (i.int + 1))) (List.set X (Int.toNat i.int) (U.l (patchU (U.list (nth (U.i 0) X (Int.toNat i.int))) 2 [U.l (U.list (nth (U.i 0) (List.tail (List.tail (U.list (nth (U.i 0) X (Int.toNat i.int))))) (0:Nat)))])))→tabP (U.list (shT x)))∧k (Ex.exit 0) (St.mk [(2,.ptr 256 0),(1,.val (.sl false [.int .u8]) F),(4,.ptr 512 0)] [(256,.box [vi c,vi z,.val .str s,.val (.sl false [.sl true EC]) T,.own 2448,.val (.sl true [.str,Ct.bool,Ct.sl true PPC]) M,.val (.sl false [.int .i64]) Q]),(2448,.arr 73 (List.take (Int.toNat (IntKind.wrap .i64 (i.int + 1))) (List.set X (Int.toNat i.int) (U.l (patchU (U.list (nth (U.i 0) X (Int.toNat i.int))) 2 [U.l (U.list (nth (U.i 0) (List.tail (List.tail (U.list (nth (U.i 0) X (Int.toNat i.int))))) (0:Nat)))]))) ++ List.map (fun x=>shSet x (U.list (shT x))) (List.drop (Int.toNat (IntKind.wrap .i64 (i.int + 1))) (List.set X (Int.toNat i.int) (U.l (patchU (U.list (nth (U.i 0) X (Int.toNat i.int))) 2 [U.l (U.list (nth (U.i 0) (List.tail (List.tail (U.list (nth (U.i 0) X (Int.toNat i.int))))) (0:Nat)))])))))),(512,.box [vi r1,vi r2,.val .str r3,.own 520,.own 522,.own 524,.own 526]),(526,.arr 3 []),(524,.arr 77 []),(522,.arr 73 []),(520,.arr 64 [])]) else False else False else False) else False) else False) else k (Ex.exit 0) (St.mk [(2,.ptr 256 0),(1,.val (.sl false [.int .u8]) F),(4,.ptr 512 0)] [(256,.box [vi c,vi z,.val .str s,.val (.sl false [.sl true EC]) T,.own 2448,.val (.sl true [.str,Ct.bool,Ct.sl true PPC]) M,.val (.sl false [.int .i64]) Q]),(2448,.arr 73 X),(512,.box [vi r1,vi r2,.val .str r3,.own 520,.own 522,.own 524,.own 526]),(526,.arr 3 []),(524,.arr 77 []),(522,.arr 73 []),(520,.arr 64 [])])):=by kernel_rfl
theorem md_round2 (pan:KP) (μ:Mu) (N:Nat) (k:KE) (i n F c z s T Q r1 r2 r3:U) (X Y:List U):(exec (mdC.panics pan) (loopBody Try.f16 1) 2 ⟨[(46,vi i),(45,vi n),(2,.ptr 256 0),(1,.val (.sl false [.int .u8]) F),(4,.ptr 512 0)],[(256,.box [vi c,vi z,vs s,.val TRC T,.own 2448,.own 5264,vl (.int .i64) Q]),(2448,.arr 73 X),(5264,.arr 77 Y),(512,.box [vi r1,vi r2,vs r3,.own 520,.own 522,.own 524,.own 526]),(526,.arr 3 []),(524,.arr 77 []),(522,.arr 73 []),(520,.arr 64 [])]⟩ (again PR (some ([2,1,4],[256,2448,5264,512,526,524,522,520])) none pan [46,45,2,1,4] [256,2448,5264,512,526,524,522,520] mdLoop2 μ N k))=(bif decide (i.int < n.int) then Alt (bif decide ((0:Int)≤i.int∧i.int < (Y.length:Int)) then bif Nat.blt (Int.toNat i.int) (List.length Y) then (PPC=PPC∧List.length (U.list (nth (U.i 0) (List.tail (List.tail (U.list (nth (U.i 0) Y (Int.toNat i.int))))) (0:Nat)))≤(1073741824:Nat))∧bif decide ((0:Int)≤i.int∧i.int < (Y.length:Int)) then bif Nat.blt (Int.toNat i.int) (List.length Y) then bif Nat.blt (μ [vi (U.i (IntKind.wrap .i64 (i.int + 1))),vi n,.ptr 256 0,.val (.sl false [.int .u8]) F,.ptr 512 0] [.box [vi c,vi z,.val .str s,.val (.sl false [.sl true EC]) T,.own 2448,.own 5264,.val (.sl false [.int .i64]) Q],.arr 73 X,.arr 77 (List.set Y (Int.toNat i.int) (U.l (patchU (U.list (nth (U.i 0) Y (Int.toNat i.int))) 2 [U.l (U.list (nth (U.i 0) (List.tail (List.tail (U.list (nth (U.i 0) Y (Int.toNat i.int))))) (0:Nat)))]))),.box [vi r1,vi r2,.val .str r3,.own 520,.own 522,.own 524,.own 526],.arr 3 [],.arr 77 [],.arr 73 [],.arr 64 []]) N then ((256=nat_lit 256∧nat_lit 0=nat_lit 0∧nat_lit 512=nat_lit 512∧nat_lit 0=nat_lit 0∧EC=EC∧nat_lit 2448=nat_lit 2448∧nat_lit 5264=nat_lit 5264∧nat_lit 73=nat_lit 73∧nat_lit 77=nat_lit 77)∧(520=nat_lit 520∧nat_lit 522=nat_lit 522∧nat_lit 524=nat_lit 524∧nat_lit 526=nat_lit 526∧nat_lit 3=nat_lit 3∧nat_lit 77=nat_lit 77∧nat_lit 73=nat_lit 73∧nat_lit 64=nat_lit 64)∧n.int=(↑(List.length (List.set Y (Int.toNat i.int) (U.l (patchU (U.list (nth (U.i 0) Y (Int.toNat i.int))) 2 [U.l (U.list (nth (U.i 0) (List.tail (List.tail (U.list (nth (U.i 0) Y (Int.toNat i.int))))) (0:Nat)))])))):Int)∧(0:Int)≤IntKind.wrap .i64 (i.int + 1)∧IntKind.wrap .i64 (i.int + 1)≤n.int∧List.length (List.set Y (Int.toNat i.int) (U.l (patchU (U.list (nth (U.i 0) Y (Int.toNat i.int))) 2 [U.l (U.list (nth (U.i 0) (List.tail (List.tail (U.list (nth (U.i 0) Y (Int.toNat i.int))))) (0:Nat)))])))≤(1073741824:Nat)∧∀ (x:U),x ∈ List.drop (Int.toNat (IntKind.wrap .i64 (i.int + 1))) (List.set Y (Int.toNat i.int) (U.l (patchU (U.list (nth (U.i 0) Y (Int.toNat i.int))) 2 [U.l (U.list (nth (U.i 0) (List.tail (List.tail (U.list (nth (U.i 0) Y (Int.toNat i.int))))) (0:Nat)))])))→List.length (mpL x)≤(1073741824:Nat))∧k (Ex.exit 2) (St.mk [(2,.ptr 256 0),(1,.val (.sl false [.int .u8]) F),(4,.ptr 512 0)] [(256,.box [vi c,vi z,.val .str s,.val (.sl false [.sl true EC]) T,.own 2448,.own 5264,.val (.sl false [.int .i64]) Q]),(2448,.arr 73 X),(5264,.arr 77 (List.take (Int.toNat (IntKind.wrap .i64 (i.int + 1))) (List.set Y (Int.toNat i.int) (U.l (patchU (U.list (nth (U.i 0) Y (Int.toNat i.int))) 2 [U.l (U.list (nth (U.i 0) (List.tail (List.tail (U.list (nth (U.i 0) Y (Int.toNat i.int))))) (0:Nat)))]))) ++ List.map mpSet (List.drop (Int.toNat (IntKind.wrap .i64 (i.int + 1))) (List.set Y (Int.toNat i.int) (U.l (patchU (U.list (nth (U.i 0) Y (Int.toNat i.int))) 2 [U.l (U.list (nth (U.i 0) (List.tail (List.tail (U.list (nth (U.i 0) Y (Int.toNat i.int))))) (0:Nat)))])))))),(512,.box [vi r1,vi r2,.val .str r3,.own 520,.own 522,.own 524,.own 526]),(526,.arr 3 []),(524,.arr 77 []),(522,.arr 73 []),(520,.arr 64 [])]) else False else False else False else False else False) (bif decide ((0:Int)≤i.int∧i.int < (Y.length:Int)) then Alt (bif Nat.blt (Int.toNat i.int) (List.length Y) then (PPC=PPC∧List.length (U.list (nth (U.i 0) (List.tail (List.tail (U.list (nth (U.i 0) Y (Int.toNat i.int))))) (0:Nat)))≤(1073741824:Nat))∧bif decide ((0:Int)≤i.int∧i.int < (Y.length:Int)) then bif Nat.blt (Int.toNat i.int) (List.length Y) then bif Nat.blt (μ [vi (U.i (IntKind.wrap .i64 (i.int + 1))),vi n,.ptr 256 0,.val (.sl false [.int .u8]) F,.ptr 512 0] [.box [vi c,vi z,.val .str s,.val (.sl false [.sl true EC]) T,.own 2448,.own 5264,.val (.sl false [.int .i64]) Q],.arr 73 X,.arr 77 (List.set Y (Int.toNat i.int) (U.l (patchU (U.list (nth (U.i 0) Y (Int.toNat i.int))) 2 [U.l (U.list (nth (U.i 0) (List.tail (List.tail (U.list (nth (U.i 0) Y (Int.toNat i.int))))) (0:Nat)))]))),.box [vi r1,vi r2,.val .str r3,.own 520,.own 522,.own 524,.own 526],.arr 3 [],.arr 77 [],.arr 73 [],.arr 64 []]) N then ((256=nat_lit 256∧nat_lit 0=nat_lit 0∧nat_lit 512=nat_lit 512∧nat_lit 0=nat_lit 0∧EC=EC∧nat_lit 2448=nat_lit 2448∧nat_lit 5264=nat_lit 5264∧nat_lit 73=nat_lit 73∧nat_lit 77=nat_lit 77)∧(520=nat_lit 520∧nat_lit 522=nat_lit 522∧nat_lit 524=nat_lit 524∧nat_lit 526=nat_lit 526∧nat_lit 3=nat_lit 3∧nat_lit 77=nat_lit 77∧nat_lit 73=nat_lit 73∧nat_lit 64=nat_lit 64)∧n.int=(↑(List.length (List.set Y (Int.toNat i.int) (U.l (patchU (U.list (nth (U.i 0) Y (Int.toNat i.int))) 2 [U.l (U.list (nth (U.i 0) (List.tail (List.tail (U.list (nth (U.i 0) Y (Int.toNat i.int))))) (0:Nat)))])))):Int)∧(0:Int)≤IntKind.wrap .i64 (i.int + 1)∧IntKind.wrap .i64 (i.int + 1)≤n.int∧List.length (List.set Y (Int.toNat i.int) (U.l (patchU (U.list (nth (U.i 0) Y (Int.toNat i.int))) 2 [U.l (U.list (nth (U.i 0) (List.tail (List.tail (U.list (nth (U.i 0) Y (Int.toNat i.int))))) (0:Nat)))])))≤(1073741824:Nat)∧∀ (x:U),x ∈ List.drop (Int.toNat (IntKind.wrap .i64 (i.int + 1))) (List.set Y (Int.toNat i.int) (U.l (patchU (U.list (nth (U.i 0) Y (Int.toNat i.int))) 2 [U.l (U.list (nth (U.i 0) (List.tail (List.tail (U.list (nth (U.i 0) Y (Int.toNat i.int))))) (0:Nat)))])))→List.length (mpL x)≤(1073741824:Nat))∧k (Ex.exit 2) (St.mk [(2,.ptr 256 0),(1,.val (.sl false [.int .u8]) F),(4,.ptr 512 0)] [(256,.box [vi c,vi z,.val .str s,.val (.sl false [.sl true EC]) T,.own 2448,.own 5264,.val (.sl false [.int .i64]) Q]),(2448,.arr 73 X),(5264,.arr 77 (List.take (Int.toNat (IntKind.wrap .i64 (i.int + 1))) (List.set Y (Int.toNat i.int) (U.l (patchU (U.list (nth (U.i 0) Y (Int.toNat i.int))) 2 [U.l (U.list (nth (U.i 0) (List.tail (List.tail (U.list (nth (U.i 0) Y (Int.toNat i.int))))) (0:Nat)))]))) ++ List.map mpSet (List.drop (Int.toNat (IntKind.wrap .i64 (i.int + 1))) (List.set Y (Int.toNat i.int) (U.l (patchU (U.list (nth (U.i 0) Y (Int.toNat i.int))) 2 [U.l (U.list (nth (U.i 0) (List.tail (List.tail (U.list (nth (U.i 0) Y (Int.toNat i.int))))) (0:Nat)))])))))),(512,.box [vi r1,vi r2,.val .str r3,.own 520,.own 522,.own 524,.own 526]),(526,.arr 3 []),(524,.arr 77 []),(522,.arr 73 []),(520,.arr 64 [])]) else False else False else False else False) (bif Nat.blt (Int.toNat i.int) (List.length Y) then (fun T=>Alt T T) ((PPC=PPC∧List.length (U.list (nth (U.i 0) (List.tail (List.tail (U.list (nth (U.i 0) Y (Int.toNat i.int))))) (0:Nat)))≤(1073741824:Nat))∧bif decide ((0:Int)≤i.int∧i.int < (Y.length:Int)) then bif Nat.blt (Int.toNat i.int) (List.length Y) then bif Nat.blt (μ [vi (U.i (IntKind.wrap .i64 (i.int + 1))),vi n,.ptr 256 0,.val (.sl false [.int .u8]) F,.ptr 512 0] [.box [vi c,vi z,.val .str s,.val (.sl false [.sl true EC]) T,.own 2448,.own 5264,.val (.sl false [.int .i64]) Q],.arr 73 X,.arr 77 (List.set Y (Int.toNat i.int) (U.l (patchU (U.list (nth (U.i 0) Y (Int.toNat i.int))) 2 [U.l (U.list (nth (U.i 0) (List.tail (List.tail (U.list (nth (U.i 0) Y (Int.toNat i.int))))) (0:Nat)))]))),.box [vi r1,vi r2,.val .str r3,.own 520,.own 522,.own 524,.own 526],.arr 3 [],.arr 77 [],.arr 73 [],.arr 64 []]) N then ((256=nat_lit 256∧nat_lit 0=nat_lit 0∧nat_lit 512=nat_lit 512∧nat_lit 0=nat_lit 0∧EC=EC∧nat_lit 2448=nat_lit 2448∧nat_lit 5264=nat_lit 5264∧nat_lit 73=nat_lit 73∧nat_lit 77=nat_lit 77)∧(520=nat_lit 520∧nat_lit 522=nat_lit 522∧nat_lit 524=nat_lit 524∧nat_lit 526=nat_lit 526∧nat_lit 3=nat_lit 3∧nat_lit 77=nat_lit 77∧nat_lit 73=nat_lit 73∧nat_lit 64=nat_lit 64)∧n.int=(↑(List.length (List.set Y (Int.toNat i.int) (U.l (patchU (U.list (nth (U.i 0) Y (Int.toNat i.int))) 2 [U.l (U.list (nth (U.i 0) (List.tail (List.tail (U.list (nth (U.i 0) Y (Int.toNat i.int))))) (0:Nat)))])))):Int)∧(0:Int)≤IntKind.wrap .i64 (i.int + 1)∧IntKind.wrap .i64 (i.int + 1)≤n.int∧List.length (List.set Y (Int.toNat i.int) (U.l (patchU (U.list (nth (U.i 0) Y (Int.toNat i.int))) 2 [U.l (U.list (nth (U.i 0) (List.tail (List.tail (U.list (nth (U.i 0) Y (Int.toNat i.int))))) (0:Nat)))])))≤(1073741824:Nat)∧∀ (x:U),x ∈ List.drop (Int.toNat (IntKind.wrap .i64 (i.int + 1))) (List.set Y (Int.toNat i.int) (U.l (patchU (U.list (nth (U.i 0) Y (Int.toNat i.int))) 2 [U.l (U.list (nth (U.i 0) (List.tail (List.tail (U.list (nth (U.i 0) Y (Int.toNat i.int))))) (0:Nat)))])))→List.length (mpL x)≤(1073741824:Nat))∧k (Ex.exit 2) (St.mk [(2,.ptr 256 0),(1,.val (.sl false [.int .u8]) F),(4,.ptr 512 0)] [(256,.box [vi c,vi z,.val .str s,.val (.sl false [.sl true EC]) T,.own 2448,.own 5264,.val (.sl false [.int .i64]) Q]),(2448,.arr 73 X),(5264,.arr 77 (List.take (Int.toNat (IntKind.wrap .i64 (i.int + 1))) (List.set Y (Int.toNat i.int) (U.l (patchU (U.list (nth (U.i 0) Y (Int.toNat i.int))) 2 [U.l (U.list (nth (U.i 0) (List.tail (List.tail (U.list (nth (U.i 0) Y (Int.toNat i.int))))) (0:Nat)))]))) ++ List.map mpSet (List.drop (Int.toNat (IntKind.wrap .i64 (i.int + 1))) (List.set Y (Int.toNat i.int) (U.l (patchU (U.list (nth (U.i 0) Y (Int.toNat i.int))) 2 [U.l (U.list (nth (U.i 0) (List.tail (List.tail (U.list (nth (U.i 0) Y (Int.toNat i.int))))) (0:Nat)))])))))),(512,.box [vi r1,vi r2,.val .str r3,.own 520,.own 522,.own 524,.own 526]),(526,.arr 3 []),(524,.arr 77 []),(522,.arr 73 []),(520,.arr 64 [])]) else False else False else False) else False) else False) else k (Ex.exit 2) (St.mk [(2,.ptr 256 0),(1,.val (.sl false [.int .u8]) F),(4,.ptr 512 0)] [(256,.box [vi c,vi z,.val .str s,.val (.sl false [.sl true EC]) T,.own 2448,.own 5264,.val (.sl false [.int .i64]) Q]),(2448,.arr 73 X),(5264,.arr 77 Y),(512,.box [vi r1,vi r2,.val .str r3,.own 520,.own 522,.own 524,.own 526]),(526,.arr 3 []),(524,.arr 77 []),(522,.arr 73 []),(520,.arr 64 [])])):=by kernel_rfl
theorem md_tree (R:RF) (c z s T Sh M Q F:U):(run mdC Try.f16 [[c,z,s,T,Sh,M,Q],[F]] R)=(bif !metaR c z s T Sh M Q then R [[U.i 0,U.i 0,U.s ⟨#[]⟩,U.l [],U.l [],U.l [],U.l []],[U.i 1]] else (fun T=>Alt T (Alt T T)) (badP [[c,z,s,T,Sh,M,Q],[U.l (whU F)]]∧((EC=EC∧[Ct.str,.int .i64,Ct.sl false [Ct.sl true EC]]=[.str,.int .i64,Ct.sl false [.sl true EC]]∧[Ct.str,Ct.bool,Ct.sl true PPC]=[.str,Ct.bool,Ct.sl true PPC]∧PPC=PPC)∧List.length (bdU c z s T Sh M Q F)≤(1073741824:Nat)∧woOk T.list Sh.list (bdU c z s T Sh M Q F))∧((256=nat_lit 256∧nat_lit 0=nat_lit 0∧nat_lit 512=nat_lit 512∧nat_lit 0=nat_lit 0∧EC=EC∧nat_lit 2448=nat_lit 2448∧[Ct.str,Ct.bool,Ct.sl true PPC]=[.str,Ct.bool,Ct.sl true PPC]∧nat_lit 73=nat_lit 73)∧(520=nat_lit 520∧nat_lit 522=nat_lit 522∧nat_lit 524=nat_lit 524∧nat_lit 526=nat_lit 526∧nat_lit 3=nat_lit 3∧nat_lit 77=nat_lit 77∧nat_lit 73=nat_lit 73∧nat_lit 64=nat_lit 64)∧(↑(List.length (Prod.snd (woU c z s T Sh M Q F))):Int)=(↑(List.length (Prod.snd (woU c z s T Sh M Q F))):Int)∧(0:Int)≤0∧(0:Int)≤(↑(List.length (Prod.snd (woU c z s T Sh M Q F))):Int)∧List.length (Prod.snd (woU c z s T Sh M Q F))≤(1073741824:Nat)∧∀ (x:U),x ∈ List.drop (Int.toNat 0) (Prod.snd (woU c z s T Sh M Q F))→tabP (U.list (shT x)))∧([Ct.str,Ct.bool,Ct.sl true PPC]=[.str,Ct.bool,Ct.sl true PPC]∧M.list.length≤(1073741824:Nat))∧((256=nat_lit 256∧nat_lit 0=nat_lit 0∧nat_lit 512=nat_lit 512∧nat_lit 0=nat_lit 0∧EC=EC∧nat_lit 2448=nat_lit 2448∧nat_lit 5264=nat_lit 5264∧nat_lit 73=nat_lit 73∧nat_lit 77=nat_lit 77)∧(520=nat_lit 520∧nat_lit 522=nat_lit 522∧nat_lit 524=nat_lit 524∧nat_lit 526=nat_lit 526∧nat_lit 3=nat_lit 3∧nat_lit 77=nat_lit 77∧nat_lit 73=nat_lit 73∧nat_lit 64=nat_lit 64)∧(M.list.length:Int)=(M.list.length:Int)∧(0:Int)≤0∧(0:Int)≤(M.list.length:Int)∧M.list.length≤(1073741824:Nat)∧∀ (x:U),x ∈ List.drop (Int.toNat 0) M.list→List.length (mpL x)≤(1073741824:Nat))∧((EC=EC∧[Ct.str,.int .i64,Ct.sl false [Ct.sl true EC]]=[.str,.int .i64,Ct.sl false [.sl true EC]]∧[Ct.str,Ct.bool,Ct.sl true PPC]=[.str,Ct.bool,Ct.sl true PPC])∧((0:Int)≤szU F∧szU F≤65536)∧ofP [[c,z,s,U.l (Prod.fst (woU c z s T Sh M Q F)),U.l (List.take (Int.toNat 0) (Prod.snd (woU c z s T Sh M Q F)) ++ List.map (fun x=>shSet x (U.list (shT x))) (List.drop (Int.toNat 0) (Prod.snd (woU c z s T Sh M Q F)))),U.l (List.take (Int.toNat 0) M.list ++ List.map mpSet (List.drop (Int.toNat 0) M.list)),Q],[U.i (szU F)]])∧R [[c,z,s,U.l (Prod.fst (woU c z s T Sh M Q F)),U.l (List.take (Int.toNat 0) (Prod.snd (woU c z s T Sh M Q F)) ++ List.map (fun x=>shSet x (U.list (shT x))) (List.drop (Int.toNat 0) (Prod.snd (woU c z s T Sh M Q F)))),U.l (List.take (Int.toNat 0) M.list ++ List.map mpSet (List.drop (Int.toNat 0) M.list)),U.l (ofV (linesM [[c,z,s,U.l (Prod.fst (woU c z s T Sh M Q F)),U.l (List.take (Int.toNat 0) (Prod.snd (woU c z s T Sh M Q F)) ++ List.map (fun x=>shSet x (U.list (shT x))) (List.drop (Int.toNat 0) (Prod.snd (woU c z s T Sh M Q F)))),U.l (List.take (Int.toNat 0) M.list ++ List.map mpSet (List.drop (Int.toNat 0) M.list)),Q],[U.i (szU F)]]) (Int.toNat (szU F)))],[U.i 0]])):=by kernel_rfl
end Go.Mat

namespace Go.Mat
open Go Go.Den Go.Proofs
set_option maxRecDepth 100000
abbrev cutSh (x:U):U:=shSet x (shT x).list
theorem map_step {f:U→U} {X:List U} {i:Nat} (hi:i < X.length):(X.set i (f (U.at X i))).take (i + 1) ++ ((X.set i (f (U.at X i))).drop (i + 1)).map f=X.take i ++ (X.drop i).map f:=by
 rw [drop_cons_at hi,List.map_cons]
 have h1:(X.set i (f (U.at X i))).drop (i + 1)=X.drop (i + 1):=by rw [List.drop_set_of_lt (by omega)]
 have h2:(X.set i (f (U.at X i))).take (i + 1)=X.take i ++ [f (U.at X i)]:=by
  rw [List.take_succ_eq_append_getElem (by rw [List.length_set];exact hi),List.getElem_set_self,List.take_set_of_le (by omega)]
 rw [h1,h2,List.append_assoc]
 rfl
theorem drop_set_in {X:List U} {i:Nat} {y x:U} (h:x ∈ (X.set i y).drop (i + 1)):x ∈ X.drop i:=by
 rw [List.drop_set_of_lt (by omega)] at h
 exact List.drop_subset_drop_left X (by omega:i≤i + 1) h
theorem md_loop0:LoopOk mdC 0 (loopBody Try.f16 0):=by
 refine loopOk_of (F:=mdLoop0) (ts:=[23,22,2,1,4]) (os:=[256,2448,512,526,524,522,520]) rfl (fun svs _=>match svs with | .val _ i :: .val _ n :: _=>(n.int - i.int).toNat | _=>0) ?_
 intro pan svs os k ho1 ho2 h
 unfold mdLoop0 at h
 split at h
 ·rename_i i n p q F p4 q4 c z s x1 T o x2 M Q t X r1 r2 r3 o1 o2 o3 o4 t4 t3 t2 t1
  obtain ⟨⟨⟨rfl,rfl,rfl,rfl,rfl,rfl,rfl,rfl⟩,⟨rfl,rfl,rfl,rfl,rfl,rfl,rfl,rfl⟩,hn,h0,hin,hX,hT⟩,hk⟩:=h
  refine .eq (md_round0 pan _ _ k i n F c z s T M Q r1 r2 r3 X) ?_
  refine bd (fun hlt=>?_) (fun hlt=>?_)
  ·have hi:i.int.toNat < X.length:=by omega
   have hwi:IntKind.wrap .i64 (i.int + 1)=i.int + 1:=i64_in (by omega) (by omega)
   have hc:(i.int + 1).toNat=i.int.toNat + 1:=by omega
   have e1:decide ((0:Int)≤i.int∧i.int < (X.length:Int))=true:=decide_eq_true ⟨h0,by omega⟩
   have e2:Nat.blt i.int.toNat X.length=true:=by simpa [Nat.blt_eq] using hi
   have hm:U.at X i.int.toNat ∈ X.drop i.int.toNat:=by rw [drop_cons_at hi];exact List.mem_cons_self ..
   have hs:=map_step (f:=cutSh) hi
   have hfe:U.l (patchU (U.list (nth (U.i 0) X (Int.toNat i.int))) 2 [U.l (U.list (nth (U.i 0) (List.tail (List.tail (U.list (nth (U.i 0) X (Int.toNat i.int))))) (0:Nat)))])=cutSh (U.at X i.int.toNat):=rfl
   simp only [e1,e2,cond_true,Alt_self]
   rw [hwi,hc,hfe,hs]
   refine ⟨⟨hT _ hm,rfl⟩,blt (by simp only [U.int_i];omega) ⟨⟨⟨by trivial,by trivial,by trivial,by trivial,by trivial,by trivial,by trivial,by trivial⟩,⟨by trivial,by trivial,by trivial,by trivial,by trivial,by trivial,by trivial,by trivial⟩,by rw [List.length_set];exact hn,by omega,by omega,by rw [List.length_set];exact hX,fun x hx=>hT x (drop_set_in hx)⟩,hk⟩⟩
  ·have hd:X.drop i.int.toNat=[]:=List.drop_eq_nil_of_le (by omega)
   have ht:X.take i.int.toNat=X:=List.take_of_length_le (by omega)
   rw [hd,ht,List.map_nil,List.append_nil] at hk
   exact hk
 ·exact h.elim
theorem md_loop2:LoopOk mdC 2 (loopBody Try.f16 1):=by
 refine loopOk_of (F:=mdLoop2) (ts:=[46,45,2,1,4]) (os:=[256,2448,5264,512,526,524,522,520]) rfl (fun svs _=>match svs with | .val _ i :: .val _ n :: _=>(n.int - i.int).toNat | _=>0) ?_
 intro pan svs os k ho1 ho2 h
 unfold mdLoop2 at h
 split at h
 ·rename_i i n p q F p4 q4 c z s x1 T o o5 Q t X t5 Y r1 r2 r3 o1 o2 o3 o4 t4 t3 t2 t1
  obtain ⟨⟨⟨rfl,rfl,rfl,rfl,rfl,rfl,rfl,rfl,rfl⟩,⟨rfl,rfl,rfl,rfl,rfl,rfl,rfl,rfl⟩,hn,h0,hin,hX,hT⟩,hk⟩:=h
  refine .eq (md_round2 pan _ _ k i n F c z s T Q r1 r2 r3 X Y) ?_
  refine bd (fun hlt=>?_) (fun hlt=>?_)
  ·have hi:i.int.toNat < Y.length:=by omega
   have hwi:IntKind.wrap .i64 (i.int + 1)=i.int + 1:=i64_in (by omega) (by omega)
   have hc:(i.int + 1).toNat=i.int.toNat + 1:=by omega
   have e1:decide ((0:Int)≤i.int∧i.int < (Y.length:Int))=true:=decide_eq_true ⟨h0,by omega⟩
   have e2:Nat.blt i.int.toNat Y.length=true:=by simpa [Nat.blt_eq] using hi
   have hm:U.at Y i.int.toNat ∈ Y.drop i.int.toNat:=by rw [drop_cons_at hi];exact List.mem_cons_self ..
   have hs:=map_step (f:=mpSet) hi
   have hfe:U.l (patchU (U.list (nth (U.i 0) Y (Int.toNat i.int))) 2 [U.l (U.list (nth (U.i 0) (List.tail (List.tail (U.list (nth (U.i 0) Y (Int.toNat i.int))))) (0:Nat)))])=mpSet (U.at Y i.int.toNat):=rfl
   simp only [e1,e2,cond_true,Alt_self]
   rw [hwi,hc,hfe,hs]
   refine ⟨⟨by trivial,hT _ hm⟩,blt (by simp only [U.int_i];omega) ⟨⟨⟨by trivial,by trivial,by trivial,by trivial,by trivial,by trivial,by trivial,by trivial,by trivial⟩,⟨by trivial,by trivial,by trivial,by trivial,by trivial,by trivial,by trivial,by trivial⟩,by rw [List.length_set];exact hn,by omega,by omega,by rw [List.length_set];exact hX,fun x hx=>hT x (drop_set_in hx)⟩,hk⟩⟩
  ·have hd:Y.drop i.int.toNat=[]:=List.drop_eq_nil_of_le (by omega)
   have ht:Y.take i.int.toNat=Y:=List.take_of_length_le (by omega)
   rw [hd,ht,List.map_nil,List.append_nil] at hk
   exact hk
 ·exact h.elim
theorem shotLines_cut:∀ (i:Int) (X:List U),shotLines i (X.map cutSh)=shotLines i X
 | _,[]=>rfl
 | i,x :: r=>by
  rw [List.map_cons,shotLines,shotLines,shotLines_cut (i + 1) r]
  have e:shT x=nth (.i 0) x.list 2:=by show nth _ x.list.tail.tail 0=_;rw [nth_tail,nth_tail]
  have e':shT (cutSh x)=nth (.i 0) (cutSh x).list 2:=by show nth _ (cutSh x).list.tail.tail 0=_;rw [nth_tail,nth_tail]
  rw [← e,← e',shT_shSet]
  rfl
def mdS:List (List U)→List (List U):=fun us=>match us with
 | [[c,z,s,T,Sh,M,Q],[F]]=>[[bif metaR c z s T Sh M Q then c else .i 0,bif metaR c z s T Sh M Q then z else .i 0,bif metaR c z s T Sh M Q then s else .s (ByteArray.mk #[]),.l (bif metaR c z s T Sh M Q then (woU c z s T Sh M Q F).1 else []),
   .l (bif metaR c z s T Sh M Q then (woU c z s T Sh M Q F).2.map cutSh else []),.l (bif metaR c z s T Sh M Q then M.list.map mpSet else []),.l (bif metaR c z s T Sh M Q then ofV (okM c z s T Sh M Q F) (szU F).toNat else [])],[.i (bif metaR c z s T Sh M Q then 0 else 1)]]
 | _=>[]
def mdP:List (List U)→Prop:=fun us=>mgP (nth (.i 0) (nth [] us 0) 3) (nth (.i 0) (nth [] us 0) 4)∧∀ x,x ∈ (nth (.i 0) (nth [] us 0) 5).list→(mpL x).length≤1073741824
theorem md_conds {c z s T Sh M Q F:U} (hr:metaR c z s T Sh M Q=true) (hpre:mgP T Sh):GM T.list Sh.list∧((bdU c z s T Sh M Q F).length≤36864∧∀ p,p ∈ bdU c z s T Sh M Q F→(U.at p.list 0).int < (Sh.list.length:Int))∧
  GM (woU c z s T Sh M Q F).1 (woU c z s T Sh M Q F).2∧M.list.length≤8∧(∀ X Y,linesM [[c,z,s,.l (woU c z s T Sh M Q F).1,.l ((woU c z s T Sh M Q F).2.map fun x=>shSet x (U.list (shT x))),X,Y],[.i (szU F)]]=okM c z s T Sh M Q F)∧
  GM (woU c z s T Sh M Q F).1 ((woU c z s T Sh M Q F).2.map cutSh):=by
 obtain ⟨hG,hQ,hML⟩:=GM.of_right hr hpre.1 hpre.2
 obtain ⟨b1,b2⟩:=GM.bad (F:=whU F) (c:=c.int) hG
 have hbe:bdU c z s T Sh M Q F=(badL (whU F) c.int (linesOf (.i (-1)) T.list ++ shotLines 0 Sh.list)).1:=rfl
 rw [← hbe] at b1 b2
 have i0:inFit (U.i 0).int:=⟨by decide,by decide⟩
 obtain ⟨hW,hWl⟩:=GM.wo (a:=.i 1) (e:=.i 0) (g:=.i 0) i0 i0 hG b2
 have hwe:woU c z s T Sh M Q F=woOf (.i 1) (.i 0) (.i 0) (.i 0) (.i 0) T.list Sh.list (bdU c z s T Sh M Q F):=rfl
 rw [← hwe] at hW hWl
 have hws:=hW.s
 have hlm:∀ X Y,linesM [[c,z,s,.l (woU c z s T Sh M Q F).1,.l ((woU c z s T Sh M Q F).2.map fun x=>shSet x (U.list (shT x))),X,Y],[.i (szU F)]]=okM c z s T Sh M Q F:=fun X Y=>by
  show linesOf (.i (-1)) (woU c z s T Sh M Q F).1 ++ shotLines 0 ((woU c z s T Sh M Q F).2.map cutSh)=_
  rw [shotLines_cut];rfl
 have hWc:GM (woU c z s T Sh M Q F).1 ((woU c z s T Sh M Q F).2.map cutSh):=⟨hW.t,by rw [List.length_map];exact hW.s,fun x hx=>by
  obtain ⟨y,hy,rfl⟩:=List.mem_map.1 hx
  rw [shT_shSet];exact hW.st y hy⟩
 exact ⟨hG,⟨b1,b2⟩,hW,hML,hlm,hWc⟩
theorem md_ok:SpecFP PR 16 mdP mdS:=fun fn us hfn hpre=>by
 have hf:PR.funcs[(16:Nat)]? = some Try.f16:=by kernel_rfl
 rw [hf] at hfn;cases hfn
 refine fn_okH (C:=mdC) (mkC_ok eqs0_ok mixed_ok (.cons meta_ok (.cons whole_ok (.consP bad_ok (.consP cut_ok .nil)))) (.cons wo_ok (.cons clb_ok (.cons (clp_ok.frz [2097152]) (.cons ofT_ok .nil))))) hf (by kernel_rfl) (loops_two (by kernel_rfl) md_loop0 md_loop2) fun hok=>?_
 have hp:Try.f16.params.toList=[41,25]:=by kernel_rfl
 rw [hp] at hok
 obtain ⟨u,u2,rfl,h1,h2⟩:=shape2 (by kernel_rfl:Cs PR 41=some (true,[.int .i64,.int .i64,.str,.sl false [.sl true EC],.sl true SC,.sl true BC,.sl false [.int .i64]])) (by kernel_rfl:Cs PR 25=some (false,[.sl false [.int .u8]])) hok.1
 obtain ⟨c,z,s,T,Sh,M,Q,rfl⟩:∃ a b c d e f g,u=[a,b,c,d,e,f,g]:=match u,h1 with | [a,b,c,d,e,f,g],_=>⟨a,b,c,d,e,f,g,rfl⟩
 obtain ⟨F,rfl⟩:=len1 h2
 clear hok h1 h2
 obtain ⟨hpre,hM⟩:mgP T Sh∧∀ x,x ∈ M.list→(mpL x).length≤1073741824:=hpre
 refine .eq (md_tree _ c z s T Sh M Q F) ?_
 refine bi (fun hr=>by simp only [mdS,nt hr,cond_false]) (fun hr=>?_)
 simp only [mdS,nf hr,cond_true]
 obtain ⟨hG,⟨b1,b2⟩,hW,hML,hlm,hWc⟩:=md_conds (F:=F) (nf hr) hpre
 have hws:=hW.s
 obtain ⟨n0,n1⟩:=szU_in F
 simp only [Int.toNat_zero,List.drop_zero,List.take_zero,List.nil_append,hlm,Alt_self]
 refine ⟨⟨hG.each.1,?_⟩,⟨⟨by trivial,by trivial,by trivial,by trivial⟩,by omega,hG.ok b2⟩,⟨⟨by trivial,by trivial,by trivial,by trivial,by trivial,by trivial,by trivial,by trivial⟩,⟨by trivial,by trivial,by trivial,by trivial,by trivial,by trivial,by trivial,by trivial⟩,by trivial,by omega,by omega,by omega,fun x hx=>(hW.st x hx).tab⟩,⟨by trivial,by omega⟩,⟨⟨by trivial,by trivial,by trivial,by trivial,by trivial,by trivial,by trivial,by trivial,by trivial⟩,⟨by trivial,by trivial,by trivial,by trivial,by trivial,by trivial,by trivial,by trivial⟩,by trivial,by omega,by omega,by omega,hM⟩,⟨⟨by trivial,by trivial,by trivial⟩,⟨n0,n1⟩,hWc.each.1,?_⟩,by trivial⟩
 ·have:=hG.each.2
  show (linesOf (.i (-1)) T.list ++ shotLines 0 Sh.list).length≤536870912
  omega
 ·rw [hlm];exact hW.fit
end Go.Mat

namespace Go.Mat
open Go Go.Den Go.Proofs
noncomputable def eqsF (t:TypeId):Option (List IntKind):=bif Nat.beq t 47 then some [.i64,.i64,.i64] else eqs0 t
def tA15:List (List U)→List (List U):=fun _=>[[.b true]]
def nA15:List (List U)→List (List U):=fun us=>[[nth (.i 0) (nth [] us 0) 0]]
theorem numA_tree (R:RF) (n:U):(run K0 Try.f12 [[n]] R)=(R [[n]]):=by kernel_rfl
noncomputable def awC:Ctx:=mkC PR eqsF (fnsCons 12 nA15 (fnsCons 22 getS (fnsConsP 15 faP faS (fnsConsP 16 mdP mdS fnsNil)))) trsNil noLoops noOut noOut
theorem aw_tree (R:RF):(run awC Try.f9 [] R)=(faP [[U.i 0,U.i 1,U.s ⟨#[]⟩,U.l [U.l (List.set (List.set (List.set (List.set (List.set (List.set (List.set (List.set (List.replicate (8:Nat) (U.l [U.i 0,U.i 0,U.i 0,U.i 0,U.i 0])) (0:Nat) (U.l [U.i 2,U.i 9,U.i 1,U.i 0,U.i 0])) (1:Nat) (U.l [U.i 0,U.i 0,U.i 0,U.i 0,U.i 0])) (2:Nat) (U.l [U.i 0,U.i 0,U.i 0,U.i 0,U.i 0])) (3:Nat) (U.l [U.i 0,U.i 0,U.i 0,U.i 0,U.i 0])) (4:Nat) (U.l [U.i 0,U.i 0,U.i 0,U.i 0,U.i 0])) (5:Nat) (U.l [U.i 0,U.i 0,U.i 0,U.i 0,U.i 0])) (6:Nat) (U.l [U.i 0,U.i 0,U.i 0,U.i 0,U.i 0])) (7:Nat) (U.l [U.i 0,U.i 0,U.i 0,U.i 0,U.i 0]))],U.l [],U.l [],U.l []],[U.l (List.replicate (Int.toNat 64) (U.i 0))]]∧(fun T=>Alt (Alt (Alt T T) T) (Alt (Alt (Alt T T) T) (Alt T T))) (mdP [[U.i 0,U.i 1,U.s ⟨#[]⟩,U.l [U.l (List.set (List.set (List.set (List.set (List.set (List.set (List.set (List.set (List.replicate (8:Nat) (U.l [U.i 0,U.i 0,U.i 0,U.i 0,U.i 0])) (0:Nat) (U.l [U.i 2,U.i 9,U.i 1,U.i 0,U.i 0])) (1:Nat) (U.l [U.i 0,U.i 0,U.i 0,U.i 0,U.i 0])) (2:Nat) (U.l [U.i 0,U.i 0,U.i 0,U.i 0,U.i 0])) (3:Nat) (U.l [U.i 0,U.i 0,U.i 0,U.i 0,U.i 0])) (4:Nat) (U.l [U.i 0,U.i 0,U.i 0,U.i 0,U.i 0])) (5:Nat) (U.l [U.i 0,U.i 0,U.i 0,U.i 0,U.i 0])) (6:Nat) (U.l [U.i 0,U.i 0,U.i 0,U.i 0,U.i 0])) (7:Nat) (U.l [U.i 0,U.i 0,U.i 0,U.i 0,U.i 0]))],U.l [],U.l [],U.l []],[U.l (List.replicate (Int.toNat 64) (U.i 0))]]∧R [[U.b (U.int (entF (0:Nat) (bif metaR (U.i 0) (U.i 1) (U.s ⟨#[]⟩) (U.l [U.l (List.set (List.set (List.set (List.set (List.set (List.set (List.set (List.set (List.replicate (8:Nat) (U.l [U.i 0,U.i 0,U.i 0,U.i 0,U.i 0])) (0:Nat) (U.l [U.i 2,U.i 9,U.i 1,U.i 0,U.i 0])) (1:Nat) (U.l [U.i 0,U.i 0,U.i 0,U.i 0,U.i 0])) (2:Nat) (U.l [U.i 0,U.i 0,U.i 0,U.i 0,U.i 0])) (3:Nat) (U.l [U.i 0,U.i 0,U.i 0,U.i 0,U.i 0])) (4:Nat) (U.l [U.i 0,U.i 0,U.i 0,U.i 0,U.i 0])) (5:Nat) (U.l [U.i 0,U.i 0,U.i 0,U.i 0,U.i 0])) (6:Nat) (U.l [U.i 0,U.i 0,U.i 0,U.i 0,U.i 0])) (7:Nat) (U.l [U.i 0,U.i 0,U.i 0,U.i 0,U.i 0]))]) (U.l []) (U.l []) (U.l []) then Prod.fst (woU (U.i 0) (U.i 1) (U.s ⟨#[]⟩) (U.l [U.l (List.set (List.set (List.set (List.set (List.set (List.set (List.set (List.set (List.replicate (8:Nat) (U.l [U.i 0,U.i 0,U.i 0,U.i 0,U.i 0])) (0:Nat) (U.l [U.i 2,U.i 9,U.i 1,U.i 0,U.i 0])) (1:Nat) (U.l [U.i 0,U.i 0,U.i 0,U.i 0,U.i 0])) (2:Nat) (U.l [U.i 0,U.i 0,U.i 0,U.i 0,U.i 0])) (3:Nat) (U.l [U.i 0,U.i 0,U.i 0,U.i 0,U.i 0])) (4:Nat) (U.l [U.i 0,U.i 0,U.i 0,U.i 0,U.i 0])) (5:Nat) (U.l [U.i 0,U.i 0,U.i 0,U.i 0,U.i 0])) (6:Nat) (U.l [U.i 0,U.i 0,U.i 0,U.i 0,U.i 0])) (7:Nat) (U.l [U.i 0,U.i 0,U.i 0,U.i 0,U.i 0]))]) (U.l []) (U.l []) (U.l []) (U.l (List.replicate (Int.toNat 64) (U.i 0)))) else []) 0) == 1)]])):=by kernel_rfl
end Go.Mat

namespace Go.Mat
open Go Go.Den Go.Proofs
set_option maxRecDepth 100000
theorem eqsF_ok:∀ t ks,eqsF t=some ks→EqOk PR t ks:=by
 intro t ks h
 unfold eqsF at h
 cases hb:Nat.beq t 47 with
 | true=>
  rw [hb] at h
  have:=Nat.eq_of_beq_eq_true hb
  subst this
  injection h with h
  subst h
  exact eq_ok (by kernel_rfl)
 | false=>rw [hb] at h;exact eqs0_ok t ks h
theorem numA_ok:SpecF PR 12 nA15:=fun fn us hfn=>by
 have hf:PR.funcs[(12:Nat)]? = some Try.f12:=by kernel_rfl
 rw [hf] at hfn;cases hfn
 refine fn_okH (C:=K0) (mkC_ok eqs0_ok mixed_ok .nil .nil) hf (by kernel_rfl) (loops_none (by kernel_rfl)) fun hok=>?_
 have hp:Try.f12.params.toList=[27]:=by kernel_rfl
 rw [hp] at hok
 obtain ⟨u,rfl,h1⟩:=shape1 (by kernel_rfl:Cs PR 27=some (false,[.int .i64])) hok.1
 obtain ⟨n,rfl⟩:=len1 h1
 exact .eq (numA_tree _ n) rfl
theorem aw_ok:SpecF PR 9 tA15:=fun fn us hfn=>by
 have hf:PR.funcs[(9:Nat)]? = some Try.f9:=by kernel_rfl
 rw [hf] at hfn;cases hfn
 refine fn_okH (C:=awC) (mkC_ok eqsF_ok mixed_ok (.cons numA_ok (.cons at_ok (.consP fa_ok (.consP md_ok .nil)))) .nil) hf (by kernel_rfl) (loops_none (by kernel_rfl)) fun hok=>?_
 have hp:Try.f9.params.toList=[]:=by kernel_rfl
 rw [hp] at hok
 have hus:us=[]:=hok.1
 subst hus
 refine .eq (aw_tree _) ?_
 have hg:∀ T:U,T.list.length≤1099511627776→mgP T (.l []):=fun T hT=>⟨hT,fun x hx=>by cases hx⟩
 simp only [Alt_self]
 refine ⟨hg _ (by decide),⟨hg _ (by decide),fun x hx=>by cases hx⟩,?_⟩
 kernel_rfl
end Go.Mat

namespace Go.Den
open Go Go.RowKit
def takeC:Nat→Code→Code
 | 0,.seq a _=>.seq a .skip
 | n + 1,.seq a b=>.seq a (takeC n b)
 | _,c=>c
def dropC:Nat→Code→Code
 | 0,c=>c
 | n + 1,.seq _ b=>dropC n b
 | _,c=>c
def joinC:Code→Code→Code
 | .seq a b,r=>.seq a (joinC b r)
 | _,r=>r
def rowC:Code→Bool
 | .seq _ b=>rowC b
 | .skip=>true
 | _=>false
def seenS (ts os:List Nat) (k:Ex→St→Prop):Ex→St→Prop:=fun e σ=>k e (mask σ (some (ts,os)))
section
variable {C:Ctx} {Θ:Anc} {n:Nat}
theorem exec_join (hC:C.Ok) (hkb:Θ.kb=false) (hka:Θ.ka=false) (hN:∀ b,¬ Θ.N b) {rest:Code} {Q:Exit→Act→World→Prop} (hp:Pans C Θ n Q) (hQ:∀ c a w d v,Q (.panic c) (a.put d v) w→Q (.panic c) a w) :
  ∀ (code:Code) (c:Nat) {σ:St} {a:Act} {w:World} {Z:Nat→Prop} {G:Nat→Value} {k:Ex→St→Prop},rowC code=true→codeOk n code=true→LoopsOk C code c→Sim C.P Θ n σ a w Z G→
  exec C code c σ k→(∀ e σ' a' w' Z' G',k e σ'→Sim C.P Θ n σ' a' w' Z' G'→Exit.then (rest.wp C.P Q) Q (toExit e) a' w')→(joinC code rest).wp C.P Q a w
 | .seq x y,c,σ,a,w,Z,G,k,hr,hok,hl,S,h,hk=>by
  unfold codeOk at hok
  split at hok
  ·rename_i hx
   refine wp_seq (exec_sound hC hkb hka hN x c hx hl.1 S h ?_ hp (fun _=>hQ))
   intro e σ' a' w' Z' G' he S'
   cases e with
   | normal=>exact exec_join hC hkb hka hN hp hQ y c hr hok hl.2 S' he hk
   | ret=>exact hk .ret _ _ _ _ _ he S'
   | exit m=>exact hk (.exit m) _ _ _ _ _ he S'
  ·cases hok
 | .skip,c,σ,a,w,Z,G,k,hr,hok,hl,S,h,hk=>hk .normal σ a w Z G h S
end
theorem piece_on {C:Ctx} {Θ:Anc} {n:Nat} (hC:C.Ok) (hkb:Θ.kb=false) (hka:Θ.ka=false) (hN:∀ b,¬ Θ.N b) {B p rest:Code} {Q:Exit→Act→World→Prop} (hp:Pans C Θ n Q) (hQ:∀ c a w d v,Q (.panic c) (a.put d v) w→Q (.panic c) a w)
  (hB:B=joinC p rest) (hr:rowC p=true) (hok:codeOk n p=true) (hl:∀ q ∈ loopsOf p 0,LoopOk C q.1 q.2) {σ τ:St} {a:Act} {w:World} {Z:Nat→Prop} {G:Nat→Value} (S:Sim C.P Θ n σ a w Z G) {ts os:List Nat}
  (h:Holds (exec C p 0 σ (seenS ts os fun e σ'=>e = .normal∧σ' = τ))) (hk:∀ a w Z G,Sim C.P Θ n τ a w Z G→rest.wp C.P Q a w):B.wp C.P Q a w:=by
 rw [hB]
 refine exec_join hC hkb hka hN hp hQ p 0 hr hok (loopsOk_of hl) S h.out ?_
 rintro e σ' a' w' Z' G' ⟨rfl,hτ⟩ S'
 have S2:=mask_sim (x:=some (ts,os)) S'
 rw [hτ] at S2
 exact hk a' w' Z' G' S2
theorem piece_end {C:Ctx} {Θ:Anc} {n:Nat} (hC:C.Ok) (hkb:Θ.kb=false) (hka:Θ.ka=false) (hN:∀ b,¬ Θ.N b) {B:Code} {Q:Exit→Act→World→Prop} (hp:Pans C Θ n Q) (hQ:∀ c a w d v,Q (.panic c) (a.put d v) w→Q (.panic c) a w)
  (hok:codeOk n B=true) (hl:∀ q ∈ loopsOf B 0,LoopOk C q.1 q.2) {σ τ:St} {a:Act} {w:World} {Z:Nat→Prop} {G:Nat→Value} (S:Sim C.P Θ n σ a w Z G) {ts os:List Nat}
  (h:Holds (exec C B 0 σ (seenS ts os fun e σ'=>e = .ret∧σ' = τ))) (hk:∀ a w Z G,Sim C.P Θ n τ a w Z G→Q .ret a w):B.wp C.P Q a w:=by
 refine exec_sound hC hkb hka hN B 0 hok (loopsOk_of hl) S h.out ?_ hp (fun _=>hQ)
 rintro e σ' a' w' Z' G' ⟨rfl,hτ⟩ S'
 have S2:=mask_sim (x:=some (ts,os)) S'
 rw [hτ] at S2
 exact hk a' w' Z' G' S2
end Go.Den

namespace Go.Mat
open Go Go.Den Go.Proofs
abbrev FLC:List Ct:=[.int .i64,.int .i64,.int .i64]
def flOk (u:U):Prop:=(nth (.i 0) u.list 0).int=1→(nth (.i 0) u.list.tail 0).int=1∧(nth (.i 0) u.list.tail.tail 0).int = -1
def cnt1:List U→Int
 | []=>0
 | u :: r=>(bif (nth (.i 0) u.list 0).int == 1 then 1 else 0) + cnt1 r
def stP (x:U):Int:=IntKind.wrap IntKind.i64 ((2:Int) + Int.tmod (IntKind.wrap IntKind.i64 x.int) 30)
def lawF:List U:=secsR (Int.toNat 40) 0
abbrev mBox (c z s T Sh M Q:U):Den.Obj:=.box [vi c,vi z,vs s,.val TRC T,vt SC Sh,vt BC M,vl (.int .i64) Q]
abbrev mO (c z s T:U):Den.Obj:=.box [vi c,vi z,vs s,.val TRC T,.own 8552458,.own 8552460,.own 8552462]
abbrev eBox (a b d e g:U):Den.Obj:=.box [vi a,vi b,vi d,vi e,.val (.int .u32) g]
abbrev vf (F:U):SV:=.val (.sl false [.int .u8]) F
noncomputable def shLoop:LoopF:=fun _ svs os k=>match svs,os with
 | [.val (.int .i64) i,.val (.sl true fc) L,.val (.int .i64) a,.val (.sl false [.int .u8]) F,.ptr p q,.ptr p8 q8,.val .bool mt],[.box [.val (.int .i64) c,.val (.int .i64) z,.val .str s,.val (.sl false [.sl true x1]) T,.val (.sl true x3) Sh,.val (.sl true x2) M,.val (.sl false [.int .i64]) Q],
   .box [.val (.int .i64) e1,.val (.int .i64) e2,.val (.int .i64) e3,.val (.int .i64) e4,.val (.int .u32) e5]]=>
  ((fc=FLC∧p=1280∧q=0∧p8=1024∧q8=0∧x1=EC∧x3=SC∧x2=BC)∧a = .i a.int∧i = .i i.int∧0≤a.int∧a.int≤i.int∧i.int≤(L.list.length:Int)∧∀ u,u ∈ L.list.drop i.int.toNat→flOk u)∧
  k (.exit 0) ⟨[(13,vi (.i (a.int + cnt1 (L.list.drop i.int.toNat)))),(5,vf F),(10,.ptr 1280 0),(8,.ptr 1024 0),(11,vb mt)],[(1280,mBox c z s T Sh M Q),(1024,eBox e1 e2 e3 e4 e5)]⟩
 | _,_=>False
noncomputable def shC:Ctx:=(mkC PR eqsF (fnsCons 9 tA15 (fnsCons 12 nA15 (fnsCons 22 getS (fnsCons 19 sumS (fnsConsP 21 setP setQ
 (fnsConsP 20 fileP fileS (fnsConsP 15 faP faS (fnsConsP 16 mdP mdS fnsNil))))))))
 trsNil (loopCons 0 [14,12,13,5,10,8,11] [1280,1024] shLoop noLoops) (outCons 0 [13,5,10,8,11] [1280,1024] (outCons 1048576 [4] [] noOut)) noOut).panics fun _ _=>False
noncomputable def shB:Code:=bodyOf Try.f6
theorem sh_round (pan:KP) (μ:Mu) (N:Nat) (k:KE) (i L a F mt c z s T Sh M Q e1 e2 e3 e4 e5:U):(exec (shC.panics pan) (loopBody Try.f6 0) 0 ⟨[(14,vi i),(12,vt FLC L),(13,vi a),(5,vf F),(10,.ptr 1280 0),(8,.ptr 1024 0),(11,vb mt)],[(1280,mBox c z s T Sh M Q),(1024,eBox e1 e2 e3 e4 e5)]⟩ (again PR (some ([13,5,10,8,11],[1280,1024])) (some ([4],[])) pan [14,12,13,5,10,8,11] [1280,1024] shLoop μ N k))=(bif decide (i.int < (L.list.length:Int)) then bif decide ((0:Int)≤i.int∧i.int < (L.list.length:Int)) then bif U.int (nth (U.i 0) (List.drop (0:Nat) (U.list (nth (U.i 0) L.list (Int.toNat i.int)))) (0:Nat)) == 1 then bif decide ((0:Int)≤i.int∧i.int < (L.list.length:Int)) then bif U.int (nth (U.i 0) (List.drop (1:Nat) (U.list (nth (U.i 0) L.list (Int.toNat i.int)))) (0:Nat)) != 1 then k Ex.ret (St.mk [(4,.val .bool (U.b false))] []) else bif decide ((0:Int)≤i.int∧i.int < (L.list.length:Int)) then bif U.int (nth (U.i 0) (List.drop (2:Nat) (U.list (nth (U.i 0) L.list (Int.toNat i.int)))) (0:Nat)) != (-1:Int) then k Ex.ret (St.mk [(4,.val .bool (U.b false))] []) else bif Nat.blt (μ [vi (U.i (IntKind.wrap .i64 (i.int + 1))),.val (.sl true FLC) L,vi (U.i (IntKind.wrap .i64 (a.int + 1))),.val (.sl false [.int .u8]) F,.ptr 1280 0,.ptr 1024 0,.val .bool mt] [.box [vi c,vi z,.val .str s,.val (.sl false [.sl true EC]) T,.val (.sl true [.str,.int .i64,Ct.sl false [.sl true EC]]) Sh,.val (.sl true [.str,Ct.bool,Ct.sl true [.int .i64,.int .i64]]) M,.val (.sl false [.int .i64]) Q],.box [vi e1,vi e2,vi e3,vi e4,.val (.int .u32) e5]]) N then ((FLC=FLC∧nat_lit 1280=nat_lit 1280∧nat_lit 0=nat_lit 0∧nat_lit 1024=nat_lit 1024∧nat_lit 0=nat_lit 0∧EC=EC∧[Ct.str,.int .i64,Ct.sl false [Ct.sl true EC]]=[.str,.int .i64,Ct.sl false [.sl true EC]]∧[Ct.str,Ct.bool,Ct.sl true [.int .i64,.int .i64]]=[.str,Ct.bool,Ct.sl true [.int .i64,.int .i64]])∧U.i (IntKind.wrap .i64 (a.int + 1))=U.i (IntKind.wrap .i64 (a.int + 1))∧U.i (IntKind.wrap .i64 (i.int + 1))=U.i (IntKind.wrap .i64 (i.int + 1))∧(0:Int)≤IntKind.wrap .i64 (a.int + 1)∧IntKind.wrap .i64 (a.int + 1)≤IntKind.wrap .i64 (i.int + 1)∧IntKind.wrap .i64 (i.int + 1)≤(L.list.length:Int)∧∀ (u:U),u ∈ List.drop (Int.toNat (IntKind.wrap .i64 (i.int + 1))) L.list→flOk u)∧k (Ex.exit 0) (St.mk [(13,vi (U.i (IntKind.wrap .i64 (a.int + 1) + cnt1 (List.drop (Int.toNat (IntKind.wrap .i64 (i.int + 1))) L.list)))),(5,.val (.sl false [.int .u8]) F),(10,.ptr 1280 0),(8,.ptr 1024 0),(11,.val .bool mt)] [(1280,.box [vi c,vi z,.val .str s,.val (.sl false [.sl true EC]) T,.val (.sl true [.str,.int .i64,Ct.sl false [.sl true EC]]) Sh,.val (.sl true [.str,Ct.bool,Ct.sl true [.int .i64,.int .i64]]) M,.val (.sl false [.int .i64]) Q]),(1024,.box [vi e1,vi e2,vi e3,vi e4,.val (.int .u32) e5])]) else False else False else False else bif Nat.blt (μ [vi (U.i (IntKind.wrap .i64 (i.int + 1))),.val (.sl true FLC) L,vi a,.val (.sl false [.int .u8]) F,.ptr 1280 0,.ptr 1024 0,.val .bool mt] [.box [vi c,vi z,.val .str s,.val (.sl false [.sl true EC]) T,.val (.sl true [.str,.int .i64,Ct.sl false [.sl true EC]]) Sh,.val (.sl true [.str,Ct.bool,Ct.sl true [.int .i64,.int .i64]]) M,.val (.sl false [.int .i64]) Q],.box [vi e1,vi e2,vi e3,vi e4,.val (.int .u32) e5]]) N then ((FLC=FLC∧nat_lit 1280=nat_lit 1280∧nat_lit 0=nat_lit 0∧nat_lit 1024=nat_lit 1024∧nat_lit 0=nat_lit 0∧EC=EC∧[Ct.str,.int .i64,Ct.sl false [Ct.sl true EC]]=[.str,.int .i64,Ct.sl false [.sl true EC]]∧[Ct.str,Ct.bool,Ct.sl true [.int .i64,.int .i64]]=[.str,Ct.bool,Ct.sl true [.int .i64,.int .i64]])∧a=U.i a.int∧U.i (IntKind.wrap .i64 (i.int + 1))=U.i (IntKind.wrap .i64 (i.int + 1))∧(0:Int)≤a.int∧a.int≤IntKind.wrap .i64 (i.int + 1)∧IntKind.wrap .i64 (i.int + 1)≤(L.list.length:Int)∧∀ (u:U),u ∈ List.drop (Int.toNat (IntKind.wrap .i64 (i.int + 1))) L.list→flOk u)∧k (Ex.exit 0) (St.mk [(13,vi (U.i (a.int + cnt1 (List.drop (Int.toNat (IntKind.wrap .i64 (i.int + 1))) L.list)))),(5,.val (.sl false [.int .u8]) F),(10,.ptr 1280 0),(8,.ptr 1024 0),(11,.val .bool mt)] [(1280,.box [vi c,vi z,.val .str s,.val (.sl false [.sl true EC]) T,.val (.sl true [.str,.int .i64,Ct.sl false [.sl true EC]]) Sh,.val (.sl true [.str,Ct.bool,Ct.sl true [.int .i64,.int .i64]]) M,.val (.sl false [.int .i64]) Q]),(1024,.box [vi e1,vi e2,vi e3,vi e4,.val (.int .u32) e5])]) else False else False else k (Ex.exit 0) (St.mk [(13,vi a),(5,.val (.sl false [.int .u8]) F),(10,.ptr 1280 0),(8,.ptr 1024 0),(11,.val .bool mt)] [(1280,.box [vi c,vi z,.val .str s,.val (.sl false [.sl true EC]) T,.val (.sl true [.str,.int .i64,Ct.sl false [.sl true EC]]) Sh,.val (.sl true [.str,Ct.bool,Ct.sl true [.int .i64,.int .i64]]) M,.val (.sl false [.int .i64]) Q]),(1024,.box [vi e1,vi e2,vi e3,vi e4,.val (.int .u32) e5])])):=by kernel_rfl
theorem sh_A (k:KE) (x y:U):(exec shC (takeC 5 shB) 0 ⟨[(0,.val (.int .u8) x),(1,.val (.int .u8) y)],[]⟩ (seenS [5,6,7,8,9,10] [1024,1152,1280,8552456,8552458,8552460,8552462] k))=(fileP [[U.i 40]]∧bif decide ((0:Int)≤IntKind.wrap .i64 ((16:Int) * stP x)∧IntKind.wrap .i64 ((16:Int) * stP x)≤IntKind.wrap .i64 (IntKind.wrap .i64 ((16:Int) * stP x) + 64)∧IntKind.wrap .i64 (IntKind.wrap .i64 ((16:Int) * stP x) + 64)≤IntKind.wrap .i64 (IntKind.wrap .i64 ((16:Int) * stP x) + 64)∧IntKind.wrap .i64 (IntKind.wrap .i64 ((16:Int) * stP x) + 64)≤(lawF.length:Int)) && true then bif decide ((0:Int)≤IntKind.wrap .i64 ((16:Int) * stP y)∧IntKind.wrap .i64 ((16:Int) * stP y)≤IntKind.wrap .i64 (IntKind.wrap .i64 ((16:Int) * stP y) + 64)∧IntKind.wrap .i64 (IntKind.wrap .i64 ((16:Int) * stP y) + 64)≤IntKind.wrap .i64 (IntKind.wrap .i64 ((16:Int) * stP y) + 64)∧IntKind.wrap .i64 (IntKind.wrap .i64 ((16:Int) * stP y) + 64)≤(lawF.length:Int)) && true then k Ex.normal (St.mk [(5,.val (.sl false [.int .u8]) (U.l lawF)),(6,vi (U.i (stP x))),(7,vi (U.i (stP y))),(8,.ptr 1024 0),(9,.ptr 1152 0),(10,.ptr 1280 0)] [(1024,.box [vi (U.i 2),vi (U.i (stP x)),vi (U.i 4),vi (U.i 0),.val (.int .u32) (U.i (sumI 0 (List.drop (Int.toNat (IntKind.wrap .i64 ((16:Int) * stP x))) (List.take (Int.toNat (IntKind.wrap .i64 (IntKind.wrap .i64 ((16:Int) * stP x) + 64))) lawF))))]),(1152,.box [vi (U.i 2),vi (U.i (stP y)),vi (U.i 4),vi (U.i 0),.val (.int .u32) (U.i (sumI 0 (List.drop (Int.toNat (IntKind.wrap .i64 ((16:Int) * stP y))) (List.take (Int.toNat (IntKind.wrap .i64 (IntKind.wrap .i64 ((16:Int) * stP y) + 64))) lawF))))]),(1280,.box [vi (U.i 2),vi (U.i 8),.val .str (U.s ⟨#[]⟩),.own 8552456,.own 8552458,.own 8552460,.own 8552462]),(8552456,.arr 64 []),(8552458,.arr 73 []),(8552460,.arr 77 []),(8552462,.arr 3 [])]) else False else False):=by kernel_rfl
theorem sh_B (k:KE) (F x y e1 e2 e3 e4 e5 g1 g2 g3 g4 g5 c z s:U):(exec shC (takeC 0 (dropC 6 shB)) 0 ⟨[(5,vf F),(6,vi x),(7,vi y),(8,.ptr 1024 0),(9,.ptr 1152 0),(10,.ptr 1280 0)],[(1024,eBox e1 e2 e3 e4 e5),(1152,eBox g1 g2 g3 g4 g5),(1280,.box [vi c,vi z,vs s,.own 8552456,.own 8552458,.own 8552460,.own 8552462]),(8552456,.arr 64 []),(8552458,.arr 73 []),(8552460,.arr 77 []),(8552462,.arr 3 [])]⟩ (seenS [5,6,7,8,10] [1024,1280,8552458,8552460,8552462] k))=((fun T=>Alt (Alt (Alt T T) T) (Alt (Alt (Alt T T) T) (Alt T T))) (setP [[U.l []],[U.i 0],[e1,e2,e3,e4,e5]]∧setP [[U.l (setY [] 0 e1 e2 e3 e4 e5)],[U.i 1],[g1,g2,g3,g4,g5]]∧k Ex.normal
 (St.mk [(5,SV.val (Ct.sl false [.int .u8]) F),(6,vi x),(7,vi y),(8,SV.ptr 1024 0),(10,SV.ptr 1280 0)] [(1024,Obj.box [vi e1,vi e2,vi e3,vi e4,SV.val (.int .u32) e5]),(1280,Obj.box [vi c,
 vi z,SV.val Ct.str s,SV.val (Ct.sl false [Ct.sl true EC]) (U.l (setY (setY [] 0 e1 e2 e3 e4 e5) 1 g1 g2 g3 g4 g5)),SV.own 8552458,SV.own 8552460,SV.own 8552462]),(8552458,Obj.arr 73 []),(8552460,
 Obj.arr 77 []),(8552462,Obj.arr 3 [])]))):=by kernel_rfl
theorem sh_C (k:KE) (F x y e1 e2 e3 e4 e5 c z s T:U):(exec shC (takeC 3 (dropC 7 shB)) 0 ⟨[(5,vf F),(6,vi x),(7,vi y),(8,.ptr 1024 0),(10,.ptr 1280 0)],[(1024,eBox e1 e2 e3 e4 e5),(1280,mO c z s T),(8552458,.arr 73 []),(8552460,.arr 77 []),(8552462,.arr 3 [])]⟩ (seenS [5,8,10,11,13] [1024,1280] k))=(bif x.int != y.int then bif decide (x.int < IntKind.wrap .i64 (y.int + 4)) then faP [[c,z,s,T,U.l [],U.l [],U.l []],[F]]∧((FLC=FLC∧nat_lit 1280=nat_lit 1280∧nat_lit 0=nat_lit 0∧nat_lit 1024=nat_lit 1024∧nat_lit 0=nat_lit 0∧EC=EC∧[Ct.str,.int .i64,Ct.sl false [Ct.sl true EC]]=[.str,.int .i64,Ct.sl false [.sl true EC]]∧[Ct.str,Ct.bool,Ct.sl true [.int .i64,.int .i64]]=[.str,Ct.bool,Ct.sl true [.int .i64,.int .i64]])∧U.i (0:Int)=U.i 0∧U.i (0:Int)=U.i 0∧(0:Int)≤0∧(0:Int)≤0∧(0:Int)≤(↑(List.length (bif metaR c z s T (U.l []) (U.l []) (U.l []) then faV c z s T (U.l []) (U.l []) (U.l []) F else [])):Int)∧∀ (u:U),u ∈ List.drop (Int.toNat 0) (bif metaR c z s T (U.l []) (U.l []) (U.l []) then faV c z s T (U.l []) (U.l []) (U.l []) F else [])→flOk u)∧k Ex.normal (St.mk [(5,.val (.sl false [.int .u8]) F),(8,.ptr 1024 0),(10,.ptr 1280 0),(11,.val .bool (U.b (decide (y.int < IntKind.wrap .i64 (x.int + 4))))),(13,vi (U.i ((0:Int) + cnt1 (List.drop (Int.toNat 0) (bif metaR c z s T (U.l []) (U.l []) (U.l []) then faV c z s T (U.l []) (U.l []) (U.l []) F else [])))))] [(1024,.box [vi e1,vi e2,vi e3,vi e4,.val (.int .u32) e5]),(1280,.box [vi c,vi z,.val .str s,.val (.sl false [.sl true EC]) T,.val (.sl true [.str,.int .i64,Ct.sl false [.sl true EC]]) (U.l []),.val (.sl true [.str,Ct.bool,Ct.sl true [.int .i64,.int .i64]]) (U.l []),.val (.sl false [.int .i64]) (U.l [])])]) else faP [[c,z,s,T,U.l [],U.l [],U.l []],[F]]∧((FLC=FLC∧nat_lit 1280=nat_lit 1280∧nat_lit 0=nat_lit 0∧nat_lit 1024=nat_lit 1024∧nat_lit 0=nat_lit 0∧EC=EC∧[Ct.str,.int .i64,Ct.sl false [Ct.sl true EC]]=[.str,.int .i64,Ct.sl false [.sl true EC]]∧[Ct.str,Ct.bool,Ct.sl true [.int .i64,.int .i64]]=[.str,Ct.bool,Ct.sl true [.int .i64,.int .i64]])∧U.i (0:Int)=U.i 0∧U.i (0:Int)=U.i 0∧(0:Int)≤0∧(0:Int)≤0∧(0:Int)≤(↑(List.length (bif metaR c z s T (U.l []) (U.l []) (U.l []) then faV c z s T (U.l []) (U.l []) (U.l []) F else [])):Int)∧∀ (u:U),u ∈ List.drop (Int.toNat 0) (bif metaR c z s T (U.l []) (U.l []) (U.l []) then faV c z s T (U.l []) (U.l []) (U.l []) F else [])→flOk u)∧k Ex.normal (St.mk [(5,.val (.sl false [.int .u8]) F),(8,.ptr 1024 0),(10,.ptr 1280 0),(11,.val .bool (U.b false)),(13,vi (U.i ((0:Int) + cnt1 (List.drop (Int.toNat 0) (bif metaR c z s T (U.l []) (U.l []) (U.l []) then faV c z s T (U.l []) (U.l []) (U.l []) F else [])))))] [(1024,.box [vi e1,vi e2,vi e3,vi e4,.val (.int .u32) e5]),(1280,.box [vi c,vi z,.val .str s,.val (.sl false [.sl true EC]) T,.val (.sl true [.str,.int .i64,Ct.sl false [.sl true EC]]) (U.l []),.val (.sl true [.str,Ct.bool,Ct.sl true [.int .i64,.int .i64]]) (U.l []),.val (.sl false [.int .i64]) (U.l [])])]) else faP [[c,z,s,T,U.l [],U.l [],U.l []],[F]]∧((FLC=FLC∧nat_lit 1280=nat_lit 1280∧nat_lit 0=nat_lit 0∧nat_lit 1024=nat_lit 1024∧nat_lit 0=nat_lit 0∧EC=EC∧[Ct.str,.int .i64,Ct.sl false [Ct.sl true EC]]=[.str,.int .i64,Ct.sl false [.sl true EC]]∧[Ct.str,Ct.bool,Ct.sl true [.int .i64,.int .i64]]=[.str,Ct.bool,Ct.sl true [.int .i64,.int .i64]])∧U.i (0:Int)=U.i 0∧U.i (0:Int)=U.i 0∧(0:Int)≤0∧(0:Int)≤0∧(0:Int)≤(↑(List.length (bif metaR c z s T (U.l []) (U.l []) (U.l []) then faV c z s T (U.l []) (U.l []) (U.l []) F else [])):Int)∧∀ (u:U),u ∈ List.drop (Int.toNat 0) (bif metaR c z s T (U.l []) (U.l []) (U.l []) then faV c z s T (U.l []) (U.l []) (U.l []) F else [])→flOk u)∧k Ex.normal (St.mk [(5,.val (.sl false [.int .u8]) F),(8,.ptr 1024 0),(10,.ptr 1280 0),(11,.val .bool (U.b false)),(13,vi (U.i ((0:Int) + cnt1 (List.drop (Int.toNat 0) (bif metaR c z s T (U.l []) (U.l []) (U.l []) then faV c z s T (U.l []) (U.l []) (U.l []) F else [])))))] [(1024,.box [vi e1,vi e2,vi e3,vi e4,.val (.int .u32) e5]),(1280,.box [vi c,vi z,.val .str s,.val (.sl false [.sl true EC]) T,.val (.sl true [.str,.int .i64,Ct.sl false [.sl true EC]]) (U.l []),.val (.sl true [.str,Ct.bool,Ct.sl true [.int .i64,.int .i64]]) (U.l []),.val (.sl false [.int .i64]) (U.l [])])])):=by kernel_rfl
theorem sh_D (k:KE) (F a mt e1 e2 e3 e4 e5 c z s T Sh M Q:U):(exec shC (takeC 0 (dropC 11 shB)) 0 ⟨[(5,vf F),(8,.ptr 1024 0),(10,.ptr 1280 0),(11,vb mt),(13,vi a)],[(1024,eBox e1 e2 e3 e4 e5),(1280,mBox c z s T Sh M Q)]⟩ (seenS [8,11,13,15,16] [1024,1920] k))=(mdP [[c,z,s,T,Sh,M,Q],[F]]∧k Ex.normal (St.mk [(8,SV.ptr 1024 0),(11,SV.val Ct.bool mt),(13,vi a),(15,SV.ptr 1920 0),(16,vi (U.i (bif metaR c z s T Sh M Q then (0:Int) else (1:Int))))]
 [(1024,Obj.box [vi e1,vi e2,vi e3,vi e4,SV.val (.int .u32) e5]),(1920,Obj.box [vi (bif metaR c z s T Sh M Q then c else U.i 0),vi (bif metaR c z s T Sh M Q then z else U.i 0),SV.val Ct.str (bif
 metaR c z s T Sh M Q then s else U.s (ByteArray.mk #[])),SV.val (Ct.sl false [Ct.sl true EC]) (U.l (bif metaR c z s T Sh M Q then Prod.fst (woU c z s T Sh M Q F) else [])),SV.val (Ct.sl true [Ct.str,
 .int .i64,Ct.sl false [Ct.sl true EC]]) (U.l (bif metaR c z s T Sh M Q then List.map cutSh (Prod.snd (woU c z s T Sh M Q F)) else [])),SV.val (Ct.sl true [Ct.str,Ct.bool,Ct.sl true [.int .i64,.int
 .i64]]) (U.l (bif metaR c z s T Sh M Q then List.map mpSet M.list else [])),SV.val (Ct.sl false [.int .i64]) (U.l (bif metaR c z s T Sh M Q then ofV (okM c z s T Sh M Q F) (Int.toNat (szU F)) else []))])])):=by kernel_rfl
theorem sh_E (k:KE) (a mt er e1 e2 e3 e4 e5 c z s T Sh M Q:U):(exec shC (dropC 12 shB) 0 ⟨[(8,.ptr 1024 0),(11,vb mt),(13,vi a),(15,.ptr 1920 0),(16,vi er)],[(1024,eBox e1 e2 e3 e4 e5),(1920,mBox c z s T Sh M Q)]⟩ (seenS [4] [] k))=(bif (a.int == 1) == mt.bool then bif decide (a.int < 2) then bif er.int == 0 then bif (U.int (entF (0:Nat) T.list 1) == 1) == mt.bool then bif U.int (entF (0:Nat) T.list 0) == e1.int && (U.int (entF
 (1:Nat) T.list 0) == e2.int && (U.int (entF (2:Nat) T.list 0) == e3.int && (U.int (entF (3:Nat) T.list 0) == e4.int && (U.int (entF (4:Nat) T.list 0) == e5.int && true)))) then k Ex.ret (St.mk
 [(4,SV.val Ct.bool (U.b true))] []) else k Ex.ret (St.mk [(4,SV.val Ct.bool (U.b false))] []) else k Ex.ret (St.mk [(4,SV.val Ct.bool (U.b false))] []) else k Ex.ret (St.mk [(4,SV.val Ct.bool (U.b
 false))] []) else k Ex.ret (St.mk [(4,SV.val Ct.bool (U.b false))] []) else k Ex.ret (St.mk [(4,SV.val Ct.bool (U.b false))] [])):=by kernel_rfl
end Go.Mat

namespace Go.Mat
open Go Go.Den Go.Proofs
set_option maxRecDepth 100000
theorem rfits_at {T:List U} {a b d e g c:Int} (ht:rtableR T 4096 c=true) (hm:mayR a b d e g c=true):∀ (n:Nat) (c0:Int),c0≤c→c < c0 + n→rfitsFrom T a b d e g n c0=true
 | 0,c0,h1,h2=>by omega
 | n + 1,c0,h1,h2=>by
  rw [rfitsFrom]
  by_cases he:c0=c
  ·subst he;rw [ht,hm];rfl
  ·have ih:=rfits_at ht hm n (c0 + 1) (by omega) (by omega)
   rw [ih]
   cases rtableR T 4096 c0<;>cases mayR a b d e g c0<;>rfl
theorem fits_at {T:List U} {a b d e g c:Int} (ht:tableR T 4096 c=true) (hm:mayR a b d e g c=true):∀ (n:Nat) (c0:Int),c0≤c→c < c0 + n→fitsFrom T a b d e g n c0=true
 | 0,c0,h1,h2=>by omega
 | n + 1,c0,h1,h2=>by
  rw [fitsFrom]
  by_cases he:c0=c
  ·subst he;rw [ht,hm];rfl
  ·have ih:=fits_at ht hm n (c0 + 1) (by omega) (by omega)
   rw [ih]
   cases tableR T 4096 c0<;>cases mayR a b d e g c0<;>rfl
theorem setY_in {T:List U} {i:Int} {a b d e g:U} {c:Int} (h0:0≤i) (h1:i < 4096) (hc0:0≤c) (hc6:c≤6) (ht:rtableR T 4096 c=true) (hm:mayR a.int b.int d.int e.int g.int c=true) (ha:(a.int == 0)=false) :
  setY T i a b d e g=setZ T i.toNat [a,b,d,e,g]:=by
 unfold setY
 rw [rfits_at ht hm 7 0 hc0 (by omega),decide_eq_false (by omega),decide_eq_false (by omega),ha]
 rfl
theorem setX_in {T:List U} {i:Int} {a b d e g:U} {c:Int} (h0:0≤i) (h1:i < 4096) (hc0:0≤c) (hc6:c≤6) (ht:tableR T 4096 c=true) (hm:mayR a.int b.int d.int e.int g.int c=true) :
  setX T i a b d e g=setR T i.toNat [a,b,d,e,g]:=by
 unfold setX
 rw [fits_at ht hm 7 0 hc0 (by omega),decide_eq_false (by omega),decide_eq_false (by omega)]
 rfl
theorem pow_in:∀ c:Nat,c≤6→(1:Int)≤2 ^ c∧(2:Int) ^ c≤64:=by
 intro c hc
 match c,hc with
 | 0,_=>decide
 | 1,_=>decide
 | 2,_=>decide
 | 3,_=>decide
 | 4,_=>decide
 | 5,_=>decide
 | 6,_=>decide
 | c + 7,h=>omega
theorem may_raw {x k s:Int} {c:Nat} (hc:c≤6) (hk:k=2 ^ c) (h2:2≤x) (h3:x≤1000):mayR 2 x k 0 s c=true:=by
 subst hk
 have hp:=pow_in c hc
 unfold mayR placeR
 rw [if_neg (by omega),if_neg (by decide),if_pos rfl,Int.toNat_natCast]
 generalize (2:Int) ^ c=k at *
 rw [decide_eq_true ⟨rfl,rfl⟩,decide_eq_true h2,decide_eq_true (by omega),decide_eq_true (by omega),decide_eq_true (by omega)]
 rfl
theorem raw_right {F:List U} {x k s:Int} {c:Nat} (hc:c≤6) (hk:k=2 ^ c) (h2:2≤x) (h3:x≤1000) (hF:16 * (x + k)≤F.length) (hs:s=sumI 0 ((F.take ((x + k) * 16).toNat).drop (x * 16).toNat)):(cbX 2 x k 0 s c F).1=0:=by
 unfold cbX
 have hk0:=pow_in c hc
 rw [may_raw hc hk h2 h3,cond_true,decide_eq_false (by omega)]
 have hl:((((F.take ((x + k) * 16).toNat).drop (x * 16).toNat).length:Nat):Int)=16 * 2 ^ c:=by
  rw [List.length_drop,List.length_take,← hk]
  omega
 show (cbFin _ s c).1=0
 unfold cbFin
 rw [hl,Int.toNat_natCast,← hs,beq_self_eq_true,beq_self_eq_true]
 rfl
def badG (wr:U→Bool) (ls:List U):List U × List PK:=ls.foldl (fun st l=>bif wr l || st.2.any (meetP (pkOf l)) then (st.1 ++ [.l [lnU l 0,lnU l 1]],st.2) else (st.1,bif decide (pkOf l ∈ st.2) then st.2 else st.2 ++ [pkOf l])) ([],[])
theorem badL_G {F:List U} {c:Int} {wr:U→Bool} {ls:List U} (h:∀ l,l ∈ ls→wrongB F c l=wr l):badL F c ls=badG wr ls:=by
 unfold badL badG
 generalize (([],[]):List U × List PK)=st
 induction ls generalizing st with
 | nil=>rfl
 | cons l r ih=>
  rw [List.foldl_cons,List.foldl_cons,ih fun l hl=>h l (List.mem_cons_of_mem _ hl)]
  congr 1
  unfold badStep
  rw [h l (List.mem_cons_self ..)]
theorem cond2_mem {p q:Bool} {a b u:U} (h:u ∈ (bif p then [a] else bif q then [b] else [])):u=a∨u=b:=by
 cases p<;>cases q<;>simp at h<;>simp [h]
theorem flCnt_kind {sz:Int} {Q:List U} {i:Int} {x u:U} (h:u ∈ flCnt sz Q i x):(nth (.i 0) u.list 0).int=2∨(nth (.i 0) u.list 0).int=3:=by
 rcases cond2_mem h with rfl | rfl
 ·exact .inl rfl
 ·exact .inr rfl
theorem flCnts_kind {sz:Int} {Q:List U}:∀ {L:List U} {i:Int} {u:U},u ∈ flCnts sz Q i L→(nth (.i 0) u.list 0).int=2∨(nth (.i 0) u.list 0).int=3
 | [],_,_,h=>by cases h
 | x :: r,i,u,h=>by
  rw [flCnts,List.mem_append] at h
  exact h.elim flCnt_kind flCnts_kind
theorem secsR_len:∀ (n:Nat) (i:Int),(secsR n i).length=16 * n
 | 0,_=>rfl
 | n + 1,i=>by rw [secsR,List.length_append,List.length_replicate,secsR_len n (i + 1)];omega
theorem whU_all {F:List U} (h:F.length % 16=0) (h2:F.length≤1048576):whU (.l F)=F:=by
 unfold whU
 rw [U.list_l,List.take_of_length_le]
 omega
end Go.Mat

namespace Go.Mat
open Go Go.Den Go.Proofs
set_option maxRecDepth 100000
def zE:U:=.l [.i 0,.i 0,.i 0,.i 0,.i 0]
def rE (x k s:Int):U:=.l [.i 2,.i x,.i k,.i 0,.i s]
def tb1 (x k s:Int):List U:=[.l [rE x k s,zE,zE,zE,zE,zE,zE,zE]]
def tb2 (x y k s t:Int):List U:=[.l [rE x k s,rE y k t,zE,zE,zE,zE,zE,zE]]
theorem may_zE:mayR 0 0 0 0 0 2=true:=by decide
theorem wrap_at:IntKind.i64.wrap (IntKind.i64.wrap 0)=0∧IntKind.i64.wrap (IntKind.i64.wrap 0 + 1)=1:=by decide
theorem rtab1 {x s:Int} (hm:mayR 2 x 4 0 s 2=true):rtableR (tb1 x 4 s) 4096 2=true:=by
 simp [rtableR,lastOk,rleavesR,rleafR,rentsR,rentOk,rsomeR,tb1,zE,rE,hm,may_zE,e0,e1,e2,e3,e4,nth_zero,nth_succ,U.list,U.int,wrap_at]
theorem tab2 {x y s t n:Int} (hm:mayR 2 x 4 0 s 2=true) (hm2:mayR 2 y 4 0 t 2=true) (h0:2≤n) (h1:n≤4096):tableR (tb2 x y 4 s t) n 2=true:=by
 simp [tableR,leavesR,leafR,entsR,entOk,someR,noneR,tb2,zE,rE,hm,hm2,may_zE,e0,e1,e2,e3,e4,nth_zero,nth_succ,U.list,U.int,wrap_at]
 omega
theorem set0 {x s:Int} (hm:mayR 2 x 4 0 s 2=true):setY [] 0 (.i 2) (.i x) (.i 4) (.i 0) (.i s)=tb1 x 4 s:=by
 refine (setY_in (a:=.i 2) (b:=.i x) (d:=.i 4) (e:=.i 0) (g:=.i s) (c:=2) (by decide) (by decide) (by decide) (by decide) (by decide) hm (by decide)).trans ?_
 kernel_rfl
theorem set1 {x y s t:Int} (hm:mayR 2 x 4 0 s 2=true) (hm2:mayR 2 y 4 0 t 2=true):setY (tb1 x 4 s) 1 (.i 2) (.i y) (.i 4) (.i 0) (.i t)=tb2 x y 4 s t:=by
 refine (setY_in (a:=.i 2) (b:=.i y) (d:=.i 4) (e:=.i 0) (g:=.i t) (c:=2) (by decide) (by decide) (by decide) (by decide) (rtab1 hm) hm2 (by decide)).trans ?_
 kernel_rfl
theorem lines2 (x y s t:Int):linesOf (.i (-1)) (tb2 x y 4 s t)=[.l [.i (-1),.i 0,.i 2,.i x,.i 4,.i 0,.i s],.l [.i (-1),.i 1,.i 2,.i y,.i 4,.i 0,.i t]]:=by kernel_rfl
def tb2z (x s:Int):List U:=[.l [rE x 4 s,.l [.i 1,.i 0,.i 0,.i 0,.i 0],zE,zE,zE,zE,zE,zE]]
theorem setz {x y s t:Int} (hm:mayR 2 x 4 0 s 2=true) (hm2:mayR 2 y 4 0 t 2=true):setX (tb2 x y 4 s t) 1 (.i 1) (.i 0) (.i 0) (.i 0) (.i 0)=tb2z x s:=by
 refine (setX_in (a:=.i 1) (b:=.i 0) (d:=.i 0) (e:=.i 0) (g:=.i 0) (c:=2) (by decide) (by decide) (by decide) (by decide) (tab2 hm hm2 (by decide) (by decide)) (by decide)).trans ?_
 kernel_rfl
def bd2 (m:Bool):List U:=bif m then [.l [.i (-1),.i 1]] else []
theorem bad2 {F:List U} {x y s t:Int} (h1:(cbX 2 x 4 0 s 2 F).1=0) (h2:(cbX 2 y 4 0 t 2 F).1=0) :
  (badL F 2 (linesOf (.i (-1)) (tb2 x y 4 s t) ++ shotLines 0 [])).1=bd2 (meetR y 4 x 4):=by
 rw [lines2]
 have hw:∀ l,l ∈ [U.l [.i (-1),.i 0,.i 2,.i x,.i 4,.i 0,.i s],.l [.i (-1),.i 1,.i 2,.i y,.i 4,.i 0,.i t]] ++ shotLines 0 []→wrongB F 2 l=(fun _=>false) l:=by
  intro l hl
  have hl:l=U.l [.i (-1),.i 0,.i 2,.i x,.i 4,.i 0,.i s]∨l = .l [.i (-1),.i 1,.i 2,.i y,.i 4,.i 0,.i t]:=by simpa [shotLines] using hl
  rcases hl with rfl | rfl
  ·show ((cbX 2 x 4 0 s 2 F).1 != 0)=false
   rw [h1];rfl
  ·show ((cbX 2 y 4 0 t 2 F).1 != 0)=false
   rw [h2];rfl
 rw [badL_G hw]
 have e:badG (fun _=>false) ([U.l [.i (-1),.i 0,.i 2,.i x,.i 4,.i 0,.i s],.l [.i (-1),.i 1,.i 2,.i y,.i 4,.i 0,.i t]] ++ shotLines 0 []) =
  (bif meetR y 4 x 4 || false then ([] ++ [.l [.i (-1),.i 1]],[((x,4):PK)]) else ([],bif decide (((y,4):PK) ∈ [((x,4):PK)]) then [((x,4):PK)] else [((x,4):PK)] ++ [((y,4):PK)])):=by kernel_rfl
 rw [e]
 cases meetR y 4 x 4<;>rfl
theorem cnt1_app:∀ (L M:List U),cnt1 (L ++ M)=cnt1 L + cnt1 M
 | [],M=>by show cnt1 M=0 + cnt1 M;omega
 | u :: r,M=>by
  show _ + cnt1 (r ++ M)=(_ + cnt1 r) + cnt1 M
  rw [cnt1_app r M];omega
theorem cnt1_none:∀ {L:List U},(∀ u,u ∈ L→(nth (.i 0) u.list 0).int=2∨(nth (.i 0) u.list 0).int=3)→cnt1 L=0
 | [],_=>rfl
 | u :: r,h=>by
  show (bif (nth (.i 0) u.list 0).int == 1 then (1:Int) else 0) + cnt1 r=0
  rw [cnt1_none fun v hv=>h v (List.mem_cons_of_mem _ hv)]
  rcases h u (List.mem_cons_self ..) with e | e<;>rw [e]<;>rfl
theorem meta2 {x y s t:Int} (hm:mayR 2 x 4 0 s 2=true) (hm2:mayR 2 y 4 0 t 2=true):metaR (.i 2) (.i 8) (.s (ByteArray.mk #[])) (.l (tb2 x y 4 s t)) (.l []) (.l []) (.l [])=true:=by
 unfold metaR
 have h:=tab2 hm hm2 (n:=2) (by decide) (by decide)
 have e:tableR (U.list (.l (tb2 x y 4 s t))) ((U.i 8).int / 2 ^ (U.i 2).int.toNat) (U.i 2).int=true:=h
 rw [e]
 decide
theorem two_found {F:List U} {x y s t:Int} (hF:whU (.l F)=F) (h1:(cbX 2 x 4 0 s 2 F).1=0) (h2:(cbX 2 y 4 0 t 2 F).1=0) :
  bdU (.i 2) (.i 8) (.s (ByteArray.mk #[])) (.l (tb2 x y 4 s t)) (.l []) (.l []) (.l []) (.l F)=bd2 (meetR y 4 x 4):=by
 unfold bdU
 rw [hF]
 exact bad2 h1 h2
theorem two_mended {F:List U} {x y s t:Int} (hm:mayR 2 x 4 0 s 2=true) (hm2:mayR 2 y 4 0 t 2=true) (hF:whU (.l F)=F) (h1:(cbX 2 x 4 0 s 2 F).1=0) (h2:(cbX 2 y 4 0 t 2 F).1=0) :
  (woU (.i 2) (.i 8) (.s (ByteArray.mk #[])) (.l (tb2 x y 4 s t)) (.l []) (.l []) (.l []) (.l F)).1=bif meetR y 4 x 4 then tb2z x s else tb2 x y 4 s t:=by
 unfold woU
 rw [two_found hF h1 h2]
 cases meetR y 4 x 4 with
 | true=>
  show setX (tb2 x y 4 s t) 1 (.i 1) (.i 0) (.i 0) (.i 0) (.i 0)=tb2z x s
  exact setz hm hm2
 | false=>rfl
theorem two_faults {F:List U} {x y s t:Int} (hF:whU (.l F)=F) (h1:(cbX 2 x 4 0 s 2 F).1=0) (h2:(cbX 2 y 4 0 t 2 F).1=0) :
  (∀ u,u ∈ faV (.i 2) (.i 8) (.s (ByteArray.mk #[])) (.l (tb2 x y 4 s t)) (.l []) (.l []) (.l []) (.l F)→flOk u)∧cnt1 (faV (.i 2) (.i 8) (.s (ByteArray.mk #[])) (.l (tb2 x y 4 s t)) (.l []) (.l []) (.l []) (.l F))=bif meetR y 4 x 4 then 1 else 0:=by
 unfold faV
 rw [two_found hF h1 h2]
 generalize okM _ _ _ _ _ _ _ _=K
 refine ⟨fun u hu=>?_,?_⟩
 ·rcases List.mem_append.1 hu with hu | hu
  ·cases hm:meetR y 4 x 4 with
   | true=>
    rw [hm] at hu
    have hu:u = .l [.i 1,.i 1,.i (-1)]:=by simpa [bd2,flBad,nth_zero,nth_succ,U.list] using hu
    subst hu
    exact fun _=>⟨rfl,rfl⟩
   | false=>rw [hm] at hu;cases hu
  ·intro h
   rcases flCnts_kind hu with e | e<;>rw [e] at h<;>cases h
 ·rw [cnt1_app,cnt1_none fun u hu=>flCnts_kind hu]
  cases meetR y 4 x 4<;>rfl
theorem sh_loop:LoopOk shC 0 (loopBody Try.f6 0):=by
 refine loopOk_of (F:=shLoop) (ts:=[14,12,13,5,10,8,11]) (os:=[1280,1024]) rfl (fun svs _=>match svs with | .val _ i :: .val _ L :: _=>L.list.length - i.int.toNat | _=>0) ?_
 intro pan svs os k ho1 ho2 h
 unfold shLoop at h
 split at h
 ·rename_i i fc L a F p q p8 q8 mt c z s x1 T x3 Sh x2 M Q e1 e2 e3 e4 e5
  obtain ⟨⟨⟨rfl,rfl,rfl,rfl,rfl,rfl,rfl,rfl⟩,ha,hii,h0,hai,hin,hfl⟩,hk⟩:=h
  have hL:L.list.length≤maxLen:=ho1.2.1.1
  unfold maxLen at hL
  refine .eq (sh_round pan _ _ k i L a F mt c z s T Sh M Q e1 e2 e3 e4 e5) ?_
  refine bd (fun hlt=>?_) (fun hlt=>?_)
  ·have hi:i.int.toNat < L.list.length:=by omega
   have hwi:IntKind.wrap .i64 (i.int + 1)=i.int + 1:=i64_in (by omega) (by omega)
   have hwa:IntKind.wrap .i64 (a.int + 1)=a.int + 1:=i64_in (by omega) (by omega)
   have hc:(i.int + 1).toNat=i.int.toNat + 1:=by omega
   have hdr:=drop_cons_at hi
   rw [hdr] at hk hfl
   have hu:=hfl _ (List.mem_cons_self ..)
   have hrest:∀ u,u ∈ L.list.drop (i.int.toNat + 1)→flOk u:=fun u hu=>hfl u (List.mem_cons_of_mem _ hu)
   have hcn:cnt1 (U.at L.list i.int.toNat :: L.list.drop (i.int.toNat + 1))=(bif (nth (.i 0) (U.at L.list i.int.toNat).list 0).int == 1 then 1 else 0) + cnt1 (L.list.drop (i.int.toNat + 1)):=rfl
   rw [hcn] at hk
   have hxe:nth (.i 0) L.list i.int.toNat=U.at L.list i.int.toNat:=rfl
   rw [hwi,hwa,hc,hxe]
   generalize U.at L.list i.int.toNat=u at hk hu
   have d0:List.drop 0 u.list=u.list:=rfl
   have d1:List.drop 1 u.list=u.list.tail:=List.drop_one
   have d2:List.drop 2 u.list=u.list.tail.tail:=by cases u.list with | nil=>rfl | cons a r=>cases r<;>rfl
   rw [d0,d1,d2]
   refine dt ⟨by omega,by omega⟩ (bi (fun h1=>?_) (fun h1=>?_))
   ·rw [h1,cond_true] at hk
    have hk1:(nth (.i 0) u.list 0).int=1:=by simpa using h1
    obtain ⟨g1,g2⟩:=hu hk1
    rw [g1,g2]
    refine dt ⟨by omega,by omega⟩ (bf rfl (dt ⟨by omega,by omega⟩ (bf rfl (blt (by simp only [U.int_i];omega) ⟨⟨⟨by trivial,by trivial,by trivial,by trivial,by trivial,by trivial,by trivial,by trivial⟩,by trivial,by trivial,by omega,by omega,by omega,hrest⟩,?_⟩))))
    rw [show a.int + 1 + cnt1 (L.list.drop (i.int.toNat + 1))=a.int + (1 + cnt1 (L.list.drop (i.int.toNat + 1))) by omega]
    exact hk
   ·rw [h1,cond_false] at hk
    refine blt (by simp only [U.int_i];omega) ⟨⟨⟨by trivial,by trivial,by trivial,by trivial,by trivial,by trivial,by trivial,by trivial⟩,ha,by trivial,by omega,by omega,by omega,hrest⟩,?_⟩
    rw [Int.zero_add] at hk
    exact hk
  ·have hd:L.list.drop i.int.toNat=[]:=List.drop_eq_nil_of_le (by omega)
   rw [hd] at hk
   have h0:cnt1 []=0:=rfl
   rw [h0,Int.add_zero,← ha] at hk
   exact hk
 ·exact h.elim
theorem shC_ok:shC.Ok:=(mkC_ok eqsF_ok mixed_ok (.cons aw_ok (.cons numA_ok (.cons at_ok (.cons rsum_ok (.consP rset_ok (.consP file_ok (.consP fa_ok (.consP md_ok .nil)))))))) .nil).panics _
end Go.Mat

namespace Go.Mat
open Go Go.Den Go.Proofs
set_option maxRecDepth 100000
theorem lawF_len:lawF.length=640:=secsR_len 40 0
theorem lawF_whole:whU (.l lawF)=lawF:=whU_all (by rw [lawF_len]) (by rw [lawF_len];decide)
theorem stP_in {x:U} (h:0≤x.int∧x.int≤255):2≤stP x∧stP x≤31:=by
 unfold stP
 rw [i64_in (x:=x.int) (by omega) (by omega),Int.tmod_eq_emod_of_nonneg h.1,i64_in (by omega) (by omega)]
 omega
def sumAt (F:List U) (x k:Int):Int:=sumI 0 ((F.take ((x + k) * 16).toNat).drop (x * 16).toNat)
theorem results_at {fn:Func} {tmps:Array Value} {x:Nat} {w:World} (hr:fn.results = #[.tmp x]):(results fn tmps).run PR w = .ok (tmps.getD x undef) w:=by
 rw [results_of,hr]
 simp [resOf]
abbrev Th0 (w:World) (Z:Nat→Prop):Anc:=⟨w,fun _=>False,fun _=>False,Z,false,false,fun _=>.pointer none,[]⟩
theorem noloops {C:Ctx} {c:Code} (h:loopsOf c 0=[]):∀ q ∈ loopsOf c 0,LoopOk C q.1 q.2:=loops_none h
theorem sh_walk {w:World} {a:Act} {Z:Nat→Prop} {Q:Exit→Act→World→Prop} {x y:U} (hx:0≤x.int∧x.int≤255) (hy:0≤y.int∧y.int≤255)
  (Sm:Sim PR (Th0 w Z) 138 ⟨[(0,.val (.int .u8) x),(1,.val (.int .u8) y)],[]⟩ a w Z (fun _=>.pointer none)) (hpan:∀ c a w d v,Q (.panic c) (a.put d v) w→Q (.panic c) a w)
  (hend:∀ a' w',a'.defers=[]→a'.tmps.getD 4 undef = .bool true→Fut (fun _=>False) w w'→Q .ret a' w'):shB.wp PR Q a w:=by
 have hP:Pans shC (Th0 w Z) 138 Q:=fun _ _ _ _ _ _ _ h _ _=>h.elim
 have hX:=stP_in hx
 have hY:=stP_in hy
 have hw16:∀ z:Int,2≤z∧z≤31→IntKind.wrap .i64 (16 * z)=16 * z∧IntKind.wrap .i64 (16 * z + 64)=16 * z + 64:=fun z hz=>⟨i64_in (by omega) (by omega),i64_in (by omega) (by omega)⟩
 have hsum:∀ z:Int,2≤z∧z≤31→sumI 0 (List.drop (Int.toNat (16 * z)) (List.take (Int.toNat (16 * z + 64)) lawF))=sumAt lawF z 4:=fun z hz=>by
  unfold sumAt
  rw [show (z + 4) * 16=16 * z + 64 by omega,show z * 16=16 * z by omega]
 have hA:Holds (exec shC (takeC 5 shB) 0 ⟨[(0,.val (.int .u8) x),(1,.val (.int .u8) y)],[]⟩ (seenS [5,6,7,8,9,10] [1024,1152,1280,8552456,8552458,8552460,8552462] fun e σ=>e = .normal∧σ =
   ⟨[(5,vf (.l lawF)),(6,vi (.i (stP x))),(7,vi (.i (stP y))),(8,.ptr 1024 0),(9,.ptr 1152 0),(10,.ptr 1280 0)],[(1024,eBox (.i 2) (.i (stP x)) (.i 4) (.i 0) (.i (sumAt lawF (stP x) 4))),(1152,eBox (.i 2) (.i (stP y)) (.i 4) (.i 0) (.i (sumAt lawF (stP y) 4))),
     (1280,.box [vi (.i 2),vi (.i 8),vs (.s (ByteArray.mk #[])),.own 8552456,.own 8552458,.own 8552460,.own 8552462]),(8552456,.arr 64 []),(8552458,.arr 73 []),(8552460,.arr 77 []),(8552462,.arr 3 [])]⟩)):=by
  refine .eq (sh_A _ x y) ⟨show (40:Int)≤1000 by decide,?_⟩
  rw [(hw16 _ hX).1,(hw16 _ hX).2,(hw16 _ hY).1,(hw16 _ hY).2,lawF_len,hsum _ hX,hsum _ hY]
  exact bt (by rw [decide_eq_true ⟨by omega,by omega,by omega,by omega⟩];rfl) (bt (by rw [decide_eq_true ⟨by omega,by omega,by omega,by omega⟩];rfl) ⟨rfl,rfl⟩)
 refine piece_on shC_ok rfl rfl (fun _ h=>h) (rest:=dropC 6 shB) hP hpan (by kernel_rfl) (by kernel_rfl) (by kernel_rfl) (noloops (by kernel_rfl)) Sm hA fun a1 w1 Z1 G1 S1=>?_
 clear hA Sm
 have hF1:(lawF.length:Int)=640:=by rw [lawF_len];rfl
 have hmx:mayR 2 (stP x) 4 0 (sumAt lawF (stP x) 4) 2=true:=may_raw (c:=2) (by decide) (by decide) hX.1 (by omega)
 have hmy:mayR 2 (stP y) 4 0 (sumAt lawF (stP y) 4) 2=true:=may_raw (c:=2) (by decide) (by decide) hY.1 (by omega)
 have hrx:(cbX 2 (stP x) 4 0 (sumAt lawF (stP x) 4) 2 lawF).1=0:=raw_right (c:=2) (by decide) (by decide) hX.1 (by omega) (by omega) rfl
 have hry:(cbX 2 (stP y) 4 0 (sumAt lawF (stP y) 4) 2 lawF).1=0:=raw_right (c:=2) (by decide) (by decide) hY.1 (by omega) (by omega) rfl
 generalize sumAt lawF (stP x) 4=s1 at S1 hmx hrx
 generalize sumAt lawF (stP y) 4=s2 at S1 hmy hry
 generalize stP x=X at S1 hX hmx hrx
 generalize stP y=Y at S1 hY hmy hry
 have hF:=lawF_whole
 have hLs:lawF.length≤1000000:=by rw [lawF_len];decide
 generalize lawF=F at S1 hrx hry hF hLs
 have hB:Holds (exec shC (takeC 0 (dropC 6 shB)) 0 ⟨[(5,vf (.l F)),(6,vi (.i X)),(7,vi (.i Y)),(8,.ptr 1024 0),(9,.ptr 1152 0),(10,.ptr 1280 0)],[(1024,eBox (.i 2) (.i X) (.i 4) (.i 0) (.i s1)),(1152,eBox (.i 2) (.i Y) (.i 4) (.i 0) (.i s2)),
    (1280,.box [vi (.i 2),vi (.i 8),vs (.s (ByteArray.mk #[])),.own 8552456,.own 8552458,.own 8552460,.own 8552462]),(8552456,.arr 64 []),(8552458,.arr 73 []),(8552460,.arr 77 []),(8552462,.arr 3 [])]⟩
   (seenS [5,6,7,8,10] [1024,1280,8552458,8552460,8552462] fun e σ=>e = .normal∧σ=⟨[(5,vf (.l F)),(6,vi (.i X)),(7,vi (.i Y)),(8,.ptr 1024 0),(10,.ptr 1280 0)],[(1024,eBox (.i 2) (.i X) (.i 4) (.i 0) (.i s1)),(1280,mO (.i 2) (.i 8) (.s (ByteArray.mk #[])) (.l (tb2 X Y 4 s1 s2))),
     (8552458,.arr 73 []),(8552460,.arr 77 []),(8552462,.arr 3 [])]⟩)):=by
  refine .eq (sh_B _ (.l F) (.i X) (.i Y) (.i 2) (.i X) (.i 4) (.i 0) (.i s1) (.i 2) (.i Y) (.i 4) (.i 0) (.i s2) (.i 2) (.i 8) (.s (ByteArray.mk #[]))) ?_
  simp only [Alt_self]
  rw [set0 hmx,set1 hmx hmy]
  exact ⟨⟨Nat.zero_le _,fun j hj=>absurd hj (Nat.not_lt_zero _)⟩,⟨show 1≤1048576 by decide,fun j hj=>by
   have hj:j < 1:=hj
   have:j=0:=by omega
   subst this
   show 8≤1048576
   decide⟩,by trivial,rfl⟩
 refine piece_on shC_ok rfl rfl (fun _ h=>h) (rest:=dropC 7 shB) hP hpan (by kernel_rfl) (by kernel_rfl) (by kernel_rfl) (noloops (by kernel_rfl)) S1 hB fun a2 w2 Z2 G2 S2=>?_
 clear hB S1
 have hM:=meta2 hmx hmy
 obtain ⟨hfl,hcn⟩:=two_faults hF hrx hry
 have hwX:IntKind.wrap .i64 (X + 4)=X + 4:=i64_in (by omega) (by omega)
 have hwY:IntKind.wrap .i64 (Y + 4)=Y + 4:=i64_in (by omega) (by omega)
 have hmeet:meetR Y 4 X 4=(bif (X != Y) then (bif decide (X < Y + 4) then decide (Y < X + 4) else false) else false):=by
  unfold meetR
  rw [hwX,hwY]
  by_cases e:X=Y
  ·subst e;simp
  ·have e1:(Y == X)=false:=by simpa using fun h:Y=X=>e h.symm
   have e2:(X != Y)=true:=by simpa using e
   rw [e1,e2]
   cases decide (X < Y + 4)<;>cases decide (Y < X + 4)<;>rfl
 have mg:mgP (.l (tb2 X Y 4 s1 s2)) (.l []):=⟨show 1≤1099511627776 by decide,fun x hx=>by cases hx⟩
 have hC:Holds (exec shC (takeC 3 (dropC 7 shB)) 0 ⟨[(5,vf (.l F)),(6,vi (.i X)),(7,vi (.i Y)),(8,.ptr 1024 0),(10,.ptr 1280 0)],[(1024,eBox (.i 2) (.i X) (.i 4) (.i 0) (.i s1)),(1280,mO (.i 2) (.i 8) (.s (ByteArray.mk #[])) (.l (tb2 X Y 4 s1 s2))),
    (8552458,.arr 73 []),(8552460,.arr 77 []),(8552462,.arr 3 [])]⟩
   (seenS [5,8,10,11,13] [1024,1280] fun e σ=>e = .normal∧σ=⟨[(5,vf (.l F)),(8,.ptr 1024 0),(10,.ptr 1280 0),(11,vb (.b (meetR Y 4 X 4))),(13,vi (.i (bif meetR Y 4 X 4 then 1 else 0)))],
     [(1024,eBox (.i 2) (.i X) (.i 4) (.i 0) (.i s1)),(1280,mBox (.i 2) (.i 8) (.s (ByteArray.mk #[])) (.l (tb2 X Y 4 s1 s2)) (.l []) (.l []) (.l []))]⟩)):=by
  refine .eq (sh_C _ (.l F) (.i X) (.i Y) (.i 2) (.i X) (.i 4) (.i 0) (.i s1) (.i 2) (.i 8) (.s (ByteArray.mk #[])) (.l (tb2 X Y 4 s1 s2))) ?_
  have hwX':IntKind.wrap .i64 (U.int (.i X) + 4)=X + 4:=hwX
  have hwY':IntKind.wrap .i64 (U.int (.i Y) + 4)=Y + 4:=hwY
  rw [hM,hwX',hwY']
  simp only [cond_true,Int.toNat_zero,List.drop_zero,Int.zero_add,hcn,U.int_i]
  rw [hmeet]
  cases (X != Y) with
  | true=>
   simp only [cond_true]
   refine bd (fun h=>?_) (fun h=>?_)
   ·simp only [decide_eq_true (show X < Y + 4 from h),cond_true]
    exact ⟨mg,⟨⟨by trivial,by trivial,by trivial,by trivial,by trivial,by trivial,by trivial,by trivial⟩,by trivial,by trivial,by omega,by omega,by omega,hfl⟩,by trivial,by trivial⟩
   ·simp only [decide_eq_false (show ¬ X < Y + 4 from h),cond_false]
    exact ⟨mg,⟨⟨by trivial,by trivial,by trivial,by trivial,by trivial,by trivial,by trivial,by trivial⟩,by trivial,by trivial,by omega,by omega,by omega,hfl⟩,by trivial,by trivial⟩
  | false=>
   simp only [cond_false]
   exact ⟨mg,⟨⟨by trivial,by trivial,by trivial,by trivial,by trivial,by trivial,by trivial,by trivial⟩,by trivial,by trivial,by omega,by omega,by omega,hfl⟩,by trivial,by trivial⟩
 refine piece_on shC_ok rfl rfl (fun _ h=>h) (rest:=dropC 11 shB) hP hpan (by kernel_rfl) (by kernel_rfl) (by kernel_rfl) (loops_one (by kernel_rfl) sh_loop) S2 hC fun a3 w3 Z3 G3 S3=>?_
 clear hC S2
 have hwo:=two_mended hmx hmy hF hrx hry
 have hD:Holds (exec shC (takeC 0 (dropC 11 shB)) 0 ⟨[(5,vf (.l F)),(8,.ptr 1024 0),(10,.ptr 1280 0),(11,vb (.b (meetR Y 4 X 4))),(13,vi (.i (bif meetR Y 4 X 4 then 1 else 0)))],
    [(1024,eBox (.i 2) (.i X) (.i 4) (.i 0) (.i s1)),(1280,mBox (.i 2) (.i 8) (.s (ByteArray.mk #[])) (.l (tb2 X Y 4 s1 s2)) (.l []) (.l []) (.l []))]⟩
   (seenS [8,11,13,15,16] [1024,1920] fun e σ=>e = .normal∧σ=⟨[(8,.ptr 1024 0),(11,vb (.b (meetR Y 4 X 4))),(13,vi (.i (bif meetR Y 4 X 4 then 1 else 0))),(15,.ptr 1920 0),(16,vi (.i 0))],
     [(1024,eBox (.i 2) (.i X) (.i 4) (.i 0) (.i s1)),(1920,mBox (.i 2) (.i 8) (.s (ByteArray.mk #[])) (.l (bif meetR Y 4 X 4 then tb2z X s1 else tb2 X Y 4 s1 s2)) (.l ((woU (.i 2) (.i 8) (.s (ByteArray.mk #[])) (.l (tb2 X Y 4 s1 s2)) (.l []) (.l []) (.l []) (.l F)).2.map cutSh)) (.l [])
       (.l (ofV (okM (.i 2) (.i 8) (.s (ByteArray.mk #[])) (.l (tb2 X Y 4 s1 s2)) (.l []) (.l []) (.l []) (.l F)) (szU (.l F)).toNat)))]⟩)):=by
  refine .eq (sh_D _ (.l F) (.i (bif meetR Y 4 X 4 then 1 else 0)) (.b (meetR Y 4 X 4)) (.i 2) (.i X) (.i 4) (.i 0) (.i s1) (.i 2) (.i 8) (.s (ByteArray.mk #[])) (.l (tb2 X Y 4 s1 s2)) (.l []) (.l []) (.l [])) ?_
  rw [hM]
  simp only [cond_true,hwo]
  exact ⟨⟨mg,fun x hx=>by cases hx⟩,by trivial,rfl⟩
 refine piece_on shC_ok rfl rfl (fun _ h=>h) (rest:=dropC 12 shB) hP hpan (by kernel_rfl) (by kernel_rfl) (by kernel_rfl) (noloops (by kernel_rfl)) S3 hD fun a4 w4 Z4 G4 S4=>?_
 clear hD S3
 generalize U.l (List.map cutSh _)=Sh' at S4
 generalize U.l (ofV _ _)=Q' at S4
 generalize meetR Y 4 X 4=m at S4
 have hE:Holds (exec shC (dropC 12 shB) 0 ⟨[(8,.ptr 1024 0),(11,vb (.b m)),(13,vi (.i (bif m then 1 else 0))),(15,.ptr 1920 0),(16,vi (.i 0))],
    [(1024,eBox (.i 2) (.i X) (.i 4) (.i 0) (.i s1)),(1920,mBox (.i 2) (.i 8) (.s (ByteArray.mk #[])) (.l (bif m then tb2z X s1 else tb2 X Y 4 s1 s2)) Sh' (.l []) Q')]⟩ (seenS [4] [] fun e σ=>e = .ret∧σ=⟨[(4,vb (.b true))],[]⟩)):=by
  refine .eq (sh_E _ (.i (bif m then 1 else 0)) (.b m) (.i 0) (.i 2) (.i X) (.i 4) (.i 0) (.i s1) (.i 2) (.i 8) (.s (ByteArray.mk #[])) (.l (bif m then tb2z X s1 else tb2 X Y 4 s1 s2)) Sh' (.l []) Q') ?_
  cases m with
  | true=>
   refine bt rfl (bt rfl (bt rfl (bt (by kernel_rfl) (bt ?_ ⟨rfl,rfl⟩))))
   show ((2:Int) == 2 && (X == X && ((4:Int) == 4 && ((0:Int) == 0 && (s1 == s1 && true)))))=true
   simp
  | false=>
   refine bt rfl (bt rfl (bt rfl (bt (by kernel_rfl) (bt ?_ ⟨rfl,rfl⟩))))
   show ((2:Int) == 2 && (X == X && ((4:Int) == 4 && ((0:Int) == 0 && (s1 == s1 && true)))))=true
   simp
 refine piece_end shC_ok rfl rfl (fun _ h=>h) hP hpan (by kernel_rfl) (noloops (by kernel_rfl)) S4 hE fun a5 w5 Z5 G5 S5=>?_
 exact hend a5 w5 S5.calm (S5.slot 4) S5.fut
theorem shares_ok:SpecF PR 6 tA15:=fun fn us hfn=>by
 have hf:PR.funcs[(6:Nat)]? = some Try.f6:=by kernel_rfl
 rw [hf] at hfn;cases hfn
 refine fn_walk (code:=shB) hf (by kernel_rfl) (by kernel_rfl) (Nat.le_of_ble_eq_true (by kernel_rfl)) fun hok=>?_
 have hp:Try.f6.params.toList=[5,5]:=by kernel_rfl
 rw [hp] at hok
 obtain ⟨x,y,hus⟩:∃ x y,us=[[x],[y]]:=by
  obtain ⟨u,u2,rfl,h1,h2⟩:=shape2 (by kernel_rfl:Cs PR 5=some (false,[.int .u8])) (by kernel_rfl:Cs PR 5=some (false,[.int .u8])) hok.1
  obtain ⟨x,rfl⟩:=len1 h1
  obtain ⟨y,rfl⟩:=len1 h2
  exact ⟨x,y,rfl⟩
 subst hus
 have hok2:=hok.2 [.val (.int .u8) x,.val (.int .u8) y] (by kernel_rfl)
 refine ⟨[(0,.val (.int .u8) x),(1,.val (.int .u8) y)],by kernel_rfl,fun a w Z hZ Sm=>?_⟩
 refine sh_walk hok2.1 hok2.2.1 Sm (fun _ _ _ d _ h=>by cases d<;>exact h) fun a' w' h1 h2 h3=>?_
 have hres:Try.f6.results = #[.tmp 4]:=by kernel_rfl
 exact ends_bool (t:=4) (fun a=>results_at hres) (by kernel_rfl) h1 h2 h3 hZ
end Go.Mat
