/- A part of the proof of this: a byte of a cluster that is turned makes that entry bad, and no other one. Conditions: none. Joined of B110, F111, B86T, F86T, B112, F112, B113, F113, DenRO, B115, F114, F115, F116, F119, DenRP, F120, DenRQ, B122, F122, F123, F124. -/
import Derived.Test.YtjleagfibbbjnaaC5
import Derived.KernelRfl
namespace Go.Mat
open Go Go.Den Go.Proofs
def whU (F:U):List U:=List.take (min (List.length F.list / (16:Nat)) (65536:Nat) * (16:Nat)) F.list
def bdU (c z s T Sh M Q F:U):List U:=Prod.fst (badL (whU F) c.int (linesX [[c,z,s,T,Sh,M,Q],[U.l (whU F)]]))
def woU (c z s T Sh M Q F:U):List U × List U:=woOf (U.i 1) (U.i 0) (U.i 0) (U.i 0) (U.i 0) T.list Sh.list (bdU c z s T Sh M Q F)
def szU (F:U):Int:=IntKind.wrap IntKind.i64 (Int.tdiv (List.length (whU F):Int) 16)
def flBad (p:U):U:=.l [.i 1,nth (.i 0) p.list.tail 0,nth (.i 0) p.list 0]
def flCnt (size:Int) (Q:List U) (i:Int) (x:U):List U:=
 bif decide ((bif decide (i < (Q.length:Int)) then (U.at Q i.toNat).int else 0) < (bif decide (i ≥ size) then 0 else x.int)) then [.l [.i 2,.i i,.i 0]]
 else bif decide ((bif decide (i < (Q.length:Int)) then (U.at Q i.toNat).int else 0) > (bif decide (i ≥ size) then 0 else x.int)) then [.l [.i 3,.i i,.i 0]] else []
def flCnts (size:Int) (Q:List U):Int→List U→List U
 | _,[]=>[]
 | i,x :: r=>flCnt size Q i x ++ flCnts size Q (i + 1) r
noncomputable def faLoop0:LoopF:=fun _ svs os k=>match svs,os with
 | [.val (.int .i64) i,.val (.int .i64) n,.val (.sl true x0) L,.own o,.ptr p q,.val (.sl false [.int .u8]) F,.val (.sl true x4) L5],[.arr t X,.box [.val (.int .i64) c,.val (.int .i64) z,.val .str s,.val (.sl false [.sl true x1]) T,.val (.sl true x3) Sh,.val (.sl true x2) M,.val (.sl false [.int .i64]) Q]]=>
  ((x0=PPC∧o=892∧p=256∧q=0∧x4=PPC∧t=47∧x1=EC∧x3=SC∧x2=BC)∧n.int=(L.list.length:Int)∧0≤i.int∧i.int≤n.int∧X.length + L.list.length≤1073741823 + i.int.toNat)∧
  k (.exit 0) ⟨[(6,.own 892),(2,.ptr 256 0),(1,.val (.sl false [.int .u8]) F),(5,vt PPC L5)],[(892,.arr 47 (X ++ (L.list.drop i.int.toNat).map flBad)),(256,.box [vi c,vi z,vs s,.val TRC T,vt SC Sh,vt BC M,vl (.int .i64) Q])]⟩
 | _,_=>False
noncomputable def faLoop2:LoopF:=fun _ svs os k=>match svs,os with
 | [.val (.int .i64) i,.val (.int .i64) n,.val (.sl false [.int .i64]) L,.own o,.ptr p q,.val (.int .i64) sz],[.arr t X,.box [.val (.int .i64) c,.val (.int .i64) z,.val .str s,.val (.sl false [.sl true x1]) T,.val (.sl true x3) Sh,.val (.sl true x2) M,.val (.sl false [.int .i64]) Q]]=>
  ((i = .i i.int∧o=892∧p=256∧q=0∧t=47∧x1=EC∧x3=SC∧x2=BC)∧n.int=(L.list.length:Int)∧0≤i.int∧i.int≤n.int∧X.length + L.list.length≤1073741823 + i.int.toNat)∧
  k (.exit 2) ⟨[(6,.own 892)],[(892,.arr 47 (X ++ flCnts sz.int Q.list i.int (L.list.drop i.int.toNat)))]⟩
 | _,_=>False
noncomputable def faC:Ctx:=mkC PR eqs0 (fnsCons 37 metaS (fnsCons 38 wholeS (fnsConsP 39 badP badS (fnsConsP 40 ofP ofS fnsNil)))) (trsCons 41 [] woF trsNil)
 (loopCons 0 [24,23,22,6,2,1,5] [892,256] faLoop0 (loopCons 2 [52,51,50,6,2,9] [892,256] faLoop2 noLoops)) (outCons 0 [6,2,1,5] [892,256] (outCons 2 [6] [892] noOut)) noOut
theorem fa_round0 (pan:KP) (μ:Mu) (N:Nat) (k:KE) (i n L F L5 c z s T Sh M Q:U) (X:List U):(exec (faC.panics pan) (loopBody Try.f15 0) 0 ⟨[(24,vi i),(23,vi n),(22,vt PPC L),(6,.own 892),(2,.ptr 256 0),(1,.val (.sl false [.int .u8]) F),(5,vt PPC L5)],[(892,.arr 47 X),(256,.box [vi c,vi z,vs s,.val TRC T,vt SC Sh,vt BC M,vl (.int .i64) Q])]⟩ (again PR (some ([6,2,1,5],[892,256])) none pan [24,23,22,6,2,1,5] [892,256] faLoop0 μ N k))=(bif decide (i.int < n.int) then bif decide ((0:Int)≤i.int∧i.int < (L.list.length:Int)) then bif decide (List.length X + 1≤room) && true then bif Nat.blt (μ [vi (U.i (IntKind.wrap .i64 (i.int + 1))),vi n,.val (.sl true PPC) L,.own 892,.ptr 256 0,.val (.sl false [.int .u8]) F,.val (.sl true PPC) L5] [.arr 47 (X ++ [U.l [U.i 1,nth (U.i 0) (List.tail (U.list (nth (U.i 0) L.list (Int.toNat i.int)))) (0:Nat),nth (U.i 0) (U.list (nth (U.i 0) L.list (Int.toNat i.int))) (0:Nat)]]),.box [vi c,vi z,.val .str s,.val (.sl false [.sl true EC]) T,.val (.sl true [.str,.int .i64,Ct.sl false [.sl true EC]]) Sh,.val (.sl true [.str,Ct.bool,Ct.sl true PPC]) M,.val (.sl false [.int .i64]) Q]]) N then ((PPC=PPC∧nat_lit 892=nat_lit 892∧nat_lit 256=nat_lit 256∧nat_lit 0=nat_lit 0∧PPC=PPC∧nat_lit 47=nat_lit 47∧EC=EC∧[Ct.str,.int .i64,Ct.sl false [Ct.sl true EC]]=[.str,.int .i64,Ct.sl false [.sl true EC]]∧[Ct.str,Ct.bool,Ct.sl true PPC]=[.str,Ct.bool,Ct.sl true PPC])∧n.int=(L.list.length:Int)∧(0:Int)≤IntKind.wrap .i64 (i.int + 1)∧IntKind.wrap .i64 (i.int + 1)≤n.int∧List.length (X ++ [U.l [U.i 1,nth (U.i 0) (List.tail (U.list (nth (U.i 0) L.list (Int.toNat i.int)))) (0:Nat),nth (U.i 0) (U.list (nth (U.i 0) L.list (Int.toNat i.int))) (0:Nat)]]) + L.list.length≤(1073741823:Nat) + Int.toNat (IntKind.wrap .i64 (i.int + 1)))∧k (Ex.exit 0) (St.mk [(6,.own 892),(2,.ptr 256 0),(1,.val (.sl false [.int .u8]) F),(5,.val (.sl true PPC) L5)] [(892,.arr 47 (X ++ [U.l [U.i 1,nth (U.i 0) (List.tail (U.list (nth (U.i 0) L.list (Int.toNat i.int)))) (0:Nat),nth (U.i 0) (U.list (nth (U.i 0) L.list (Int.toNat i.int))) (0:Nat)]] ++ List.map flBad (List.drop (Int.toNat (IntKind.wrap .i64 (i.int + 1))) L.list))),(256,.box [vi c,vi z,.val .str s,.val (.sl false [.sl true EC]) T,.val (.sl true [.str,.int .i64,Ct.sl false [.sl true EC]]) Sh,.val (.sl true [.str,Ct.bool,Ct.sl true PPC]) M,.val (.sl false [.int .i64]) Q])]) else False else False else False else k (Ex.exit 0) (St.mk [(6,.own 892),(2,.ptr 256 0),(1,.val (.sl false [.int .u8]) F),(5,.val (.sl true PPC) L5)] [(892,.arr 47 X),(256,.box [vi c,vi z,.val .str s,.val (.sl false [.sl true EC]) T,.val (.sl true [.str,.int .i64,Ct.sl false [.sl true EC]]) Sh,.val (.sl true [.str,Ct.bool,Ct.sl true PPC]) M,.val (.sl false [.int .i64]) Q])])):=by kernel_rfl
theorem fa_round2 (pan:KP) (μ:Mu) (N:Nat) (k:KE) (i n L sz c z s T Sh M Q:U) (X:List U):(exec (faC.panics pan) (loopBody Try.f15 1) 2 ⟨[(52,vi i),(51,vi n),(50,.val (.sl false [.int .i64]) L),(6,.own 892),(2,.ptr 256 0),(9,vi sz)],[(892,.arr 47 X),(256,.box [vi c,vi z,vs s,.val TRC T,vt SC Sh,vt BC M,vl (.int .i64) Q])]⟩ (again PR (some ([6],[892])) none pan [52,51,50,6,2,9] [892,256] faLoop2 μ N k))=(bif decide (i.int < n.int) then bif decide ((0:Int)≤i.int∧i.int < (L.list.length:Int)) then bif decide (i.int ≥ sz.int) then bif decide (i.int < (Q.list.length:Int)) then bif decide ((0:Int)≤i.int∧i.int < (Q.list.length:Int)) then bif decide (U.int (nth (U.i 0) Q.list (Int.toNat i.int)) < 0) then bif decide (List.length X + 1≤room) && true then bif Nat.blt (μ [vi (U.i (IntKind.wrap .i64 (i.int + 1))),vi n,.val (.sl false [.int .i64]) L,.own 892,.ptr 256 0,vi sz] [.arr 47 (X ++ [U.l [U.i 2,i,U.i 0]]),.box [vi c,vi z,.val .str s,.val (.sl false [.sl true EC]) T,.val (.sl true [.str,.int .i64,Ct.sl false [.sl true EC]]) Sh,.val (.sl true [.str,Ct.bool,Ct.sl true PPC]) M,.val (.sl false [.int .i64]) Q]]) N then ((U.i (IntKind.wrap .i64 (i.int + 1))=U.i (IntKind.wrap .i64 (i.int + 1))∧nat_lit 892=nat_lit 892∧nat_lit 256=nat_lit 256∧nat_lit 0=nat_lit 0∧nat_lit 47=nat_lit 47∧EC=EC∧[Ct.str,.int .i64,Ct.sl false [Ct.sl true EC]]=[.str,.int .i64,Ct.sl false [.sl true EC]]∧[Ct.str,Ct.bool,Ct.sl true PPC]=[.str,Ct.bool,Ct.sl true PPC])∧n.int=(L.list.length:Int)∧(0:Int)≤IntKind.wrap .i64 (i.int + 1)∧IntKind.wrap .i64 (i.int + 1)≤n.int∧List.length (X ++ [U.l [U.i 2,i,U.i 0]]) + L.list.length≤(1073741823:Nat) + Int.toNat (IntKind.wrap .i64 (i.int + 1)))∧k (Ex.exit 2) (St.mk [(6,.own 892)] [(892,.arr 47 (X ++ [U.l [U.i 2,i,U.i 0]] ++ flCnts sz.int Q.list (IntKind.wrap .i64 (i.int + 1)) (List.drop (Int.toNat (IntKind.wrap .i64 (i.int + 1))) L.list)))]) else False else False else bif decide (U.int (nth (U.i 0) Q.list (Int.toNat i.int)) > 0) then bif decide (List.length X + 1≤room) && true then bif Nat.blt (μ [vi (U.i (IntKind.wrap .i64 (i.int + 1))),vi n,.val (.sl false [.int .i64]) L,.own 892,.ptr 256 0,vi sz] [.arr 47 (X ++ [U.l [U.i 3,i,U.i 0]]),.box [vi c,vi z,.val .str s,.val (.sl false [.sl true EC]) T,.val (.sl true [.str,.int .i64,Ct.sl false [.sl true EC]]) Sh,.val (.sl true [.str,Ct.bool,Ct.sl true PPC]) M,.val (.sl false [.int .i64]) Q]]) N then ((U.i (IntKind.wrap .i64 (i.int + 1))=U.i (IntKind.wrap .i64 (i.int + 1))∧nat_lit 892=nat_lit 892∧nat_lit 256=nat_lit 256∧nat_lit 0=nat_lit 0∧nat_lit 47=nat_lit 47∧EC=EC∧[Ct.str,.int .i64,Ct.sl false [Ct.sl true EC]]=[.str,.int .i64,Ct.sl false [.sl true EC]]∧[Ct.str,Ct.bool,Ct.sl true PPC]=[.str,Ct.bool,Ct.sl true PPC])∧n.int=(L.list.length:Int)∧(0:Int)≤IntKind.wrap .i64 (i.int + 1)∧IntKind.wrap .i64 (i.int + 1)≤n.int∧List.length (X ++ [U.l [U.i 3,i,U.i 0]]) + L.list.length≤(1073741823:Nat) + Int.toNat (IntKind.wrap .i64 (i.int + 1)))∧k (Ex.exit 2) (St.mk [(6,.own 892)] [(892,.arr 47 (X ++ [U.l [U.i 3,i,U.i 0]] ++ flCnts sz.int Q.list (IntKind.wrap .i64 (i.int + 1)) (List.drop (Int.toNat (IntKind.wrap .i64 (i.int + 1))) L.list)))]) else False else False else bif Nat.blt (μ [vi (U.i (IntKind.wrap .i64 (i.int + 1))),vi n,.val (.sl false [.int .i64]) L,.own 892,.ptr 256 0,vi sz] [.arr 47 X,.box [vi c,vi z,.val .str s,.val (.sl false [.sl true EC]) T,.val (.sl true [.str,.int .i64,Ct.sl false [.sl true EC]]) Sh,.val (.sl true [.str,Ct.bool,Ct.sl true PPC]) M,.val (.sl false [.int .i64]) Q]]) N then ((U.i (IntKind.wrap .i64 (i.int + 1))=U.i (IntKind.wrap .i64 (i.int + 1))∧nat_lit 892=nat_lit 892∧nat_lit 256=nat_lit 256∧nat_lit 0=nat_lit 0∧nat_lit 47=nat_lit 47∧EC=EC∧[Ct.str,.int .i64,Ct.sl false [Ct.sl true EC]]=[.str,.int .i64,Ct.sl false [.sl true EC]]∧[Ct.str,Ct.bool,Ct.sl true PPC]=[.str,Ct.bool,Ct.sl true PPC])∧n.int=(L.list.length:Int)∧(0:Int)≤IntKind.wrap .i64 (i.int + 1)∧IntKind.wrap .i64 (i.int + 1)≤n.int∧List.length X + L.list.length≤(1073741823:Nat) + Int.toNat (IntKind.wrap .i64 (i.int + 1)))∧k (Ex.exit 2) (St.mk [(6,.own 892)] [(892,.arr 47 (X ++ flCnts sz.int Q.list (IntKind.wrap .i64 (i.int + 1)) (List.drop (Int.toNat (IntKind.wrap .i64 (i.int + 1))) L.list)))]) else False else False else bif Nat.blt (μ [vi (U.i (IntKind.wrap .i64 (i.int + 1))),vi n,.val (.sl false [.int .i64]) L,.own 892,.ptr 256 0,vi sz] [.arr 47 X,.box [vi c,vi z,.val .str s,.val (.sl false [.sl true EC]) T,.val (.sl true [.str,.int .i64,Ct.sl false [.sl true EC]]) Sh,.val (.sl true [.str,Ct.bool,Ct.sl true PPC]) M,.val (.sl false [.int .i64]) Q]]) N then ((U.i (IntKind.wrap .i64 (i.int + 1))=U.i (IntKind.wrap .i64 (i.int + 1))∧nat_lit 892=nat_lit 892∧nat_lit 256=nat_lit 256∧nat_lit 0=nat_lit 0∧nat_lit 47=nat_lit 47∧EC=EC∧[Ct.str,.int .i64,Ct.sl false [Ct.sl true EC]]=[.str,.int .i64,Ct.sl false [.sl true EC]]∧[Ct.str,Ct.bool,Ct.sl true PPC]=[.str,Ct.bool,Ct.sl true PPC])∧n.int=(L.list.length:Int)∧(0:Int)≤IntKind.wrap .i64 (i.int + 1)∧IntKind.wrap .i64 (i.int + 1)≤n.int∧List.length X + L.list.length≤(1073741823:Nat) + Int.toNat (IntKind.wrap .i64 (i.int + 1)))∧k (Ex.exit 2) (St.mk [(6,.own 892)] [(892,.arr 47 (X ++ flCnts sz.int Q.list (IntKind.wrap .i64 (i.int + 1)) (List.drop (Int.toNat (IntKind.wrap .i64 (i.int + 1))) L.list)))]) else False else bif decide (i.int < (Q.list.length:Int)) then bif decide ((0:Int)≤i.int∧i.int < (Q.list.length:Int)) then bif decide (U.int (nth (U.i 0) Q.list (Int.toNat i.int)) < U.int (nth (U.i 0) L.list (Int.toNat i.int))) then bif decide (List.length X + 1≤room) && true then bif Nat.blt (μ [vi (U.i (IntKind.wrap .i64 (i.int + 1))),vi n,.val (.sl false [.int .i64]) L,.own 892,.ptr 256 0,vi sz] [.arr 47 (X ++ [U.l [U.i 2,i,U.i 0]]),.box [vi c,vi z,.val .str s,.val (.sl false [.sl true EC]) T,.val (.sl true [.str,.int .i64,Ct.sl false [.sl true EC]]) Sh,.val (.sl true [.str,Ct.bool,Ct.sl true PPC]) M,.val (.sl false [.int .i64]) Q]]) N then ((U.i (IntKind.wrap .i64 (i.int + 1))=U.i (IntKind.wrap .i64 (i.int + 1))∧nat_lit 892=nat_lit 892∧nat_lit 256=nat_lit 256∧nat_lit 0=nat_lit 0∧nat_lit 47=nat_lit 47∧EC=EC∧[Ct.str,.int .i64,Ct.sl false [Ct.sl true EC]]=[.str,.int .i64,Ct.sl false [.sl true EC]]∧[Ct.str,Ct.bool,Ct.sl true PPC]=[.str,Ct.bool,Ct.sl true PPC])∧n.int=(L.list.length:Int)∧(0:Int)≤IntKind.wrap .i64 (i.int + 1)∧IntKind.wrap .i64 (i.int + 1)≤n.int∧List.length (X ++ [U.l [U.i 2,i,U.i 0]]) + L.list.length≤(1073741823:Nat) + Int.toNat (IntKind.wrap .i64 (i.int + 1)))∧k (Ex.exit 2) (St.mk [(6,.own 892)] [(892,.arr 47 (X ++ [U.l [U.i 2,i,U.i 0]] ++ flCnts sz.int Q.list (IntKind.wrap .i64 (i.int + 1)) (List.drop (Int.toNat (IntKind.wrap .i64 (i.int + 1))) L.list)))]) else False else False else bif decide (U.int (nth (U.i 0) Q.list (Int.toNat i.int)) > U.int (nth (U.i 0) L.list (Int.toNat i.int))) then bif decide (List.length X + 1≤room) && true then bif Nat.blt (μ [vi (U.i (IntKind.wrap .i64 (i.int + 1))),vi n,.val (.sl false [.int .i64]) L,.own 892,.ptr 256 0,vi sz] [.arr 47 (X ++ [U.l [U.i 3,i,U.i 0]]),.box [vi c,vi z,.val .str s,.val (.sl false [.sl true EC]) T,.val (.sl true [.str,.int .i64,Ct.sl false [.sl true EC]]) Sh,.val (.sl true [.str,Ct.bool,Ct.sl true PPC]) M,.val (.sl false [.int .i64]) Q]]) N then ((U.i (IntKind.wrap .i64 (i.int + 1))=U.i (IntKind.wrap .i64 (i.int + 1))∧nat_lit 892=nat_lit 892∧nat_lit 256=nat_lit 256∧nat_lit 0=nat_lit 0∧nat_lit 47=nat_lit 47∧EC=EC∧[Ct.str,.int .i64,Ct.sl false [Ct.sl true EC]]=[.str,.int .i64,Ct.sl false [.sl true EC]]∧[Ct.str,Ct.bool,Ct.sl true PPC]=[.str,Ct.bool,Ct.sl true PPC])∧n.int=(L.list.length:Int)∧(0:Int)≤IntKind.wrap .i64 (i.int + 1)∧IntKind.wrap .i64 (i.int + 1)≤n.int∧List.length (X ++ [U.l [U.i 3,i,U.i 0]]) + L.list.length≤(1073741823:Nat) + Int.toNat (IntKind.wrap .i64 (i.int + 1)))∧k (Ex.exit 2) (St.mk [(6,.own 892)] [(892,.arr 47 (X ++ [U.l [U.i 3,i,U.i 0]] ++ flCnts sz.int Q.list (IntKind.wrap .i64 (i.int + 1)) (List.drop (Int.toNat (IntKind.wrap .i64 (i.int + 1))) L.list)))]) else False else False else bif Nat.blt (μ [vi (U.i (IntKind.wrap .i64 (i.int + 1))),vi n,.val (.sl false [.int .i64]) L,.own 892,.ptr 256 0,vi sz] [.arr 47 X,.box [vi c,vi z,.val .str s,.val (.sl false [.sl true EC]) T,.val (.sl true [.str,.int .i64,Ct.sl false [.sl true EC]]) Sh,.val (.sl true [.str,Ct.bool,Ct.sl true PPC]) M,.val (.sl false [.int .i64]) Q]]) N then ((U.i (IntKind.wrap .i64 (i.int + 1))=U.i (IntKind.wrap .i64 (i.int + 1))∧nat_lit 892=nat_lit 892∧nat_lit 256=nat_lit 256∧nat_lit 0=nat_lit 0∧nat_lit 47=nat_lit 47∧EC=EC∧[Ct.str,.int .i64,Ct.sl false [Ct.sl true EC]]=[.str,.int .i64,Ct.sl false [.sl true EC]]∧[Ct.str,Ct.bool,Ct.sl true PPC]=[.str,Ct.bool,Ct.sl true PPC])∧n.int=(L.list.length:Int)∧(0:Int)≤IntKind.wrap .i64 (i.int + 1)∧IntKind.wrap .i64 (i.int + 1)≤n.int∧List.length X + L.list.length≤(1073741823:Nat) + Int.toNat (IntKind.wrap .i64 (i.int + 1)))∧k (Ex.exit 2) (St.mk [(6,.own 892)] [(892,.arr 47 (X ++ flCnts sz.int Q.list (IntKind.wrap .i64 (i.int + 1)) (List.drop (Int.toNat (IntKind.wrap .i64 (i.int + 1))) L.list)))]) else False else False else bif decide ((0:Int) < U.int (nth (U.i 0) L.list (Int.toNat i.int))) then bif decide (List.length X + 1≤room) && true then bif Nat.blt (μ [vi (U.i (IntKind.wrap .i64 (i.int + 1))),vi n,.val (.sl false [.int .i64]) L,.own 892,.ptr 256 0,vi sz] [.arr 47 (X ++ [U.l [U.i 2,i,U.i 0]]),.box [vi c,vi z,.val .str s,.val (.sl false [.sl true EC]) T,.val (.sl true [.str,.int .i64,Ct.sl false [.sl true EC]]) Sh,.val (.sl true [.str,Ct.bool,Ct.sl true PPC]) M,.val (.sl false [.int .i64]) Q]]) N then ((U.i (IntKind.wrap .i64 (i.int + 1))=U.i (IntKind.wrap .i64 (i.int + 1))∧nat_lit 892=nat_lit 892∧nat_lit 256=nat_lit 256∧nat_lit 0=nat_lit 0∧nat_lit 47=nat_lit 47∧EC=EC∧[Ct.str,.int .i64,Ct.sl false [Ct.sl true EC]]=[.str,.int .i64,Ct.sl false [.sl true EC]]∧[Ct.str,Ct.bool,Ct.sl true PPC]=[.str,Ct.bool,Ct.sl true PPC])∧n.int=(L.list.length:Int)∧(0:Int)≤IntKind.wrap .i64 (i.int + 1)∧IntKind.wrap .i64 (i.int + 1)≤n.int∧List.length (X ++ [U.l [U.i 2,i,U.i 0]]) + L.list.length≤(1073741823:Nat) + Int.toNat (IntKind.wrap .i64 (i.int + 1)))∧k (Ex.exit 2) (St.mk [(6,.own 892)] [(892,.arr 47 (X ++ [U.l [U.i 2,i,U.i 0]] ++ flCnts sz.int Q.list (IntKind.wrap .i64 (i.int + 1)) (List.drop (Int.toNat (IntKind.wrap .i64 (i.int + 1))) L.list)))]) else False else False else bif decide ((0:Int) > U.int (nth (U.i 0) L.list (Int.toNat i.int))) then bif decide (List.length X + 1≤room) && true then bif Nat.blt (μ [vi (U.i (IntKind.wrap .i64 (i.int + 1))),vi n,.val (.sl false [.int .i64]) L,.own 892,.ptr 256 0,vi sz] [.arr 47 (X ++ [U.l [U.i 3,i,U.i 0]]),.box [vi c,vi z,.val .str s,.val (.sl false [.sl true EC]) T,.val (.sl true [.str,.int .i64,Ct.sl false [.sl true EC]]) Sh,.val (.sl true [.str,Ct.bool,Ct.sl true PPC]) M,.val (.sl false [.int .i64]) Q]]) N then ((U.i (IntKind.wrap .i64 (i.int + 1))=U.i (IntKind.wrap .i64 (i.int + 1))∧nat_lit 892=nat_lit 892∧nat_lit 256=nat_lit 256∧nat_lit 0=nat_lit 0∧nat_lit 47=nat_lit 47∧EC=EC∧[Ct.str,.int .i64,Ct.sl false [Ct.sl true EC]]=[.str,.int .i64,Ct.sl false [.sl true EC]]∧[Ct.str,Ct.bool,Ct.sl true PPC]=[.str,Ct.bool,Ct.sl true PPC])∧n.int=(L.list.length:Int)∧(0:Int)≤IntKind.wrap .i64 (i.int + 1)∧IntKind.wrap .i64 (i.int + 1)≤n.int∧List.length (X ++ [U.l [U.i 3,i,U.i 0]]) + L.list.length≤(1073741823:Nat) + Int.toNat (IntKind.wrap .i64 (i.int + 1)))∧k (Ex.exit 2) (St.mk [(6,.own 892)] [(892,.arr 47 (X ++ [U.l [U.i 3,i,U.i 0]] ++ flCnts sz.int Q.list (IntKind.wrap .i64 (i.int + 1)) (List.drop (Int.toNat (IntKind.wrap .i64 (i.int + 1))) L.list)))]) else False else False else bif Nat.blt (μ [vi (U.i (IntKind.wrap .i64 (i.int + 1))),vi n,.val (.sl false [.int .i64]) L,.own 892,.ptr 256 0,vi sz] [.arr 47 X,.box [vi c,vi z,.val .str s,.val (.sl false [.sl true EC]) T,.val (.sl true [.str,.int .i64,Ct.sl false [.sl true EC]]) Sh,.val (.sl true [.str,Ct.bool,Ct.sl true PPC]) M,.val (.sl false [.int .i64]) Q]]) N then ((U.i (IntKind.wrap .i64 (i.int + 1))=U.i (IntKind.wrap .i64 (i.int + 1))∧nat_lit 892=nat_lit 892∧nat_lit 256=nat_lit 256∧nat_lit 0=nat_lit 0∧nat_lit 47=nat_lit 47∧EC=EC∧[Ct.str,.int .i64,Ct.sl false [Ct.sl true EC]]=[.str,.int .i64,Ct.sl false [.sl true EC]]∧[Ct.str,Ct.bool,Ct.sl true PPC]=[.str,Ct.bool,Ct.sl true PPC])∧n.int=(L.list.length:Int)∧(0:Int)≤IntKind.wrap .i64 (i.int + 1)∧IntKind.wrap .i64 (i.int + 1)≤n.int∧List.length X + L.list.length≤(1073741823:Nat) + Int.toNat (IntKind.wrap .i64 (i.int + 1)))∧k (Ex.exit 2) (St.mk [(6,.own 892)] [(892,.arr 47 (X ++ flCnts sz.int Q.list (IntKind.wrap .i64 (i.int + 1)) (List.drop (Int.toNat (IntKind.wrap .i64 (i.int + 1))) L.list)))]) else False else False else k (Ex.exit 2) (St.mk [(6,.own 892)] [(892,.arr 47 X)])):=by kernel_rfl
theorem fa_tree (R:RF) (c z s T Sh M Q F:U):(run faC Try.f15 [[c,z,s,T,Sh,M,Q],[F]] R)=(bif !metaR c z s T Sh M Q then R [[U.l []]] else badP [[c,z,s,T,Sh,M,Q],[U.l (whU F)]]∧((PPC=PPC∧nat_lit 892=nat_lit 892∧nat_lit 256=nat_lit 256∧nat_lit 0=nat_lit 0∧PPC=PPC∧nat_lit 47=nat_lit 47∧EC=EC∧[Ct.str,.int .i64,Ct.sl false [Ct.sl true EC]]=[.str,.int .i64,Ct.sl false [.sl true EC]]∧[Ct.str,Ct.bool,Ct.sl true PPC]=[.str,Ct.bool,Ct.sl true PPC])∧(↑(List.length (bdU c z s T Sh M Q F)):Int)=(↑(List.length (bdU c z s T Sh M Q F)):Int)∧(0:Int)≤0∧(0:Int)≤(↑(List.length (bdU c z s T Sh M Q F)):Int)∧(0:Nat) + List.length (bdU c z s T Sh M Q F)≤(1073741823:Nat) + Int.toNat 0)∧((EC=EC∧[Ct.str,.int .i64,Ct.sl false [Ct.sl true EC]]=[.str,.int .i64,Ct.sl false [.sl true EC]]∧[Ct.str,Ct.bool,Ct.sl true PPC]=[.str,Ct.bool,Ct.sl true PPC]∧PPC=PPC)∧List.length (bdU c z s T Sh M Q F)≤(1073741824:Nat)∧woOk T.list Sh.list (bdU c z s T Sh M Q F))∧ofP [[c,z,s,U.l (Prod.fst (woU c z s T Sh M Q F)),U.l (Prod.snd (woU c z s T Sh M Q F)),M,Q],[U.i (bif decide (szU F < (Q.list.length:Int)) then (Q.list.length:Int) else szU F)]]∧((U.i (0:Int)=U.i 0∧nat_lit 892=nat_lit 892∧nat_lit 256=nat_lit 256∧nat_lit 0=nat_lit 0∧nat_lit 47=nat_lit 47∧EC=EC∧[Ct.str,.int .i64,Ct.sl false [Ct.sl true EC]]=[.str,.int .i64,Ct.sl false [.sl true EC]]∧[Ct.str,Ct.bool,Ct.sl true PPC]=[.str,Ct.bool,Ct.sl true PPC])∧(↑(List.length (bif decide ((bif decide (szU F < (Q.list.length:Int)) then (Q.list.length:Int) else szU F) < 0) then [] else bif decide ((65536:Int) < bif decide (szU F < (Q.list.length:Int)) then (Q.list.length:Int) else szU F) then [] else ofV (linesM [[c,z,s,U.l (Prod.fst (woU c z s T Sh M Q F)),U.l (Prod.snd (woU c z s T Sh M Q F)),M,Q],[U.i (bif decide (szU F < (Q.list.length:Int)) then (Q.list.length:Int) else szU F)]]) (Int.toNat (bif decide (szU F < (Q.list.length:Int)) then (Q.list.length:Int) else szU F)))):Int)=(↑(List.length (bif decide ((bif decide (szU F < (Q.list.length:Int)) then (Q.list.length:Int) else szU F) < 0) then [] else bif decide ((65536:Int) < bif decide (szU F < (Q.list.length:Int)) then (Q.list.length:Int) else szU F) then [] else ofV (linesM [[c,z,s,U.l (Prod.fst (woU c z s T Sh M Q F)),U.l (Prod.snd (woU c z s T Sh M Q F)),M,Q],[U.i (bif decide (szU F < (Q.list.length:Int)) then (Q.list.length:Int) else szU F)]]) (Int.toNat (bif decide (szU F < (Q.list.length:Int)) then (Q.list.length:Int) else szU F)))):Int)∧(0:Int)≤0∧(0:Int)≤(↑(List.length (bif decide ((bif decide (szU F < (Q.list.length:Int)) then (Q.list.length:Int) else szU F) < 0) then [] else bif decide ((65536:Int) < bif decide (szU F < (Q.list.length:Int)) then (Q.list.length:Int) else szU F) then [] else ofV (linesM [[c,z,s,U.l (Prod.fst (woU c z s T Sh M Q F)),U.l (Prod.snd (woU c z s T Sh M Q F)),M,Q],[U.i (bif decide (szU F < (Q.list.length:Int)) then (Q.list.length:Int) else szU F)]]) (Int.toNat (bif decide (szU F < (Q.list.length:Int)) then (Q.list.length:Int) else szU F)))):Int)∧List.length ([] ++ List.map flBad (List.drop (Int.toNat 0) (bdU c z s T Sh M Q F))) + List.length (bif decide ((bif decide (szU F < (Q.list.length:Int)) then (Q.list.length:Int) else szU F) < 0) then [] else bif decide ((65536:Int) < bif decide (szU F < (Q.list.length:Int)) then (Q.list.length:Int) else szU F) then [] else ofV (linesM [[c,z,s,U.l (Prod.fst (woU c z s T Sh M Q F)),U.l (Prod.snd (woU c z s T Sh M Q F)),M,Q],[U.i (bif decide (szU F < (Q.list.length:Int)) then (Q.list.length:Int) else szU F)]]) (Int.toNat (bif decide (szU F < (Q.list.length:Int)) then (Q.list.length:Int) else szU F)))≤(1073741823:Nat) + Int.toNat 0)∧R [[U.l ([] ++ List.map flBad (List.drop (Int.toNat 0) (bdU c z s T Sh M Q F)) ++ flCnts (szU F) Q.list 0 (List.drop (Int.toNat 0) (bif decide ((bif decide (szU F < (Q.list.length:Int)) then (Q.list.length:Int) else szU F) < 0) then [] else bif decide ((65536:Int) < bif decide (szU F < (Q.list.length:Int)) then (Q.list.length:Int) else szU F) then [] else ofV (linesM [[c,z,s,U.l (Prod.fst (woU c z s T Sh M Q F)),U.l (Prod.snd (woU c z s T Sh M Q F)),M,Q],[U.i (bif decide (szU F < (Q.list.length:Int)) then (Q.list.length:Int) else szU F)]]) (Int.toNat (bif decide (szU F < (Q.list.length:Int)) then (Q.list.length:Int) else szU F)))))]]):=by kernel_rfl
end Go.Mat

namespace Go.Mat
open Go Go.Den Go.Proofs
set_option maxRecDepth 100000
theorem fa_loop0:LoopOk faC 0 (loopBody Try.f15 0):=by
 refine loopOk_of (F:=faLoop0) (ts:=[24,23,22,6,2,1,5]) (os:=[892,256]) rfl (fun svs _=>match svs with | .val _ i :: .val _ n :: _=>(n.int - i.int).toNat | _=>0) ?_
 intro pan svs os k ho1 ho2 h
 unfold faLoop0 at h
 split at h
 ·rename_i i n x0 L o p q F x4 L5 t X c z s x1 T x3 Sh x2 M Q
  obtain ⟨⟨⟨rfl,rfl,rfl,rfl,rfl,rfl,rfl,rfl,rfl⟩,hn,h0,hin,hX⟩,hk⟩:=h
  refine .eq (fa_round0 pan _ _ k i n L F L5 c z s T Sh M Q X) ?_
  refine bd (fun hlt=>?_) (fun hlt=>?_)
  ·have hi:i.int.toNat < L.list.length:=by omega
   have hwi:IntKind.wrap .i64 (i.int + 1)=i.int + 1:=i64_in (by omega) (by have:L.list.length≤maxLen:=ho1.2.2.1.1;unfold maxLen at this;omega)
   have hc:(i.int + 1).toNat=i.int.toNat + 1:=by omega
   rw [drop_cons_at hi,List.map_cons] at hk
   refine dt ⟨h0,by omega⟩ (broom (by unfold room;omega) rfl ?_)
   rw [hwi,hc]
   exact blt (by simp only [U.int_i];omega) ⟨⟨⟨by trivial,by trivial,by trivial,by trivial,by trivial,by trivial,by trivial,by trivial,by trivial⟩,hn,by omega,by omega,by rw [List.length_append,List.length_singleton];omega⟩,by rw [List.append_assoc];exact hk⟩
  ·have hd:L.list.drop i.int.toNat=[]:=List.drop_eq_nil_of_le (by omega)
   rw [hd,List.map_nil,List.append_nil] at hk
   exact hk
 ·exact h.elim
theorem fa_loop2:LoopOk faC 2 (loopBody Try.f15 1):=by
 refine loopOk_of (F:=faLoop2) (ts:=[52,51,50,6,2,9]) (os:=[892,256]) rfl (fun svs _=>match svs with | .val _ i :: .val _ n :: _=>(n.int - i.int).toNat | _=>0) ?_
 intro pan svs os k ho1 ho2 h
 unfold faLoop2 at h
 split at h
 ·rename_i i n L o p q sz t X c z s x1 T x3 Sh x2 M Q
  obtain ⟨⟨⟨hii,rfl,rfl,rfl,rfl,rfl,rfl,rfl⟩,hn,h0,hin,hX⟩,hk⟩:=h
  refine .eq (fa_round2 pan _ _ k i n L sz c z s T Sh M Q X) ?_
  refine bd (fun hlt=>?_) (fun hlt=>?_)
  ·have hi:i.int.toNat < L.list.length:=by omega
   have hwi:IntKind.wrap .i64 (i.int + 1)=i.int + 1:=i64_in (by omega) (by have:L.list.length≤maxLen:=ho1.2.2.1.1;unfold maxLen at this;omega)
   have hc:(i.int + 1).toNat=i.int.toNat + 1:=by omega
   have hcn:flCnts sz.int Q.list i.int (U.at L.list i.int.toNat :: L.list.drop (i.int.toNat + 1))=flCnt sz.int Q.list i.int (U.at L.list i.int.toNat) ++ flCnts sz.int Q.list (i.int + 1) (L.list.drop (i.int.toNat + 1)):=rfl
   rw [drop_cons_at hi,hcn] at hk
   rw [hwi,hc]
   have hxe:nth (.i 0) L.list i.int.toNat=U.at L.list i.int.toNat:=rfl
   have hqe:nth (.i 0) Q.list i.int.toNat=U.at Q.list i.int.toNat:=rfl
   have hie:∀ k:Int,U.l [U.i k,i,U.i 0]=U.l [U.i k,.i i.int,U.i 0]:=fun k=>by rw [← hii]
   rw [hxe,hqe,hie 2,hie 3]
   generalize hx:U.at L.list i.int.toNat=x at hk
   have hr:X.length + 1≤room:=by unfold room;omega
   refine dt ⟨h0,by omega⟩ ?_
   refine bd (fun hs=>?_) (fun hs=>?_)
   ·refine bd (fun hq=>dt ⟨h0,hq⟩ ?_) (fun hq=>?_)
    ·refine bd (fun ha=>broom hr rfl ?_) (fun ha=>bd (fun hb=>broom hr rfl ?_) (fun hb=>?_))
     ·exact blt (by simp only [U.int_i];omega) ⟨⟨⟨by trivial,by trivial,by trivial,by trivial,by trivial,by trivial,by trivial,by trivial⟩,hn,by omega,by omega,by rw [List.length_append,List.length_singleton];omega⟩,by have hY:=(by unfold flCnt;rw [decide_eq_true hs,decide_eq_true hq,cond_true,cond_true,decide_eq_true ha];rfl:flCnt sz.int Q.list i.int x=[.l [.i 2,.i i.int,.i 0]]);rw [hY] at hk;rw [List.append_assoc];exact hk⟩
     ·exact blt (by simp only [U.int_i];omega) ⟨⟨⟨by trivial,by trivial,by trivial,by trivial,by trivial,by trivial,by trivial,by trivial⟩,hn,by omega,by omega,by rw [List.length_append,List.length_singleton];omega⟩,by have hY:=(by unfold flCnt;rw [decide_eq_true hs,decide_eq_true hq,cond_true,cond_true,decide_eq_false ha,decide_eq_true hb];rfl:flCnt sz.int Q.list i.int x=[.l [.i 3,.i i.int,.i 0]]);rw [hY] at hk;rw [List.append_assoc];exact hk⟩
     ·exact blt (by simp only [U.int_i];omega) ⟨⟨⟨by trivial,by trivial,by trivial,by trivial,by trivial,by trivial,by trivial,by trivial⟩,hn,by omega,by omega,by omega⟩,by have hY:=(by unfold flCnt;rw [decide_eq_true hs,decide_eq_true hq,cond_true,cond_true,decide_eq_false ha,decide_eq_false hb];rfl:flCnt sz.int Q.list i.int x=[]);rw [hY] at hk;rw [List.nil_append] at hk;exact hk⟩
    ·exact blt (by simp only [U.int_i];omega) ⟨⟨⟨by trivial,by trivial,by trivial,by trivial,by trivial,by trivial,by trivial,by trivial⟩,hn,by omega,by omega,by omega⟩,by have hY:=(by unfold flCnt;rw [decide_eq_true hs,decide_eq_false hq,cond_true,cond_false];rfl:flCnt sz.int Q.list i.int x=[]);rw [hY] at hk;rw [List.nil_append] at hk;exact hk⟩
   ·refine bd (fun hq=>dt ⟨h0,hq⟩ ?_) (fun hq=>?_)
    ·refine bd (fun ha=>broom hr rfl ?_) (fun ha=>bd (fun hb=>broom hr rfl ?_) (fun hb=>?_))
     ·exact blt (by simp only [U.int_i];omega) ⟨⟨⟨by trivial,by trivial,by trivial,by trivial,by trivial,by trivial,by trivial,by trivial⟩,hn,by omega,by omega,by rw [List.length_append,List.length_singleton];omega⟩,by have hY:=(by unfold flCnt;rw [decide_eq_false hs,decide_eq_true hq,cond_true,cond_false,decide_eq_true ha];rfl:flCnt sz.int Q.list i.int x=[.l [.i 2,.i i.int,.i 0]]);rw [hY] at hk;rw [List.append_assoc];exact hk⟩
     ·exact blt (by simp only [U.int_i];omega) ⟨⟨⟨by trivial,by trivial,by trivial,by trivial,by trivial,by trivial,by trivial,by trivial⟩,hn,by omega,by omega,by rw [List.length_append,List.length_singleton];omega⟩,by have hY:=(by unfold flCnt;rw [decide_eq_false hs,decide_eq_true hq,cond_true,cond_false,decide_eq_false ha,decide_eq_true hb];rfl:flCnt sz.int Q.list i.int x=[.l [.i 3,.i i.int,.i 0]]);rw [hY] at hk;rw [List.append_assoc];exact hk⟩
     ·exact blt (by simp only [U.int_i];omega) ⟨⟨⟨by trivial,by trivial,by trivial,by trivial,by trivial,by trivial,by trivial,by trivial⟩,hn,by omega,by omega,by omega⟩,by have hY:=(by unfold flCnt;rw [decide_eq_false hs,decide_eq_true hq,cond_true,cond_false,decide_eq_false ha,decide_eq_false hb];rfl:flCnt sz.int Q.list i.int x=[]);rw [hY] at hk;rw [List.nil_append] at hk;exact hk⟩
    ·refine bd (fun ha=>broom hr rfl ?_) (fun ha=>bd (fun hb=>broom hr rfl ?_) (fun hb=>?_))
     ·exact blt (by simp only [U.int_i];omega) ⟨⟨⟨by trivial,by trivial,by trivial,by trivial,by trivial,by trivial,by trivial,by trivial⟩,hn,by omega,by omega,by rw [List.length_append,List.length_singleton];omega⟩,by have hY:=(by unfold flCnt;rw [decide_eq_false hs,decide_eq_false hq,cond_false,cond_false,decide_eq_true ha];rfl:flCnt sz.int Q.list i.int x=[.l [.i 2,.i i.int,.i 0]]);rw [hY] at hk;rw [List.append_assoc];exact hk⟩
     ·exact blt (by simp only [U.int_i];omega) ⟨⟨⟨by trivial,by trivial,by trivial,by trivial,by trivial,by trivial,by trivial,by trivial⟩,hn,by omega,by omega,by rw [List.length_append,List.length_singleton];omega⟩,by have hY:=(by unfold flCnt;rw [decide_eq_false hs,decide_eq_false hq,cond_false,cond_false,decide_eq_false ha,decide_eq_true hb];rfl:flCnt sz.int Q.list i.int x=[.l [.i 3,.i i.int,.i 0]]);rw [hY] at hk;rw [List.append_assoc];exact hk⟩
     ·exact blt (by simp only [U.int_i];omega) ⟨⟨⟨by trivial,by trivial,by trivial,by trivial,by trivial,by trivial,by trivial,by trivial⟩,hn,by omega,by omega,by omega⟩,by have hY:=(by unfold flCnt;rw [decide_eq_false hs,decide_eq_false hq,cond_false,cond_false,decide_eq_false ha,decide_eq_false hb];rfl:flCnt sz.int Q.list i.int x=[]);rw [hY] at hk;rw [List.nil_append] at hk;exact hk⟩
  ·have hd:L.list.drop i.int.toNat=[]:=List.drop_eq_nil_of_le (by omega)
   have h1:flCnts sz.int Q.list i.int []=[]:=rfl
   rw [hd,h1,List.append_nil] at hk
   exact hk
 ·exact h.elim
def nU (F Q:U):Int:=bif decide (szU F < (Q.list.length:Int)) then (Q.list.length:Int) else szU F
def okM (c z s T Sh M Q F:U):List U:=linesOf (.i (-1)) (woU c z s T Sh M Q F).1 ++ shotLines 0 (woU c z s T Sh M Q F).2
def faV (c z s T Sh M Q F:U):List U:=(bdU c z s T Sh M Q F).map flBad ++ flCnts (szU F) Q.list 0 (ofV (okM c z s T Sh M Q F) (nU F Q).toNat)
def faS:List (List U)→List (List U):=fun us=>match us with
 | [[c,z,s,T,Sh,M,Q],[F]]=>[[.l (bif metaR c z s T Sh M Q then faV c z s T Sh M Q F else [])]]
 | _=>[]
def mgP (T Sh:U):Prop:=T.list.length≤1099511627776∧∀ x,x ∈ Sh.list→(shT x).list.length≤1099511627776
def faP:List (List U)→Prop:=fun us=>mgP (nth (.i 0) (nth [] us 0) 3) (nth (.i 0) (nth [] us 0) 4)
theorem whU_len (F:U):(whU F).length≤1048576:=by unfold whU;rw [List.length_take];omega
theorem szU_in (F:U):0≤szU F∧szU F≤65536:=by
 have h:=whU_len F
 have e:szU F=((whU F).length:Int) / 16:=by
  unfold szU
  rw [Int.tdiv_eq_ediv_of_nonneg (by omega)]
  exact i64_in (by omega) (by omega)
 omega
theorem nU_in {F Q:U} (h:Q.list.length≤65536):0≤nU F Q∧nU F Q≤65536:=by
 have:=szU_in F
 unfold nU
 by_cases h1:szU F < (Q.list.length:Int)
 ·rw [decide_eq_true h1,cond_true];omega
 ·rw [decide_eq_false h1,cond_false];omega
theorem ofV_len (L:List U) (n:Nat):(ofV L n).length=n:=by unfold ofV;rw [List.length_map,List.length_range]
theorem fa_ok:SpecFP PR 15 faP faS:=fun fn us hfn hpre=>by
 have hf:PR.funcs[(15:Nat)]? = some Try.f15:=by kernel_rfl
 rw [hf] at hfn;cases hfn
 refine fn_okH (C:=faC) (mkC_ok eqs0_ok mixed_ok (.cons meta_ok (.cons whole_ok (.consP bad_ok (.consP of_ok .nil)))) (.cons wo_ok .nil)) hf (by kernel_rfl) (loops_two (by kernel_rfl) fa_loop0 fa_loop2) fun hok=>?_
 have hp:Try.f15.params.toList=[41,25]:=by kernel_rfl
 rw [hp] at hok
 obtain ⟨u,u2,rfl,h1,h2⟩:=shape2 (by kernel_rfl:Cs PR 41=some (true,[.int .i64,.int .i64,.str,.sl false [.sl true EC],.sl true SC,.sl true BC,.sl false [.int .i64]])) (by kernel_rfl:Cs PR 25=some (false,[.sl false [.int .u8]])) hok.1
 obtain ⟨c,z,s,T,Sh,M,Q,rfl⟩:∃ a b c d e f g,u=[a,b,c,d,e,f,g]:=match u,h1 with | [a,b,c,d,e,f,g],_=>⟨a,b,c,d,e,f,g,rfl⟩
 obtain ⟨F,rfl⟩:=len1 h2
 clear hok h1 h2
 have hpre:mgP T Sh:=hpre
 refine .eq (fa_tree _ c z s T Sh M Q F) ?_
 rw [show faS [[c,z,s,T,Sh,M,Q],[F]]=[[.l (bif metaR c z s T Sh M Q then faV c z s T Sh M Q F else [])]] from rfl]
 refine bi (fun hr=>by rw [nt hr];rfl) (fun hr=>?_)
 rw [nf hr,cond_true]
 obtain ⟨hG,hQ,_⟩:=GM.of_right (nf hr) hpre.1 hpre.2
 obtain ⟨b1,b2⟩:=GM.bad (F:=whU F) (c:=c.int) hG
 have hbe:bdU c z s T Sh M Q F=(badL (whU F) c.int (linesOf (.i (-1)) T.list ++ shotLines 0 Sh.list)).1:=rfl
 rw [← hbe] at b1 b2
 have i0:inFit (U.i 0).int:=⟨by decide,by decide⟩
 obtain ⟨hW,hWl⟩:=GM.wo (a:=.i 1) (e:=.i 0) (g:=.i 0) i0 i0 hG b2
 have hwe:woU c z s T Sh M Q F=woOf (.i 1) (.i 0) (.i 0) (.i 0) (.i 0) T.list Sh.list (bdU c z s T Sh M Q F):=rfl
 rw [← hwe] at hW hWl
 obtain ⟨n0,n1⟩:=nU_in (F:=F) hQ
 have hne:(bif decide (szU F < (Q.list.length:Int)) then (Q.list.length:Int) else szU F)=nU F Q:=rfl
 have hlm:linesM [[c,z,s,.l (woU c z s T Sh M Q F).1,.l (woU c z s T Sh M Q F).2,M,Q],[.i (nU F Q)]]=okM c z s T Sh M Q F:=rfl
 rw [hne,hlm,decide_eq_false (by omega:¬ nU F Q < 0),decide_eq_false (by omega:¬ 65536 < nU F Q)]
 simp only [cond_false,ofV_len,Int.toNat_zero,List.drop_zero,List.nil_append,List.length_map]
 refine ⟨⟨hG.each.1,?_⟩,⟨⟨by trivial,by trivial,by trivial,by trivial,by trivial,by trivial,by trivial,by trivial,by trivial⟩,by trivial,by omega,by omega,by omega⟩,⟨⟨by trivial,by trivial,by trivial,by trivial⟩,by omega,hG.ok b2⟩,⟨hW.each.1,hW.fit⟩,⟨⟨by trivial,by trivial,by trivial,by trivial,by trivial,by trivial,by trivial,by trivial⟩,by trivial,by omega,by omega,by omega⟩,rfl⟩
 have:=hG.each.2
 show (linesOf (.i (-1)) T.list ++ shotLines 0 Sh.list).length≤536870912
 omega
end Go.Mat

namespace Go.Mat
open Go Go.Den Go.Proofs
theorem ofT_tree (R:RT) (c z s T S M Q n:U):(runD ofC Try.f40 [.agg [vi c,vi z,vs s,.val TRC T,vt SC S,vt BC M,vl (.int .i64) Q],vi n] [] R)=(bif decide (n.int < 0) then R (Out.ret [.own 2097152]) [(2097152,.arr 3 [])] else bif decide (n.int > 65536) then R (Out.ret [.own 2097152]) [(2097152,.arr 3 [])] else bif decide ((0:Int)≤n.int∧n.int≤n.int∧n.int≤(↑room:Int)) then (2558=nat_lit 2558∧nat_lit 3=nat_lit 3∧EC=EC∧[Ct.str,.int .i64,Ct.sl false [Ct.sl true EC]]=[.str,.int .i64,Ct.sl false [.sl true EC]]∧[Ct.str,Ct.bool,Ct.sl true [.int .i64,.int .i64]]=[.str,Ct.bool,Ct.sl true [.int .i64,.int .i64]]∧nat_lit 256=nat_lit 256∧nat_lit 0=nat_lit 0∧(0:Int)≤0∧(bif decide ((2:Int) < n.int) then (2:Int) else n.int)≤(↑(List.length (List.replicate (Int.toNat n.int) (U.i 0))):Int)∧List.length (List.replicate (Int.toNat n.int) (U.i 0))≤(65536:Nat)∧nrmR (List.replicate (Int.toNat n.int) (U.i 0))∧bndR 1000 (List.drop (Int.toNat 0) (List.replicate (Int.toNat n.int) (U.i 0)))=true)∧eachP [[c,z,s,T,S,M,Q]]∧(2558=nat_lit 2558∧nat_lit 3=nat_lit 3∧LNC=LNC∧(↑(List.length (linesOf (U.i (-1:Int)) T.list ++ shotLines 0 S.list)):Int)=(↑(List.length (linesOf (U.i (-1:Int)) T.list ++ shotLines 0 S.list)):Int)∧(0:Int)≤0∧(0:Int)≤(↑(List.length (linesOf (U.i (-1:Int)) T.list ++ shotLines 0 S.list)):Int)∧List.length (linesOf (U.i (-1:Int)) T.list ++ shotLines 0 S.list)≤(1073741824:Nat)∧n.int=(↑(List.length (addR (inI 0 (bif decide ((2:Int) < n.int) then (2:Int) else n.int)) (0:Nat) (List.replicate (Int.toNat n.int) (U.i 0)))):Int)∧List.length (addR (inI 0 (bif decide ((2:Int) < n.int) then (2:Int) else n.int)) (0:Nat) (List.replicate (Int.toNat n.int) (U.i 0)))≤(65536:Nat)∧nrmR (addR (inI 0 (bif decide ((2:Int) < n.int) then (2:Int) else n.int)) (0:Nat) (List.replicate (Int.toNat n.int) (U.i 0)))∧fitL (List.drop (Int.toNat 0) (linesOf (U.i (-1:Int)) T.list ++ shotLines 0 S.list))=true∧bndR ((1:Int) + 0) (addR (inI 0 (bif decide ((2:Int) < n.int) then (2:Int) else n.int)) (0:Nat) (List.replicate (Int.toNat n.int) (U.i 0)))=true)∧R (Out.ret [.own 2097152]) [(2097152,.arr 3 (addR (coverR (List.drop (Int.toNat 0) (linesOf (U.i (-1:Int)) T.list ++ shotLines 0 S.list))) (0:Nat) (addR (inI 0 (bif decide ((2:Int) < n.int) then (2:Int) else n.int)) (0:Nat) (List.replicate (Int.toNat n.int) (U.i 0)))))] else False):=by kernel_rfl
noncomputable def ofF:Tr:=fun args objs k=>match args,objs with
 | [.agg [.val (.int .i64) c,.val (.int .i64) z,.val .str s,.val (.sl false [.sl true x1]) T,.val (.sl true x3) S,.val (.sl true x2) M,.val (.sl false [.int .i64]) Q],.val (.int .i64) n],[]=>
  ((x1=EC∧x3=SC∧x2=BC)∧(0≤n.int∧n.int≤65536)∧ofP [[c,z,s,T,S,M,Q],[n]])∧
  k (.ret [.own 2097152]) [(2097152,.arr 3 (ofV (linesM [[c,z,s,T,S,M,Q],[n]]) n.int.toNat))]
 | _,_=>False
end Go.Mat

namespace Go.Mat
open Go Go.Den Go.Proofs
set_option maxRecDepth 100000
theorem of_val (L:List U) (m:Nat):addR (coverR L) 0 (addR (inI 0 (bif decide ((2:Int) < (m:Int)) then (2:Int) else (m:Int))) 0 (List.replicate m (.i 0)))=ofV L m:=by
 rw [addR_add,addR_rep]
 unfold ofV
 rw [List.range_eq_range']
 refine List.map_congr_left fun k hk=>?_
 have hk:k < m:=by
  have:=List.mem_range'_1.1 hk
  omega
 congr 2
 unfold inI
 rw [decide_eq_true (by omega:(0:Int)≤(k:Int))]
 by_cases h2:(2:Int) < m
 ·rw [decide_eq_true h2]
  simp only [cond_true,Bool.true_and]
  by_cases h:k < 2
  ·rw [if_pos h,decide_eq_true (by omega:(k:Int) < 2)];rfl
  ·rw [if_neg h,decide_eq_false (by omega:¬ (k:Int) < 2)];rfl
 ·rw [decide_eq_false h2]
  simp only [cond_false,Bool.true_and]
  rw [if_pos (by omega),decide_eq_true (by omega:(k:Int) < (m:Int))];rfl
theorem ofT_ok:SpecT PR 40 ofF:=fun fn hfn=>by
 have hf:PR.funcs[(40:Nat)]? = some Try.f40:=by kernel_rfl
 rw [hf] at hfn;cases hfn
 refine fnT_okH (C:=ofC) (mkC_ok eqs0_ok mixed_ok (.consP each_ok .nil) .nil) hf (by kernel_rfl) (loops_three (by kernel_rfl) of_loop0 of_loop2 of_loop4) fun vs objs R h1 h2 h=>?_
 clear h1 h2
 unfold ofF at h
 split at h
 ·rename_i c sz bk x1 T x3 S x2 M Q n
  obtain ⟨⟨⟨rfl,rfl,rfl⟩,⟨hn0,hn1⟩,hpre⟩,hk⟩:=h
  obtain ⟨hE,hfit⟩:=hpre
  obtain ⟨e1,e2,e3⟩:T.list.length≤65536∧S.list.length≤1000∧shotsFit S.list=true:=hE
  have hfit:fitL (linesOf (.i (-1)) T.list ++ shotLines 0 S.list)=true:=hfit
  have hlen:(linesOf (.i (-1)) T.list ++ shotLines 0 S.list).length≤1073741824:=by
   have h1:=linesOf_len (.i (-1)) T.list
   have h2:=shotLines_len 0 S.list e3
   rw [List.length_append]
   omega
  refine .eq (ofT_tree _ c sz bk T S M Q n) ?_
  have hle:linesM [[c,sz,bk,T,S,M,Q],[n]]=linesOf (.i (-1)) T.list ++ shotLines 0 S.list:=rfl
  rw [hle] at hk
  generalize linesOf (.i (-1)) T.list ++ shotLines 0 S.list=L at hfit hlen hk
  refine bd (fun h1=>absurd h1 (by omega)) (fun h1=>bd (fun h2=>absurd h2 (by omega)) (fun h2=>?_))
  obtain ⟨m,hm⟩:∃ m:Nat,n.int=(m:Int):=⟨n.int.toNat,by omega⟩
  rw [hm,Int.toNat_natCast] at hk
  simp only [Int.toNat_zero,List.drop_zero,hm,Int.toNat_natCast,List.length_replicate,addR_len]
  refine dt ⟨by omega,by omega,by unfold room;omega⟩ ⟨⟨by trivial,by trivial,by trivial,by trivial,by trivial,by trivial,by trivial,by omega,?_,by omega,?_,?_⟩,⟨e1,e2,e3⟩,⟨by trivial,by trivial,by trivial,by trivial,by omega,by omega,hlen,by trivial,by omega,nrm_add _ _,hfit,?_⟩,?_⟩
  ·by_cases h:(2:Int) < m
   ·rw [decide_eq_true h];simp only [cond_true];omega
   ·rw [decide_eq_false h];simp only [cond_false];omega
  ·unfold nrmR
   rw [addR_rep,List.map_const',List.length_range']
  ·refine List.all_eq_true.2 fun x hx=>?_
   rw [(List.mem_replicate.1 hx).2]
   rfl
  ·rw [Int.add_zero,show (1:Int)=0 + 1 from rfl]
   refine bnd_add 0 _ (List.all_eq_true.2 fun x hx=>?_) fun j=>inI_01 _ _ j
   rw [(List.mem_replicate.1 hx).2]
   rfl
  ·rw [of_val];exact hk
 ·exact h.elim
end Go.Mat

namespace Go.Mat
open Go Go.Den Go.Proofs
def mpSet (x:U):U:=.l (patchU x.list 2 [.l (nth (.i 0) x.list.tail.tail 0).list])
def mpL (x:U):List U:=(nth (.i 0) x.list.tail.tail 0).list
noncomputable def mdLoop0:LoopF:=fun _ svs os k=>match svs,os with
 | [.val (.int .i64) i,.val (.int .i64) n,.ptr p q,.val (.sl false [.int .u8]) F,.ptr p4 q4],[.box [.val (.int .i64) c,.val (.int .i64) z,.val .str s,.val (.sl false [.sl true x1]) T,.own o,.val (.sl true x2) M,.val (.sl false [.int .i64]) Q],.arr t X,
   .box [.val (.int .i64) r1,.val (.int .i64) r2,.val .str r3,.own o1,.own o2,.own o3,.own o4],.arr t4 [],.arr t3 [],.arr t2 [],.arr t1 []]=>
  ((p=256∧q=0∧p4=512∧q4=0∧x1=EC∧o=2448∧x2=BC∧t=73)∧(o1=520∧o2=522∧o3=524∧o4=526∧t4=3∧t3=77∧t2=73∧t1=64)∧
    n.int=(X.length:Int)∧0≤i.int∧i.int≤n.int∧X.length≤1073741824∧∀ x,x ∈ X.drop i.int.toNat→tabP (shT x).list)∧
  k (.exit 0) ⟨[(2,.ptr 256 0),(1,.val (.sl false [.int .u8]) F),(4,.ptr 512 0)],[(256,.box [vi c,vi z,vs s,.val TRC T,.own 2448,vt BC M,vl (.int .i64) Q]),(2448,.arr 73 (X.take i.int.toNat ++ (X.drop i.int.toNat).map fun x=>shSet x (shT x).list)),
   (512,.box [vi r1,vi r2,vs r3,.own 520,.own 522,.own 524,.own 526]),(526,.arr 3 []),(524,.arr 77 []),(522,.arr 73 []),(520,.arr 64 [])]⟩
 | _,_=>False
noncomputable def mdLoop2:LoopF:=fun _ svs os k=>match svs,os with
 | [.val (.int .i64) i,.val (.int .i64) n,.ptr p q,.val (.sl false [.int .u8]) F,.ptr p4 q4],[.box [.val (.int .i64) c,.val (.int .i64) z,.val .str s,.val (.sl false [.sl true x1]) T,.own o,.own o5,.val (.sl false [.int .i64]) Q],.arr t X,.arr t5 Y,
   .box [.val (.int .i64) r1,.val (.int .i64) r2,.val .str r3,.own o1,.own o2,.own o3,.own o4],.arr t4 [],.arr t3 [],.arr t2 [],.arr t1 []]=>
  ((p=256∧q=0∧p4=512∧q4=0∧x1=EC∧o=2448∧o5=5264∧t=73∧t5=77)∧(o1=520∧o2=522∧o3=524∧o4=526∧t4=3∧t3=77∧t2=73∧t1=64)∧
    n.int=(Y.length:Int)∧0≤i.int∧i.int≤n.int∧Y.length≤1073741824∧∀ x,x ∈ Y.drop i.int.toNat→(mpL x).length≤1073741824)∧
  k (.exit 2) ⟨[(2,.ptr 256 0),(1,.val (.sl false [.int .u8]) F),(4,.ptr 512 0)],[(256,.box [vi c,vi z,vs s,.val TRC T,.own 2448,.own 5264,vl (.int .i64) Q]),(2448,.arr 73 X),(5264,.arr 77 (Y.take i.int.toNat ++ (Y.drop i.int.toNat).map mpSet)),
   (512,.box [vi r1,vi r2,vs r3,.own 520,.own 522,.own 524,.own 526]),(526,.arr 3 []),(524,.arr 77 []),(522,.arr 73 []),(520,.arr 64 [])]⟩
 | _,_=>False
noncomputable def mdC:Ctx:=mkC PR eqs0 (fnsCons 37 metaS (fnsCons 38 wholeS (fnsConsP 39 badP badS (fnsConsP 42 cutP copyS fnsNil))))
 (trsCons 41 [] woF (trsCons 43 [] (cloneF BC 77) (trsCons 44 [] (frzT PR [2097152] (cloneF [.int .i64,.int .i64] 81)) (trsCons 40 [] ofF trsNil))))
 (loopCons 0 [23,22,2,1,4] [256,2448,512,526,524,522,520] mdLoop0 (loopCons 2 [46,45,2,1,4] [256,2448,5264,512,526,524,522,520] mdLoop2 noLoops)) (outCons 0 [2,1,4] [256,2448,512,526,524,522,520] (outCons 2 [2,1,4] [256,2448,5264,512,526,524,522,520] noOut)) noOut
theorem md_round0 (pan:KP) (μ:Mu) (N:Nat) (k:KE) (i n F c z s T M Q r1 r2 r3:U) (X:List U):(exec (mdC.panics pan) (loopBody Try.f16 0) 0 ⟨[(23,vi i),(22,vi n),(2,.ptr 256 0),(1,.val (.sl false [.int .u8]) F),(4,.ptr 512 0)],[(256,.box [vi c,vi z,vs s,.val TRC T,.own 2448,vt BC M,vl (.int .i64) Q]),(2448,.arr 73 X),(512,.box [vi r1,vi r2,vs r3,.own 520,.own 522,.own 524,.own 526]),(526,.arr 3 []),(524,.arr 77 []),(522,.arr 73 []),(520,.arr 64 [])]⟩ (again PR (some ([2,1,4],[256,2448,512,526,524,522,520])) none pan [23,22,2,1,4] [256,2448,512,526,524,522,520] mdLoop0 μ N k))=(bif decide (i.int < n.int) then Alt (bif decide ((0:Int)≤i.int∧i.int < (X.length:Int)) then bif Nat.blt (Int.toNat i.int) (List.length X) then cutP [[nth (U.i 0) (List.tail (List.tail (U.list (nth (U.i 0) X (Int.toNat i.int))))) (0:Nat)],[U.i 4096]]∧bif decide ((0:Int)≤i.int∧i.int < (X.length:Int)) then bif Nat.blt (Int.toNat i.int) (List.length X) then bif Nat.blt (μ [vi (U.i (IntKind.wrap .i64 (i.int + 1))),vi n,.ptr 256 0,.val (.sl false [.int .u8]) F,.ptr 512 0] [.box [vi c,vi z,.val .str s,.val (.sl false [.sl true EC]) T,.own 2448,.val (.sl true [.str,Ct.bool,Ct.sl true PPC]) M,.val (.sl false [.int .i64]) Q],.arr 73 (List.set X (Int.toNat i.int) (U.l (patchU (U.list (nth (U.i 0) X (Int.toNat i.int))) 2 [U.l (U.list (nth (U.i 0) (List.tail (List.tail (U.list (nth (U.i 0) X (Int.toNat i.int))))) (0:Nat)))]))),.box [vi r1,vi r2,.val .str r3,.own 520,.own 522,.own 524,.own 526],.arr 3 [],.arr 77 [],.arr 73 [],.arr 64 []]) N then ((256=nat_lit 256∧nat_lit 0=nat_lit 0∧nat_lit 512=nat_lit 512∧nat_lit 0=nat_lit 0∧EC=EC∧nat_lit 2448=nat_lit 2448∧[Ct.str,Ct.bool,Ct.sl true PPC]=[.str,Ct.bool,Ct.sl true PPC]∧nat_lit 73=nat_lit 73)∧(520=nat_lit 520∧nat_lit 522=nat_lit 522∧nat_lit 524=nat_lit 524∧nat_lit 526=nat_lit 526∧nat_lit 3=nat_lit 3∧nat_lit 77=nat_lit 77∧nat_lit 73=nat_lit 73∧nat_lit 64=nat_lit 64)∧n.int=(↑(List.length (List.set X (Int.toNat i.int) (U.l (patchU (U.list (nth (U.i 0) X (Int.toNat i.int))) 2 [U.l (U.list (nth (U.i 0) (List.tail (List.tail (U.list (nth (U.i 0) X (Int.toNat i.int))))) (0:Nat)))])))):Int)∧(0:Int)≤IntKind.wrap .i64 (i.int + 1)∧IntKind.wrap .i64 (i.int + 1)≤n.int∧List.length (List.set X (Int.toNat i.int) (U.l (patchU (U.list (nth (U.i 0) X (Int.toNat i.int))) 2 [U.l (U.list (nth (U.i 0) (List.tail (List.tail (U.list (nth (U.i 0) X (Int.toNat i.int))))) (0:Nat)))])))≤(1073741824:Nat)∧∀ (x:U),x ∈ List.drop (Int.toNat (IntKind.wrap .i64 (i.int + 1))) (List.set X (Int.toNat i.int) (U.l (patchU (U.list (nth (U.i 0) X (Int.toNat i.int))) 2 [U.l (U.list (nth (U.i 0) (List.tail (List.tail (U.list (nth (U.i 0) X (Int.toNat i.int))))) (0:Nat)))])))→tabP (U.list (shT x)))∧k (Ex.exit 0) (St.mk [(2,.ptr 256 0),(1,.val (.sl false [.int .u8]) F),(4,.ptr 512 0)] [(256,.box [vi c,vi z,.val .str s,.val (.sl false [.sl true EC]) T,.own 2448,.val (.sl true [.str,Ct.bool,Ct.sl true PPC]) M,.val (.sl false [.int .i64]) Q]),(2448,.arr 73 (List.take (Int.toNat (IntKind.wrap .i64 (i.int + 1))) (List.set X (Int.toNat i.int) (U.l (patchU (U.list (nth (U.i 0) X (Int.toNat i.int))) 2 [U.l (U.list (nth (U.i 0) (List.tail (List.tail (U.list (nth (U.i 0) X (Int.toNat i.int))))) (0:Nat)))]))) ++ List.map (fun x=>shSet x (U.list (shT x))) (List.drop (Int.toNat (IntKind.wrap .i64 (i.int + 1))) (List.set X (Int.toNat i.int) (U.l (patchU (U.list (nth (U.i 0) X (Int.toNat i.int))) 2 [U.l (U.list (nth (U.i 0) (List.tail (List.tail (U.list (nth (U.i 0) X (Int.toNat i.int))))) (0:Nat)))])))))),(512,.box [vi r1,vi r2,.val .str r3,.own 520,.own 522,.own 524,.own 526]),(526,.arr 3 []),(524,.arr 77 []),(522,.arr 73 []),(520,.arr 64 [])]) else False else False else False else False else False) (bif decide ((0:Int)≤i.int∧i.int < (X.length:Int)) then Alt (bif Nat.blt (Int.toNat i.int) (List.length X) then cutP [[nth (U.i 0) (List.tail (List.tail (U.list (nth (U.i 0) X (Int.toNat i.int))))) (0:Nat)],[U.i 4096]]∧bif decide ((0:Int)≤i.int∧i.int < (X.length:Int)) then bif Nat.blt (Int.toNat i.int) (List.length X) then bif Nat.blt (μ [vi (U.i (IntKind.wrap .i64 (i.int + 1))),vi n,.ptr 256 0,.val (.sl false [.int .u8]) F,.ptr 512 0] [.box [vi c,vi z,.val .str s,.val (.sl false [.sl true EC]) T,.own 2448,.val (.sl true [.str,Ct.bool,Ct.sl true PPC]) M,.val (.sl false [.int .i64]) Q],.arr 73 (List.set X (Int.toNat i.int) (U.l (patchU (U.list (nth (U.i 0) X (Int.toNat i.int))) 2 [U.l (U.list (nth (U.i 0) (List.tail (List.tail (U.list (nth (U.i 0) X (Int.toNat i.int))))) (0:Nat)))]))),.box [vi r1,vi r2,.val .str r3,.own 520,.own 522,.own 524,.own 526],.arr 3 [],.arr 77 [],.arr 73 [],.arr 64 []]) N then ((256=nat_lit 256∧nat_lit 0=nat_lit 0∧nat_lit 512=nat_lit 512∧nat_lit 0=nat_lit 0∧EC=EC∧nat_lit 2448=nat_lit 2448∧[Ct.str,Ct.bool,Ct.sl true PPC]=[.str,Ct.bool,Ct.sl true PPC]∧nat_lit 73=nat_lit 73)∧(520=nat_lit 520∧nat_lit 522=nat_lit 522∧nat_lit 524=nat_lit 524∧nat_lit 526=nat_lit 526∧nat_lit 3=nat_lit 3∧nat_lit 77=nat_lit 77∧nat_lit 73=nat_lit 73∧nat_lit 64=nat_lit 64)∧n.int=(↑(List.length (List.set X (Int.toNat i.int) (U.l (patchU (U.list (nth (U.i 0) X (Int.toNat i.int))) 2 [U.l (U.list (nth (U.i 0) (List.tail (List.tail (U.list (nth (U.i 0) X (Int.toNat i.int))))) (0:Nat)))])))):Int)∧(0:Int)≤IntKind.wrap .i64 (i.int + 1)∧IntKind.wrap .i64 (i.int + 1)≤n.int∧List.length (List.set X (Int.toNat i.int) (U.l (patchU (U.list (nth (U.i 0) X (Int.toNat i.int))) 2 [U.l (U.list (nth (U.i 0) (List.tail (List.tail (U.list (nth (U.i 0) X (Int.toNat i.int))))) (0:Nat)))])))≤(1073741824:Nat)∧∀ (x:U),x ∈ List.drop (Int.toNat (IntKind.wrap .i64 (i.int + 1))) (List.set X (Int.toNat i.int) (U.l (patchU (U.list (nth (U.i 0) X (Int.toNat i.int))) 2 [U.l (U.list (nth (U.i 0) (List.tail (List.tail (U.list (nth (U.i 0) X (Int.toNat i.int))))) (0:Nat)))])))→tabP (U.list (shT x)))∧k (Ex.exit 0) (St.mk [(2,.ptr 256 0),(1,.val (.sl false [.int .u8]) F),(4,.ptr 512 0)] [(256,.box [vi c,vi z,.val .str s,.val (.sl false [.sl true EC]) T,.own 2448,.val (.sl true [.str,Ct.bool,Ct.sl true PPC]) M,.val (.sl false [.int .i64]) Q]),(2448,.arr 73 (List.take (Int.toNat (IntKind.wrap .i64 (i.int + 1))) (List.set X (Int.toNat i.int) (U.l (patchU (U.list (nth (U.i 0) X (Int.toNat i.int))) 2 [U.l (U.list (nth (U.i 0) (List.tail (List.tail (U.list (nth (U.i 0) X (Int.toNat i.int))))) (0:Nat)))]))) ++ List.map (fun x=>shSet x (U.list (shT x))) (List.drop (Int.toNat (IntKind.wrap .i64 (i.int + 1))) (List.set X (Int.toNat i.int) (U.l (patchU (U.list (nth (U.i 0) X (Int.toNat i.int))) 2 [U.l (U.list (nth (U.i 0) (List.tail (List.tail (U.list (nth (U.i 0) X (Int.toNat i.int))))) (0:Nat)))])))))),(512,.box [vi r1,vi r2,.val .str r3,.own 520,.own 522,.own 524,.own 526]),(526,.arr 3 []),(524,.arr 77 []),(522,.arr 73 []),(520,.arr 64 [])]) else False else False else False else False) (bif Nat.blt (Int.toNat i.int) (List.length X) then (fun T=>Alt T T) (cutP [[nth (U.i 0) (List.tail (List.tail (U.list (nth (U.i 0) X (Int.toNat i.int))))) (0:Nat)],[U.i 4096]]∧bif decide ((0:Int)≤i.int∧i.int < (X.length:Int)) then bif Nat.blt (Int.toNat i.int) (List.length X) then bif Nat.blt (μ [vi (U.i (IntKind.wrap .i64 (i.int + 1))),vi n,.ptr 256 0,.val (.sl false [.int .u8]) F,.ptr 512 0] [.box [vi c,vi z,.val .str s,.val (.sl false [.sl true EC]) T,.own 2448,.val (.sl true [.str,Ct.bool,Ct.sl true PPC]) M,.val (.sl false [.int .i64]) Q],.arr 73 (List.set X (Int.toNat i.int) (U.l (patchU (U.list (nth (U.i 0) X (Int.toNat i.int))) 2 [U.l (U.list (nth (U.i 0) (List.tail (List.tail (U.list (nth (U.i 0) X (Int.toNat i.int))))) (0:Nat)))]))),.box [vi r1,vi r2,.val .str r3,.own 520,.own 522,.own 524,.own 526],.arr 3 [],.arr 77 [],.arr 73 [],.arr 64 []]) N then ((256=nat_lit 256∧nat_lit 0=nat_lit 0∧nat_lit 512=nat_lit 512∧nat_lit 0=nat_lit 0∧EC=EC∧nat_lit 2448=nat_lit 2448∧[Ct.str,Ct.bool,Ct.sl true PPC]=[.str,Ct.bool,Ct.sl true PPC]∧nat_lit 73=nat_lit 73)∧(520=nat_lit 520∧nat_lit 522=nat_lit 522∧nat_lit 524=nat_lit 524∧nat_lit 526=nat_lit 526∧nat_lit 3=nat_lit 3∧nat_lit 77=nat_lit 77∧nat_lit 73=nat_lit 73∧nat_lit 64=nat_lit 64)∧n.int=(↑(List.length (List.set X (Int.toNat i.int) (U.l (patchU (U.list (nth (U.i 0) X (Int.toNat i.int))) 2 [U.l (U.list (nth (U.i 0) (List.tail (List.tail (U.list (nth (U.i 0) X (Int.toNat i.int))))) (0:Nat)))])))):Int)∧(0:Int)≤IntKind.wrap .i64 (i.int + 1)∧IntKind.wrap .i64 (i.int + 1)≤n.int∧List.length (List.set X (Int.toNat i.int) (U.l (patchU (U.list (nth (U.i 0) X (Int.toNat i.int))) 2 [U.l (U.list (nth (U.i 0) (List.tail (List.tail (U.list (nth (U.i 0) X (Int.toNat i.int))))) (0:Nat)))])))≤(1073741824:Nat)∧∀ (x:U),x ∈ List.drop (Int.toNat (IntKind.wrap .i64 (i.int + 1))) (List.set X (Int.toNat i.int) (U.l (patchU (U.list (nth (U.i 0) X (Int.toNat i.int))) 2 [U.l (U.list (nth (U.i 0) (List.tail (List.tail (U.list (nth (U.i 0) X (Int.toNat i.int))))) (0:Nat)))])))→tabP (U.list (shT x)))∧k (Ex.exit 0) (St.mk [(2,.ptr 256 0),(1,.val (.sl false [.int .u8]) F),(4,.ptr 512 0)] [(256,.box [vi c,vi z,.val .str s,.val (.sl false [.sl true EC]) T,.own 2448,.val (.sl true [.str,Ct.bool,Ct.sl true PPC]) M,.val (.sl false [.int .i64]) Q]),(2448,.arr 73 (List.take (Int.toNat (IntKind.wrap .i64 (i.int + 1))) (List.set X (Int.toNat i.int) (U.l (patchU (U.list (nth (U.i 0) X (Int.toNat i.int))) 2 [U.l (U.list (nth (U.i 0) (List.tail (List.tail (U.list (nth (U.i 0) X (Int.toNat i.int))))) (0:Nat)))]))) ++ List.map (fun x=>shSet x (U.list (shT x))) (List.drop (Int.toNat (IntKind.wrap .i64 (i.int + 1))) (List.set X (Int.toNat i.int) (U.l (patchU (U.list (nth (U.i 0) X (Int.toNat i.int))) 2 [U.l (U.list (nth (U.i 0) (List.tail (List.tail (U.list (nth (U.i 0) X (Int.toNat i.int))))) (0:Nat)))])))))),(512,.box [vi r1,vi r2,.val .str r3,.own 520,.own 522,.own 524,.own 526]),(526,.arr 3 []),(524,.arr 77 []),(522,.arr 73 []),(520,.arr 64 [])]) else False else False else False) else False) else False) else k (Ex.exit 0) (St.mk [(2,.ptr 256 0),(1,.val (.sl false [.int .u8]) F),(4,.ptr 512 0)] [(256,.box [vi c,vi z,.val .str s,.val (.sl false [.sl true EC]) T,.own 2448,.val (.sl true [.str,Ct.bool,Ct.sl true PPC]) M,.val (.sl false [.int .i64]) Q]),(2448,.arr 73 X),(512,.box [vi r1,vi r2,.val .str r3,.own 520,.own 522,.own 524,.own 526]),(526,.arr 3 []),(524,.arr 77 []),(522,.arr 73 []),(520,.arr 64 [])])):=by kernel_rfl
theorem md_round2 (pan:KP) (μ:Mu) (N:Nat) (k:KE) (i n F c z s T Q r1 r2 r3:U) (X Y:List U):(exec (mdC.panics pan) (loopBody Try.f16 1) 2 ⟨[(46,vi i),(45,vi n),(2,.ptr 256 0),(1,.val (.sl false [.int .u8]) F),(4,.ptr 512 0)],[(256,.box [vi c,vi z,vs s,.val TRC T,.own 2448,.own 5264,vl (.int .i64) Q]),(2448,.arr 73 X),(5264,.arr 77 Y),(512,.box [vi r1,vi r2,vs r3,.own 520,.own 522,.own 524,.own 526]),(526,.arr 3 []),(524,.arr 77 []),(522,.arr 73 []),(520,.arr 64 [])]⟩ (again PR (some ([2,1,4],[256,2448,5264,512,526,524,522,520])) none pan [46,45,2,1,4] [256,2448,5264,512,526,524,522,520] mdLoop2 μ N k))=(bif decide (i.int < n.int) then Alt (bif decide ((0:Int)≤i.int∧i.int < (Y.length:Int)) then bif Nat.blt (Int.toNat i.int) (List.length Y) then (PPC=PPC∧List.length (U.list (nth (U.i 0) (List.tail (List.tail (U.list (nth (U.i 0) Y (Int.toNat i.int))))) (0:Nat)))≤(1073741824:Nat))∧bif decide ((0:Int)≤i.int∧i.int < (Y.length:Int)) then bif Nat.blt (Int.toNat i.int) (List.length Y) then bif Nat.blt (μ [vi (U.i (IntKind.wrap .i64 (i.int + 1))),vi n,.ptr 256 0,.val (.sl false [.int .u8]) F,.ptr 512 0] [.box [vi c,vi z,.val .str s,.val (.sl false [.sl true EC]) T,.own 2448,.own 5264,.val (.sl false [.int .i64]) Q],.arr 73 X,.arr 77 (List.set Y (Int.toNat i.int) (U.l (patchU (U.list (nth (U.i 0) Y (Int.toNat i.int))) 2 [U.l (U.list (nth (U.i 0) (List.tail (List.tail (U.list (nth (U.i 0) Y (Int.toNat i.int))))) (0:Nat)))]))),.box [vi r1,vi r2,.val .str r3,.own 520,.own 522,.own 524,.own 526],.arr 3 [],.arr 77 [],.arr 73 [],.arr 64 []]) N then ((256=nat_lit 256∧nat_lit 0=nat_lit 0∧nat_lit 512=nat_lit 512∧nat_lit 0=nat_lit 0∧EC=EC∧nat_lit 2448=nat_lit 2448∧nat_lit 5264=nat_lit 5264∧nat_lit 73=nat_lit 73∧nat_lit 77=nat_lit 77)∧(520=nat_lit 520∧nat_lit 522=nat_lit 522∧nat_lit 524=nat_lit 524∧nat_lit 526=nat_lit 526∧nat_lit 3=nat_lit 3∧nat_lit 77=nat_lit 77∧nat_lit 73=nat_lit 73∧nat_lit 64=nat_lit 64)∧n.int=(↑(List.length (List.set Y (Int.toNat i.int) (U.l (patchU (U.list (nth (U.i 0) Y (Int.toNat i.int))) 2 [U.l (U.list (nth (U.i 0) (List.tail (List.tail (U.list (nth (U.i 0) Y (Int.toNat i.int))))) (0:Nat)))])))):Int)∧(0:Int)≤IntKind.wrap .i64 (i.int + 1)∧IntKind.wrap .i64 (i.int + 1)≤n.int∧List.length (List.set Y (Int.toNat i.int) (U.l (patchU (U.list (nth (U.i 0) Y (Int.toNat i.int))) 2 [U.l (U.list (nth (U.i 0) (List.tail (List.tail (U.list (nth (U.i 0) Y (Int.toNat i.int))))) (0:Nat)))])))≤(1073741824:Nat)∧∀ (x:U),x ∈ List.drop (Int.toNat (IntKind.wrap .i64 (i.int + 1))) (List.set Y (Int.toNat i.int) (U.l (patchU (U.list (nth (U.i 0) Y (Int.toNat i.int))) 2 [U.l (U.list (nth (U.i 0) (List.tail (List.tail (U.list (nth (U.i 0) Y (Int.toNat i.int))))) (0:Nat)))])))→List.length (mpL x)≤(1073741824:Nat))∧k (Ex.exit 2) (St.mk [(2,.ptr 256 0),(1,.val (.sl false [.int .u8]) F),(4,.ptr 512 0)] [(256,.box [vi c,vi z,.val .str s,.val (.sl false [.sl true EC]) T,.own 2448,.own 5264,.val (.sl false [.int .i64]) Q]),(2448,.arr 73 X),(5264,.arr 77 (List.take (Int.toNat (IntKind.wrap .i64 (i.int + 1))) (List.set Y (Int.toNat i.int) (U.l (patchU (U.list (nth (U.i 0) Y (Int.toNat i.int))) 2 [U.l (U.list (nth (U.i 0) (List.tail (List.tail (U.list (nth (U.i 0) Y (Int.toNat i.int))))) (0:Nat)))]))) ++ List.map mpSet (List.drop (Int.toNat (IntKind.wrap .i64 (i.int + 1))) (List.set Y (Int.toNat i.int) (U.l (patchU (U.list (nth (U.i 0) Y (Int.toNat i.int))) 2 [U.l (U.list (nth (U.i 0) (List.tail (List.tail (U.list (nth (U.i 0) Y (Int.toNat i.int))))) (0:Nat)))])))))),(512,.box [vi r1,vi r2,.val .str r3,.own 520,.own 522,.own 524,.own 526]),(526,.arr 3 []),(524,.arr 77 []),(522,.arr 73 []),(520,.arr 64 [])]) else False else False else False else False else False) (bif decide ((0:Int)≤i.int∧i.int < (Y.length:Int)) then Alt (bif Nat.blt (Int.toNat i.int) (List.length Y) then (PPC=PPC∧List.length (U.list (nth (U.i 0) (List.tail (List.tail (U.list (nth (U.i 0) Y (Int.toNat i.int))))) (0:Nat)))≤(1073741824:Nat))∧bif decide ((0:Int)≤i.int∧i.int < (Y.length:Int)) then bif Nat.blt (Int.toNat i.int) (List.length Y) then bif Nat.blt (μ [vi (U.i (IntKind.wrap .i64 (i.int + 1))),vi n,.ptr 256 0,.val (.sl false [.int .u8]) F,.ptr 512 0] [.box [vi c,vi z,.val .str s,.val (.sl false [.sl true EC]) T,.own 2448,.own 5264,.val (.sl false [.int .i64]) Q],.arr 73 X,.arr 77 (List.set Y (Int.toNat i.int) (U.l (patchU (U.list (nth (U.i 0) Y (Int.toNat i.int))) 2 [U.l (U.list (nth (U.i 0) (List.tail (List.tail (U.list (nth (U.i 0) Y (Int.toNat i.int))))) (0:Nat)))]))),.box [vi r1,vi r2,.val .str r3,.own 520,.own 522,.own 524,.own 526],.arr 3 [],.arr 77 [],.arr 73 [],.arr 64 []]) N then ((256=nat_lit 256∧nat_lit 0=nat_lit 0∧nat_lit 512=nat_lit 512∧nat_lit 0=nat_lit 0∧EC=EC∧nat_lit 2448=nat_lit 2448∧nat_lit 5264=nat_lit 5264∧nat_lit 73=nat_lit 73∧nat_lit 77=nat_lit 77)∧(520=nat_lit 520∧nat_lit 522=nat_lit 522∧nat_lit 524=nat_lit 524∧nat_lit 526=nat_lit 526∧nat_lit 3=nat_lit 3∧nat_lit 77=nat_lit 77∧nat_lit 73=nat_lit 73∧nat_lit 64=nat_lit 64)∧n.int=(↑(List.length (List.set Y (Int.toNat i.int) (U.l (patchU (U.list (nth (U.i 0) Y (Int.toNat i.int))) 2 [U.l (U.list (nth (U.i 0) (List.tail (List.tail (U.list (nth (U.i 0) Y (Int.toNat i.int))))) (0:Nat)))])))):Int)∧(0:Int)≤IntKind.wrap .i64 (i.int + 1)∧IntKind.wrap .i64 (i.int + 1)≤n.int∧List.length (List.set Y (Int.toNat i.int) (U.l (patchU (U.list (nth (U.i 0) Y (Int.toNat i.int))) 2 [U.l (U.list (nth (U.i 0) (List.tail (List.tail (U.list (nth (U.i 0) Y (Int.toNat i.int))))) (0:Nat)))])))≤(1073741824:Nat)∧∀ (x:U),x ∈ List.drop (Int.toNat (IntKind.wrap .i64 (i.int + 1))) (List.set Y (Int.toNat i.int) (U.l (patchU (U.list (nth (U.i 0) Y (Int.toNat i.int))) 2 [U.l (U.list (nth (U.i 0) (List.tail (List.tail (U.list (nth (U.i 0) Y (Int.toNat i.int))))) (0:Nat)))])))→List.length (mpL x)≤(1073741824:Nat))∧k (Ex.exit 2) (St.mk [(2,.ptr 256 0),(1,.val (.sl false [.int .u8]) F),(4,.ptr 512 0)] [(256,.box [vi c,vi z,.val .str s,.val (.sl false [.sl true EC]) T,.own 2448,.own 5264,.val (.sl false [.int .i64]) Q]),(2448,.arr 73 X),(5264,.arr 77 (List.take (Int.toNat (IntKind.wrap .i64 (i.int + 1))) (List.set Y (Int.toNat i.int) (U.l (patchU (U.list (nth (U.i 0) Y (Int.toNat i.int))) 2 [U.l (U.list (nth (U.i 0) (List.tail (List.tail (U.list (nth (U.i 0) Y (Int.toNat i.int))))) (0:Nat)))]))) ++ List.map mpSet (List.drop (Int.toNat (IntKind.wrap .i64 (i.int + 1))) (List.set Y (Int.toNat i.int) (U.l (patchU (U.list (nth (U.i 0) Y (Int.toNat i.int))) 2 [U.l (U.list (nth (U.i 0) (List.tail (List.tail (U.list (nth (U.i 0) Y (Int.toNat i.int))))) (0:Nat)))])))))),(512,.box [vi r1,vi r2,.val .str r3,.own 520,.own 522,.own 524,.own 526]),(526,.arr 3 []),(524,.arr 77 []),(522,.arr 73 []),(520,.arr 64 [])]) else False else False else False else False) (bif Nat.blt (Int.toNat i.int) (List.length Y) then (fun T=>Alt T T) ((PPC=PPC∧List.length (U.list (nth (U.i 0) (List.tail (List.tail (U.list (nth (U.i 0) Y (Int.toNat i.int))))) (0:Nat)))≤(1073741824:Nat))∧bif decide ((0:Int)≤i.int∧i.int < (Y.length:Int)) then bif Nat.blt (Int.toNat i.int) (List.length Y) then bif Nat.blt (μ [vi (U.i (IntKind.wrap .i64 (i.int + 1))),vi n,.ptr 256 0,.val (.sl false [.int .u8]) F,.ptr 512 0] [.box [vi c,vi z,.val .str s,.val (.sl false [.sl true EC]) T,.own 2448,.own 5264,.val (.sl false [.int .i64]) Q],.arr 73 X,.arr 77 (List.set Y (Int.toNat i.int) (U.l (patchU (U.list (nth (U.i 0) Y (Int.toNat i.int))) 2 [U.l (U.list (nth (U.i 0) (List.tail (List.tail (U.list (nth (U.i 0) Y (Int.toNat i.int))))) (0:Nat)))]))),.box [vi r1,vi r2,.val .str r3,.own 520,.own 522,.own 524,.own 526],.arr 3 [],.arr 77 [],.arr 73 [],.arr 64 []]) N then ((256=nat_lit 256∧nat_lit 0=nat_lit 0∧nat_lit 512=nat_lit 512∧nat_lit 0=nat_lit 0∧EC=EC∧nat_lit 2448=nat_lit 2448∧nat_lit 5264=nat_lit 5264∧nat_lit 73=nat_lit 73∧nat_lit 77=nat_lit 77)∧(520=nat_lit 520∧nat_lit 522=nat_lit 522∧nat_lit 524=nat_lit 524∧nat_lit 526=nat_lit 526∧nat_lit 3=nat_lit 3∧nat_lit 77=nat_lit 77∧nat_lit 73=nat_lit 73∧nat_lit 64=nat_lit 64)∧n.int=(↑(List.length (List.set Y (Int.toNat i.int) (U.l (patchU (U.list (nth (U.i 0) Y (Int.toNat i.int))) 2 [U.l (U.list (nth (U.i 0) (List.tail (List.tail (U.list (nth (U.i 0) Y (Int.toNat i.int))))) (0:Nat)))])))):Int)∧(0:Int)≤IntKind.wrap .i64 (i.int + 1)∧IntKind.wrap .i64 (i.int + 1)≤n.int∧List.length (List.set Y (Int.toNat i.int) (U.l (patchU (U.list (nth (U.i 0) Y (Int.toNat i.int))) 2 [U.l (U.list (nth (U.i 0) (List.tail (List.tail (U.list (nth (U.i 0) Y (Int.toNat i.int))))) (0:Nat)))])))≤(1073741824:Nat)∧∀ (x:U),x ∈ List.drop (Int.toNat (IntKind.wrap .i64 (i.int + 1))) (List.set Y (Int.toNat i.int) (U.l (patchU (U.list (nth (U.i 0) Y (Int.toNat i.int))) 2 [U.l (U.list (nth (U.i 0) (List.tail (List.tail (U.list (nth (U.i 0) Y (Int.toNat i.int))))) (0:Nat)))])))→List.length (mpL x)≤(1073741824:Nat))∧k (Ex.exit 2) (St.mk [(2,.ptr 256 0),(1,.val (.sl false [.int .u8]) F),(4,.ptr 512 0)] [(256,.box [vi c,vi z,.val .str s,.val (.sl false [.sl true EC]) T,.own 2448,.own 5264,.val (.sl false [.int .i64]) Q]),(2448,.arr 73 X),(5264,.arr 77 (List.take (Int.toNat (IntKind.wrap .i64 (i.int + 1))) (List.set Y (Int.toNat i.int) (U.l (patchU (U.list (nth (U.i 0) Y (Int.toNat i.int))) 2 [U.l (U.list (nth (U.i 0) (List.tail (List.tail (U.list (nth (U.i 0) Y (Int.toNat i.int))))) (0:Nat)))]))) ++ List.map mpSet (List.drop (Int.toNat (IntKind.wrap .i64 (i.int + 1))) (List.set Y (Int.toNat i.int) (U.l (patchU (U.list (nth (U.i 0) Y (Int.toNat i.int))) 2 [U.l (U.list (nth (U.i 0) (List.tail (List.tail (U.list (nth (U.i 0) Y (Int.toNat i.int))))) (0:Nat)))])))))),(512,.box [vi r1,vi r2,.val .str r3,.own 520,.own 522,.own 524,.own 526]),(526,.arr 3 []),(524,.arr 77 []),(522,.arr 73 []),(520,.arr 64 [])]) else False else False else False) else False) else False) else k (Ex.exit 2) (St.mk [(2,.ptr 256 0),(1,.val (.sl false [.int .u8]) F),(4,.ptr 512 0)] [(256,.box [vi c,vi z,.val .str s,.val (.sl false [.sl true EC]) T,.own 2448,.own 5264,.val (.sl false [.int .i64]) Q]),(2448,.arr 73 X),(5264,.arr 77 Y),(512,.box [vi r1,vi r2,.val .str r3,.own 520,.own 522,.own 524,.own 526]),(526,.arr 3 []),(524,.arr 77 []),(522,.arr 73 []),(520,.arr 64 [])])):=by kernel_rfl
theorem md_tree (R:RF) (c z s T Sh M Q F:U):(run mdC Try.f16 [[c,z,s,T,Sh,M,Q],[F]] R)=(bif !metaR c z s T Sh M Q then R [[U.i 0,U.i 0,U.s ⟨#[]⟩,U.l [],U.l [],U.l [],U.l []],[U.i 1]] else (fun T=>Alt T (Alt T T)) (badP [[c,z,s,T,Sh,M,Q],[U.l (whU F)]]∧((EC=EC∧[Ct.str,.int .i64,Ct.sl false [Ct.sl true EC]]=[.str,.int .i64,Ct.sl false [.sl true EC]]∧[Ct.str,Ct.bool,Ct.sl true PPC]=[.str,Ct.bool,Ct.sl true PPC]∧PPC=PPC)∧List.length (bdU c z s T Sh M Q F)≤(1073741824:Nat)∧woOk T.list Sh.list (bdU c z s T Sh M Q F))∧((256=nat_lit 256∧nat_lit 0=nat_lit 0∧nat_lit 512=nat_lit 512∧nat_lit 0=nat_lit 0∧EC=EC∧nat_lit 2448=nat_lit 2448∧[Ct.str,Ct.bool,Ct.sl true PPC]=[.str,Ct.bool,Ct.sl true PPC]∧nat_lit 73=nat_lit 73)∧(520=nat_lit 520∧nat_lit 522=nat_lit 522∧nat_lit 524=nat_lit 524∧nat_lit 526=nat_lit 526∧nat_lit 3=nat_lit 3∧nat_lit 77=nat_lit 77∧nat_lit 73=nat_lit 73∧nat_lit 64=nat_lit 64)∧(↑(List.length (Prod.snd (woU c z s T Sh M Q F))):Int)=(↑(List.length (Prod.snd (woU c z s T Sh M Q F))):Int)∧(0:Int)≤0∧(0:Int)≤(↑(List.length (Prod.snd (woU c z s T Sh M Q F))):Int)∧List.length (Prod.snd (woU c z s T Sh M Q F))≤(1073741824:Nat)∧∀ (x:U),x ∈ List.drop (Int.toNat 0) (Prod.snd (woU c z s T Sh M Q F))→tabP (U.list (shT x)))∧([Ct.str,Ct.bool,Ct.sl true PPC]=[.str,Ct.bool,Ct.sl true PPC]∧M.list.length≤(1073741824:Nat))∧((256=nat_lit 256∧nat_lit 0=nat_lit 0∧nat_lit 512=nat_lit 512∧nat_lit 0=nat_lit 0∧EC=EC∧nat_lit 2448=nat_lit 2448∧nat_lit 5264=nat_lit 5264∧nat_lit 73=nat_lit 73∧nat_lit 77=nat_lit 77)∧(520=nat_lit 520∧nat_lit 522=nat_lit 522∧nat_lit 524=nat_lit 524∧nat_lit 526=nat_lit 526∧nat_lit 3=nat_lit 3∧nat_lit 77=nat_lit 77∧nat_lit 73=nat_lit 73∧nat_lit 64=nat_lit 64)∧(M.list.length:Int)=(M.list.length:Int)∧(0:Int)≤0∧(0:Int)≤(M.list.length:Int)∧M.list.length≤(1073741824:Nat)∧∀ (x:U),x ∈ List.drop (Int.toNat 0) M.list→List.length (mpL x)≤(1073741824:Nat))∧((EC=EC∧[Ct.str,.int .i64,Ct.sl false [Ct.sl true EC]]=[.str,.int .i64,Ct.sl false [.sl true EC]]∧[Ct.str,Ct.bool,Ct.sl true PPC]=[.str,Ct.bool,Ct.sl true PPC])∧((0:Int)≤szU F∧szU F≤65536)∧ofP [[c,z,s,U.l (Prod.fst (woU c z s T Sh M Q F)),U.l (List.take (Int.toNat 0) (Prod.snd (woU c z s T Sh M Q F)) ++ List.map (fun x=>shSet x (U.list (shT x))) (List.drop (Int.toNat 0) (Prod.snd (woU c z s T Sh M Q F)))),U.l (List.take (Int.toNat 0) M.list ++ List.map mpSet (List.drop (Int.toNat 0) M.list)),Q],[U.i (szU F)]])∧R [[c,z,s,U.l (Prod.fst (woU c z s T Sh M Q F)),U.l (List.take (Int.toNat 0) (Prod.snd (woU c z s T Sh M Q F)) ++ List.map (fun x=>shSet x (U.list (shT x))) (List.drop (Int.toNat 0) (Prod.snd (woU c z s T Sh M Q F)))),U.l (List.take (Int.toNat 0) M.list ++ List.map mpSet (List.drop (Int.toNat 0) M.list)),U.l (ofV (linesM [[c,z,s,U.l (Prod.fst (woU c z s T Sh M Q F)),U.l (List.take (Int.toNat 0) (Prod.snd (woU c z s T Sh M Q F)) ++ List.map (fun x=>shSet x (U.list (shT x))) (List.drop (Int.toNat 0) (Prod.snd (woU c z s T Sh M Q F)))),U.l (List.take (Int.toNat 0) M.list ++ List.map mpSet (List.drop (Int.toNat 0) M.list)),Q],[U.i (szU F)]]) (Int.toNat (szU F)))],[U.i 0]])):=by kernel_rfl
theorem mdT_tree (R:RT) (c z s T Sh M Q F:U):(runD mdC Try.f16 [.agg [vi c,vi z,vs s,.val TRC T,vt SC Sh,vt BC M,vl (.int .i64) Q],vl (.int .u8) F] [] R)=(bif !metaR c z s T Sh M Q then R (Out.ret [.agg [vi (U.i 0),vi (U.i 0),.val .str (U.s ⟨#[]⟩),.own 2097152,.own 2097280,.own 2097408,.own 2097536],vi (U.i 1)]) [(2097152,.arr 64 []),(2097280,.arr 73 []),(2097408,.arr 77 []),(2097536,.arr 3 [])] else (fun T=>Alt T (Alt T T)) (badP [[c,z,s,T,Sh,M,Q],[U.l (whU F)]]∧((EC=EC∧[Ct.str,.int .i64,Ct.sl false [Ct.sl true EC]]=[.str,.int .i64,Ct.sl false [.sl true EC]]∧[Ct.str,Ct.bool,Ct.sl true PPC]=[.str,Ct.bool,Ct.sl true PPC]∧PPC=PPC)∧List.length (bdU c z s T Sh M Q F)≤(1073741824:Nat)∧woOk T.list Sh.list (bdU c z s T Sh M Q F))∧((256=nat_lit 256∧nat_lit 0=nat_lit 0∧nat_lit 512=nat_lit 512∧nat_lit 0=nat_lit 0∧EC=EC∧nat_lit 2448=nat_lit 2448∧[Ct.str,Ct.bool,Ct.sl true PPC]=[.str,Ct.bool,Ct.sl true PPC]∧nat_lit 73=nat_lit 73)∧(520=nat_lit 520∧nat_lit 522=nat_lit 522∧nat_lit 524=nat_lit 524∧nat_lit 526=nat_lit 526∧nat_lit 3=nat_lit 3∧nat_lit 77=nat_lit 77∧nat_lit 73=nat_lit 73∧nat_lit 64=nat_lit 64)∧(↑(List.length (Prod.snd (woU c z s T Sh M Q F))):Int)=(↑(List.length (Prod.snd (woU c z s T Sh M Q F))):Int)∧(0:Int)≤0∧(0:Int)≤(↑(List.length (Prod.snd (woU c z s T Sh M Q F))):Int)∧List.length (Prod.snd (woU c z s T Sh M Q F))≤(1073741824:Nat)∧∀ (x:U),x ∈ List.drop (Int.toNat 0) (Prod.snd (woU c z s T Sh M Q F))→tabP (U.list (shT x)))∧([Ct.str,Ct.bool,Ct.sl true PPC]=[.str,Ct.bool,Ct.sl true PPC]∧M.list.length≤(1073741824:Nat))∧((256=nat_lit 256∧nat_lit 0=nat_lit 0∧nat_lit 512=nat_lit 512∧nat_lit 0=nat_lit 0∧EC=EC∧nat_lit 2448=nat_lit 2448∧nat_lit 5264=nat_lit 5264∧nat_lit 73=nat_lit 73∧nat_lit 77=nat_lit 77)∧(520=nat_lit 520∧nat_lit 522=nat_lit 522∧nat_lit 524=nat_lit 524∧nat_lit 526=nat_lit 526∧nat_lit 3=nat_lit 3∧nat_lit 77=nat_lit 77∧nat_lit 73=nat_lit 73∧nat_lit 64=nat_lit 64)∧(M.list.length:Int)=(M.list.length:Int)∧(0:Int)≤0∧(0:Int)≤(M.list.length:Int)∧M.list.length≤(1073741824:Nat)∧∀ (x:U),x ∈ List.drop (Int.toNat 0) M.list→List.length (mpL x)≤(1073741824:Nat))∧((EC=EC∧[Ct.str,.int .i64,Ct.sl false [Ct.sl true EC]]=[.str,.int .i64,Ct.sl false [.sl true EC]]∧[Ct.str,Ct.bool,Ct.sl true PPC]=[.str,Ct.bool,Ct.sl true PPC])∧((0:Int)≤szU F∧szU F≤65536)∧ofP [[c,z,s,U.l (Prod.fst (woU c z s T Sh M Q F)),U.l (List.take (Int.toNat 0) (Prod.snd (woU c z s T Sh M Q F)) ++ List.map (fun x=>shSet x (U.list (shT x))) (List.drop (Int.toNat 0) (Prod.snd (woU c z s T Sh M Q F)))),U.l (List.take (Int.toNat 0) M.list ++ List.map mpSet (List.drop (Int.toNat 0) M.list)),Q],[U.i (szU F)]])∧R (Out.ret [.agg [vi c,vi z,.val .str s,.val (.sl false [.sl true EC]) (U.l (Prod.fst (woU c z s T Sh M Q F))),.val (.sl true [.str,.int .i64,Ct.sl false [.sl true EC]]) (U.l (List.take (Int.toNat 0) (Prod.snd (woU c z s T Sh M Q F)) ++ List.map (fun x=>shSet x (U.list (shT x))) (List.drop (Int.toNat 0) (Prod.snd (woU c z s T Sh M Q F))))),.val (.sl true [.str,Ct.bool,Ct.sl true PPC]) (U.l (List.take (Int.toNat 0) M.list ++ List.map mpSet (List.drop (Int.toNat 0) M.list))),.own 2097152],vi (U.i 0)]) [(2097152,.arr 3 (ofV (linesM [[c,z,s,U.l (Prod.fst (woU c z s T Sh M Q F)),U.l (List.take (Int.toNat 0) (Prod.snd (woU c z s T Sh M Q F)) ++ List.map (fun x=>shSet x (U.list (shT x))) (List.drop (Int.toNat 0) (Prod.snd (woU c z s T Sh M Q F)))),U.l (List.take (Int.toNat 0) M.list ++ List.map mpSet (List.drop (Int.toNat 0) M.list)),Q],[U.i (szU F)]]) (Int.toNat (szU F))))])):=by kernel_rfl
end Go.Mat

namespace Go.Mat
open Go Go.Den Go.Proofs
set_option maxRecDepth 100000
abbrev cutSh (x:U):U:=shSet x (shT x).list
theorem map_step {f:U→U} {X:List U} {i:Nat} (hi:i < X.length):(X.set i (f (U.at X i))).take (i + 1) ++ ((X.set i (f (U.at X i))).drop (i + 1)).map f=X.take i ++ (X.drop i).map f:=by
 rw [drop_cons_at hi,List.map_cons]
 have h1:(X.set i (f (U.at X i))).drop (i + 1)=X.drop (i + 1):=by rw [List.drop_set_of_lt (by omega)]
 have h2:(X.set i (f (U.at X i))).take (i + 1)=X.take i ++ [f (U.at X i)]:=by
  rw [List.take_succ_eq_append_getElem (by rw [List.length_set];exact hi),List.getElem_set_self,List.take_set_of_le (by omega)]
 rw [h1,h2,List.append_assoc]
 rfl
theorem drop_set_in {X:List U} {i:Nat} {y x:U} (h:x ∈ (X.set i y).drop (i + 1)):x ∈ X.drop i:=by
 rw [List.drop_set_of_lt (by omega)] at h
 exact List.drop_subset_drop_left X (by omega:i≤i + 1) h
theorem md_loop0:LoopOk mdC 0 (loopBody Try.f16 0):=by
 refine loopOk_of (F:=mdLoop0) (ts:=[23,22,2,1,4]) (os:=[256,2448,512,526,524,522,520]) rfl (fun svs _=>match svs with | .val _ i :: .val _ n :: _=>(n.int - i.int).toNat | _=>0) ?_
 intro pan svs os k ho1 ho2 h
 unfold mdLoop0 at h
 split at h
 ·rename_i i n p q F p4 q4 c z s x1 T o x2 M Q t X r1 r2 r3 o1 o2 o3 o4 t4 t3 t2 t1
  obtain ⟨⟨⟨rfl,rfl,rfl,rfl,rfl,rfl,rfl,rfl⟩,⟨rfl,rfl,rfl,rfl,rfl,rfl,rfl,rfl⟩,hn,h0,hin,hX,hT⟩,hk⟩:=h
  refine .eq (md_round0 pan _ _ k i n F c z s T M Q r1 r2 r3 X) ?_
  refine bd (fun hlt=>?_) (fun hlt=>?_)
  ·have hi:i.int.toNat < X.length:=by omega
   have hwi:IntKind.wrap .i64 (i.int + 1)=i.int + 1:=i64_in (by omega) (by omega)
   have hc:(i.int + 1).toNat=i.int.toNat + 1:=by omega
   have e1:decide ((0:Int)≤i.int∧i.int < (X.length:Int))=true:=decide_eq_true ⟨h0,by omega⟩
   have e2:Nat.blt i.int.toNat X.length=true:=by simpa [Nat.blt_eq] using hi
   have hm:U.at X i.int.toNat ∈ X.drop i.int.toNat:=by rw [drop_cons_at hi];exact List.mem_cons_self ..
   have hs:=map_step (f:=cutSh) hi
   have hfe:U.l (patchU (U.list (nth (U.i 0) X (Int.toNat i.int))) 2 [U.l (U.list (nth (U.i 0) (List.tail (List.tail (U.list (nth (U.i 0) X (Int.toNat i.int))))) (0:Nat)))])=cutSh (U.at X i.int.toNat):=rfl
   simp only [e1,e2,cond_true,Alt_self]
   rw [hwi,hc,hfe,hs]
   refine ⟨⟨hT _ hm,rfl⟩,blt (by simp only [U.int_i];omega) ⟨⟨⟨by trivial,by trivial,by trivial,by trivial,by trivial,by trivial,by trivial,by trivial⟩,⟨by trivial,by trivial,by trivial,by trivial,by trivial,by trivial,by trivial,by trivial⟩,by rw [List.length_set];exact hn,by omega,by omega,by rw [List.length_set];exact hX,fun x hx=>hT x (drop_set_in hx)⟩,hk⟩⟩
  ·have hd:X.drop i.int.toNat=[]:=List.drop_eq_nil_of_le (by omega)
   have ht:X.take i.int.toNat=X:=List.take_of_length_le (by omega)
   rw [hd,ht,List.map_nil,List.append_nil] at hk
   exact hk
 ·exact h.elim
theorem md_loop2:LoopOk mdC 2 (loopBody Try.f16 1):=by
 refine loopOk_of (F:=mdLoop2) (ts:=[46,45,2,1,4]) (os:=[256,2448,5264,512,526,524,522,520]) rfl (fun svs _=>match svs with | .val _ i :: .val _ n :: _=>(n.int - i.int).toNat | _=>0) ?_
 intro pan svs os k ho1 ho2 h
 unfold mdLoop2 at h
 split at h
 ·rename_i i n p q F p4 q4 c z s x1 T o o5 Q t X t5 Y r1 r2 r3 o1 o2 o3 o4 t4 t3 t2 t1
  obtain ⟨⟨⟨rfl,rfl,rfl,rfl,rfl,rfl,rfl,rfl,rfl⟩,⟨rfl,rfl,rfl,rfl,rfl,rfl,rfl,rfl⟩,hn,h0,hin,hX,hT⟩,hk⟩:=h
  refine .eq (md_round2 pan _ _ k i n F c z s T Q r1 r2 r3 X Y) ?_
  refine bd (fun hlt=>?_) (fun hlt=>?_)
  ·have hi:i.int.toNat < Y.length:=by omega
   have hwi:IntKind.wrap .i64 (i.int + 1)=i.int + 1:=i64_in (by omega) (by omega)
   have hc:(i.int + 1).toNat=i.int.toNat + 1:=by omega
   have e1:decide ((0:Int)≤i.int∧i.int < (Y.length:Int))=true:=decide_eq_true ⟨h0,by omega⟩
   have e2:Nat.blt i.int.toNat Y.length=true:=by simpa [Nat.blt_eq] using hi
   have hm:U.at Y i.int.toNat ∈ Y.drop i.int.toNat:=by rw [drop_cons_at hi];exact List.mem_cons_self ..
   have hs:=map_step (f:=mpSet) hi
   have hfe:U.l (patchU (U.list (nth (U.i 0) Y (Int.toNat i.int))) 2 [U.l (U.list (nth (U.i 0) (List.tail (List.tail (U.list (nth (U.i 0) Y (Int.toNat i.int))))) (0:Nat)))])=mpSet (U.at Y i.int.toNat):=rfl
   simp only [e1,e2,cond_true,Alt_self]
   rw [hwi,hc,hfe,hs]
   refine ⟨⟨by trivial,hT _ hm⟩,blt (by simp only [U.int_i];omega) ⟨⟨⟨by trivial,by trivial,by trivial,by trivial,by trivial,by trivial,by trivial,by trivial,by trivial⟩,⟨by trivial,by trivial,by trivial,by trivial,by trivial,by trivial,by trivial,by trivial⟩,by rw [List.length_set];exact hn,by omega,by omega,by rw [List.length_set];exact hX,fun x hx=>hT x (drop_set_in hx)⟩,hk⟩⟩
  ·have hd:Y.drop i.int.toNat=[]:=List.drop_eq_nil_of_le (by omega)
   have ht:Y.take i.int.toNat=Y:=List.take_of_length_le (by omega)
   rw [hd,ht,List.map_nil,List.append_nil] at hk
   exact hk
 ·exact h.elim
theorem shotLines_cut:∀ (i:Int) (X:List U),shotLines i (X.map cutSh)=shotLines i X
 | _,[]=>rfl
 | i,x :: r=>by
  rw [List.map_cons,shotLines,shotLines,shotLines_cut (i + 1) r]
  have e:shT x=nth (.i 0) x.list 2:=by show nth _ x.list.tail.tail 0=_;rw [nth_tail,nth_tail]
  have e':shT (cutSh x)=nth (.i 0) (cutSh x).list 2:=by show nth _ (cutSh x).list.tail.tail 0=_;rw [nth_tail,nth_tail]
  rw [← e,← e',shT_shSet]
  rfl
def mdS:List (List U)→List (List U):=fun us=>match us with
 | [[c,z,s,T,Sh,M,Q],[F]]=>[[bif metaR c z s T Sh M Q then c else .i 0,bif metaR c z s T Sh M Q then z else .i 0,bif metaR c z s T Sh M Q then s else .s (ByteArray.mk #[]),.l (bif metaR c z s T Sh M Q then (woU c z s T Sh M Q F).1 else []),
   .l (bif metaR c z s T Sh M Q then (woU c z s T Sh M Q F).2.map cutSh else []),.l (bif metaR c z s T Sh M Q then M.list.map mpSet else []),.l (bif metaR c z s T Sh M Q then ofV (okM c z s T Sh M Q F) (szU F).toNat else [])],[.i (bif metaR c z s T Sh M Q then 0 else 1)]]
 | _=>[]
def mdP:List (List U)→Prop:=fun us=>mgP (nth (.i 0) (nth [] us 0) 3) (nth (.i 0) (nth [] us 0) 4)∧∀ x,x ∈ (nth (.i 0) (nth [] us 0) 5).list→(mpL x).length≤1073741824
theorem md_conds {c z s T Sh M Q F:U} (hr:metaR c z s T Sh M Q=true) (hpre:mgP T Sh):GM T.list Sh.list∧((bdU c z s T Sh M Q F).length≤36864∧∀ p,p ∈ bdU c z s T Sh M Q F→(U.at p.list 0).int < (Sh.list.length:Int))∧
  GM (woU c z s T Sh M Q F).1 (woU c z s T Sh M Q F).2∧M.list.length≤8∧(∀ X Y,linesM [[c,z,s,.l (woU c z s T Sh M Q F).1,.l ((woU c z s T Sh M Q F).2.map fun x=>shSet x (U.list (shT x))),X,Y],[.i (szU F)]]=okM c z s T Sh M Q F)∧
  GM (woU c z s T Sh M Q F).1 ((woU c z s T Sh M Q F).2.map cutSh):=by
 obtain ⟨hG,hQ,hML⟩:=GM.of_right hr hpre.1 hpre.2
 obtain ⟨b1,b2⟩:=GM.bad (F:=whU F) (c:=c.int) hG
 have hbe:bdU c z s T Sh M Q F=(badL (whU F) c.int (linesOf (.i (-1)) T.list ++ shotLines 0 Sh.list)).1:=rfl
 rw [← hbe] at b1 b2
 have i0:inFit (U.i 0).int:=⟨by decide,by decide⟩
 obtain ⟨hW,hWl⟩:=GM.wo (a:=.i 1) (e:=.i 0) (g:=.i 0) i0 i0 hG b2
 have hwe:woU c z s T Sh M Q F=woOf (.i 1) (.i 0) (.i 0) (.i 0) (.i 0) T.list Sh.list (bdU c z s T Sh M Q F):=rfl
 rw [← hwe] at hW hWl
 have hws:=hW.s
 have hlm:∀ X Y,linesM [[c,z,s,.l (woU c z s T Sh M Q F).1,.l ((woU c z s T Sh M Q F).2.map fun x=>shSet x (U.list (shT x))),X,Y],[.i (szU F)]]=okM c z s T Sh M Q F:=fun X Y=>by
  show linesOf (.i (-1)) (woU c z s T Sh M Q F).1 ++ shotLines 0 ((woU c z s T Sh M Q F).2.map cutSh)=_
  rw [shotLines_cut];rfl
 have hWc:GM (woU c z s T Sh M Q F).1 ((woU c z s T Sh M Q F).2.map cutSh):=⟨hW.t,by rw [List.length_map];exact hW.s,fun x hx=>by
  obtain ⟨y,hy,rfl⟩:=List.mem_map.1 hx
  rw [shT_shSet];exact hW.st y hy⟩
 exact ⟨hG,⟨b1,b2⟩,hW,hML,hlm,hWc⟩
theorem md_ok:SpecFP PR 16 mdP mdS:=fun fn us hfn hpre=>by
 have hf:PR.funcs[(16:Nat)]? = some Try.f16:=by kernel_rfl
 rw [hf] at hfn;cases hfn
 refine fn_okH (C:=mdC) (mkC_ok eqs0_ok mixed_ok (.cons meta_ok (.cons whole_ok (.consP bad_ok (.consP cut_ok .nil)))) (.cons wo_ok (.cons clb_ok (.cons (clp_ok.frz [2097152]) (.cons ofT_ok .nil))))) hf (by kernel_rfl) (loops_two (by kernel_rfl) md_loop0 md_loop2) fun hok=>?_
 have hp:Try.f16.params.toList=[41,25]:=by kernel_rfl
 rw [hp] at hok
 obtain ⟨u,u2,rfl,h1,h2⟩:=shape2 (by kernel_rfl:Cs PR 41=some (true,[.int .i64,.int .i64,.str,.sl false [.sl true EC],.sl true SC,.sl true BC,.sl false [.int .i64]])) (by kernel_rfl:Cs PR 25=some (false,[.sl false [.int .u8]])) hok.1
 obtain ⟨c,z,s,T,Sh,M,Q,rfl⟩:∃ a b c d e f g,u=[a,b,c,d,e,f,g]:=match u,h1 with | [a,b,c,d,e,f,g],_=>⟨a,b,c,d,e,f,g,rfl⟩
 obtain ⟨F,rfl⟩:=len1 h2
 clear hok h1 h2
 obtain ⟨hpre,hM⟩:mgP T Sh∧∀ x,x ∈ M.list→(mpL x).length≤1073741824:=hpre
 refine .eq (md_tree _ c z s T Sh M Q F) ?_
 refine bi (fun hr=>by simp only [mdS,nt hr,cond_false]) (fun hr=>?_)
 simp only [mdS,nf hr,cond_true]
 obtain ⟨hG,⟨b1,b2⟩,hW,hML,hlm,hWc⟩:=md_conds (F:=F) (nf hr) hpre
 have hws:=hW.s
 obtain ⟨n0,n1⟩:=szU_in F
 simp only [Int.toNat_zero,List.drop_zero,List.take_zero,List.nil_append,hlm,Alt_self]
 refine ⟨⟨hG.each.1,?_⟩,⟨⟨by trivial,by trivial,by trivial,by trivial⟩,by omega,hG.ok b2⟩,⟨⟨by trivial,by trivial,by trivial,by trivial,by trivial,by trivial,by trivial,by trivial⟩,⟨by trivial,by trivial,by trivial,by trivial,by trivial,by trivial,by trivial,by trivial⟩,by trivial,by omega,by omega,by omega,fun x hx=>(hW.st x hx).tab⟩,⟨by trivial,by omega⟩,⟨⟨by trivial,by trivial,by trivial,by trivial,by trivial,by trivial,by trivial,by trivial,by trivial⟩,⟨by trivial,by trivial,by trivial,by trivial,by trivial,by trivial,by trivial,by trivial⟩,by trivial,by omega,by omega,by omega,hM⟩,⟨⟨by trivial,by trivial,by trivial⟩,⟨n0,n1⟩,hWc.each.1,?_⟩,by trivial⟩
 ·have:=hG.each.2
  show (linesOf (.i (-1)) T.list ++ shotLines 0 Sh.list).length≤536870912
  omega
 ·rw [hlm];exact hW.fit
noncomputable def mdF:Tr:=fun args objs k=>match args,objs with
 | [.agg [.val (.int .i64) c,.val (.int .i64) z,.val .str s,.val (.sl false [.sl true x1]) T,.val (.sl true x3) Sh,.val (.sl true x2) M,.val (.sl false [.int .i64]) Q],.val (.sl false [.int .u8]) F],[]=>
  ((x1=EC∧x3=SC∧x2=BC)∧metaR c z s T Sh M Q=true∧mdP [[c,z,s,T,Sh,M,Q],[F]])∧
  k (.ret [.agg [vi c,vi z,vs s,.val TRC (.l (woU c z s T Sh M Q F).1),vt SC (.l ((woU c z s T Sh M Q F).2.map cutSh)),vt BC (.l (M.list.map mpSet)),.own 2097152],vi (.i 0)]) [(2097152,.arr 3 (ofV (okM c z s T Sh M Q F) (szU F).toNat))]
 | _,_=>False
theorem mdT_ok:SpecT PR 16 mdF:=fun fn hfn=>by
 have hf:PR.funcs[(16:Nat)]? = some Try.f16:=by kernel_rfl
 rw [hf] at hfn;cases hfn
 refine fnT_okH (C:=mdC) (mkC_ok eqs0_ok mixed_ok (.cons meta_ok (.cons whole_ok (.consP bad_ok (.consP cut_ok .nil)))) (.cons wo_ok (.cons clb_ok (.cons (clp_ok.frz [2097152]) (.cons ofT_ok .nil))))) hf (by kernel_rfl) (loops_two (by kernel_rfl) md_loop0 md_loop2) fun vs objs R h1 h2 h=>?_
 clear h1 h2
 unfold mdF at h
 split at h
 ·rename_i c z s x1 T x3 Sh x2 M Q F
  obtain ⟨⟨⟨rfl,rfl,rfl⟩,hr,hpre,hM⟩,hk⟩:=h
  have hpre:mgP T Sh:=hpre
  refine .eq (mdT_tree _ c z s T Sh M Q F) ?_
  rw [hr]
  show (fun T=>Alt T (Alt T T)) _
  obtain ⟨hG,⟨b1,b2⟩,hW,hML,hlm,hWc⟩:=md_conds (F:=F) hr hpre
  have hws:=hW.s
  obtain ⟨n0,n1⟩:=szU_in F
  simp only [Int.toNat_zero,List.drop_zero,List.take_zero,List.nil_append,hlm,Alt_self]
  refine ⟨⟨hG.each.1,?_⟩,⟨⟨by trivial,by trivial,by trivial,by trivial⟩,by omega,hG.ok b2⟩,⟨⟨by trivial,by trivial,by trivial,by trivial,by trivial,by trivial,by trivial,by trivial⟩,⟨by trivial,by trivial,by trivial,by trivial,by trivial,by trivial,by trivial,by trivial⟩,by trivial,by omega,by omega,by omega,fun x hx=>(hW.st x hx).tab⟩,⟨by trivial,by omega⟩,⟨⟨by trivial,by trivial,by trivial,by trivial,by trivial,by trivial,by trivial,by trivial,by trivial⟩,⟨by trivial,by trivial,by trivial,by trivial,by trivial,by trivial,by trivial,by trivial⟩,by trivial,by omega,by omega,by omega,hM⟩,⟨⟨by trivial,by trivial,by trivial⟩,⟨n0,n1⟩,hWc.each.1,?_⟩,hk⟩
  ·have:=hG.each.2
   show (linesOf (.i (-1)) T.list ++ shotLines 0 Sh.list).length≤536870912
   omega
  ·rw [hlm];exact hW.fit
 ·exact h.elim
end Go.Mat

namespace Go.Mat
open Go Go.Den Go.Proofs
noncomputable def eqsF (t:TypeId):Option (List IntKind):=bif Nat.beq t 47 then some [.i64,.i64,.i64] else eqs0 t
def tA15:List (List U)→List (List U):=fun _=>[[.b true]]
def nA15:List (List U)→List (List U):=fun us=>[[nth (.i 0) (nth [] us 0) 0]]
theorem numA_tree (R:RF) (n:U):(run K0 Try.f12 [[n]] R)=(R [[n]]):=by kernel_rfl
noncomputable def awC:Ctx:=mkC PR eqsF (fnsCons 12 nA15 (fnsCons 22 getS (fnsConsP 15 faP faS (fnsConsP 16 mdP mdS fnsNil)))) trsNil noLoops noOut noOut
theorem aw_tree (R:RF):(run awC Try.f9 [] R)=(faP [[U.i 0,U.i 1,U.s ⟨#[]⟩,U.l [U.l (List.set (List.set (List.set (List.set (List.set (List.set (List.set (List.set (List.replicate (8:Nat) (U.l [U.i 0,U.i 0,U.i 0,U.i 0,U.i 0])) (0:Nat) (U.l [U.i 2,U.i 9,U.i 1,U.i 0,U.i 0])) (1:Nat) (U.l [U.i 0,U.i 0,U.i 0,U.i 0,U.i 0])) (2:Nat) (U.l [U.i 0,U.i 0,U.i 0,U.i 0,U.i 0])) (3:Nat) (U.l [U.i 0,U.i 0,U.i 0,U.i 0,U.i 0])) (4:Nat) (U.l [U.i 0,U.i 0,U.i 0,U.i 0,U.i 0])) (5:Nat) (U.l [U.i 0,U.i 0,U.i 0,U.i 0,U.i 0])) (6:Nat) (U.l [U.i 0,U.i 0,U.i 0,U.i 0,U.i 0])) (7:Nat) (U.l [U.i 0,U.i 0,U.i 0,U.i 0,U.i 0]))],U.l [],U.l [],U.l []],[U.l (List.replicate (Int.toNat 64) (U.i 0))]]∧(fun T=>Alt (Alt (Alt T T) T) (Alt (Alt (Alt T T) T) (Alt T T))) (mdP [[U.i 0,U.i 1,U.s ⟨#[]⟩,U.l [U.l (List.set (List.set (List.set (List.set (List.set (List.set (List.set (List.set (List.replicate (8:Nat) (U.l [U.i 0,U.i 0,U.i 0,U.i 0,U.i 0])) (0:Nat) (U.l [U.i 2,U.i 9,U.i 1,U.i 0,U.i 0])) (1:Nat) (U.l [U.i 0,U.i 0,U.i 0,U.i 0,U.i 0])) (2:Nat) (U.l [U.i 0,U.i 0,U.i 0,U.i 0,U.i 0])) (3:Nat) (U.l [U.i 0,U.i 0,U.i 0,U.i 0,U.i 0])) (4:Nat) (U.l [U.i 0,U.i 0,U.i 0,U.i 0,U.i 0])) (5:Nat) (U.l [U.i 0,U.i 0,U.i 0,U.i 0,U.i 0])) (6:Nat) (U.l [U.i 0,U.i 0,U.i 0,U.i 0,U.i 0])) (7:Nat) (U.l [U.i 0,U.i 0,U.i 0,U.i 0,U.i 0]))],U.l [],U.l [],U.l []],[U.l (List.replicate (Int.toNat 64) (U.i 0))]]∧R [[U.b (U.int (entF (0:Nat) (bif metaR (U.i 0) (U.i 1) (U.s ⟨#[]⟩) (U.l [U.l (List.set (List.set (List.set (List.set (List.set (List.set (List.set (List.set (List.replicate (8:Nat) (U.l [U.i 0,U.i 0,U.i 0,U.i 0,U.i 0])) (0:Nat) (U.l [U.i 2,U.i 9,U.i 1,U.i 0,U.i 0])) (1:Nat) (U.l [U.i 0,U.i 0,U.i 0,U.i 0,U.i 0])) (2:Nat) (U.l [U.i 0,U.i 0,U.i 0,U.i 0,U.i 0])) (3:Nat) (U.l [U.i 0,U.i 0,U.i 0,U.i 0,U.i 0])) (4:Nat) (U.l [U.i 0,U.i 0,U.i 0,U.i 0,U.i 0])) (5:Nat) (U.l [U.i 0,U.i 0,U.i 0,U.i 0,U.i 0])) (6:Nat) (U.l [U.i 0,U.i 0,U.i 0,U.i 0,U.i 0])) (7:Nat) (U.l [U.i 0,U.i 0,U.i 0,U.i 0,U.i 0]))]) (U.l []) (U.l []) (U.l []) then Prod.fst (woU (U.i 0) (U.i 1) (U.s ⟨#[]⟩) (U.l [U.l (List.set (List.set (List.set (List.set (List.set (List.set (List.set (List.set (List.replicate (8:Nat) (U.l [U.i 0,U.i 0,U.i 0,U.i 0,U.i 0])) (0:Nat) (U.l [U.i 2,U.i 9,U.i 1,U.i 0,U.i 0])) (1:Nat) (U.l [U.i 0,U.i 0,U.i 0,U.i 0,U.i 0])) (2:Nat) (U.l [U.i 0,U.i 0,U.i 0,U.i 0,U.i 0])) (3:Nat) (U.l [U.i 0,U.i 0,U.i 0,U.i 0,U.i 0])) (4:Nat) (U.l [U.i 0,U.i 0,U.i 0,U.i 0,U.i 0])) (5:Nat) (U.l [U.i 0,U.i 0,U.i 0,U.i 0,U.i 0])) (6:Nat) (U.l [U.i 0,U.i 0,U.i 0,U.i 0,U.i 0])) (7:Nat) (U.l [U.i 0,U.i 0,U.i 0,U.i 0,U.i 0]))]) (U.l []) (U.l []) (U.l []) (U.l (List.replicate (Int.toNat 64) (U.i 0)))) else []) 0) == 1)]])):=by kernel_rfl
end Go.Mat

namespace Go.Mat
open Go Go.Den Go.Proofs
set_option maxRecDepth 100000
theorem eqsF_ok:∀ t ks,eqsF t=some ks→EqOk PR t ks:=by
 intro t ks h
 unfold eqsF at h
 cases hb:Nat.beq t 47 with
 | true=>
  rw [hb] at h
  have:=Nat.eq_of_beq_eq_true hb
  subst this
  injection h with h
  subst h
  exact eq_ok (by kernel_rfl)
 | false=>rw [hb] at h;exact eqs0_ok t ks h
theorem numA_ok:SpecF PR 12 nA15:=fun fn us hfn=>by
 have hf:PR.funcs[(12:Nat)]? = some Try.f12:=by kernel_rfl
 rw [hf] at hfn;cases hfn
 refine fn_okH (C:=K0) (mkC_ok eqs0_ok mixed_ok .nil .nil) hf (by kernel_rfl) (loops_none (by kernel_rfl)) fun hok=>?_
 have hp:Try.f12.params.toList=[27]:=by kernel_rfl
 rw [hp] at hok
 obtain ⟨u,rfl,h1⟩:=shape1 (by kernel_rfl:Cs PR 27=some (false,[.int .i64])) hok.1
 obtain ⟨n,rfl⟩:=len1 h1
 exact .eq (numA_tree _ n) rfl
theorem aw_ok:SpecF PR 9 tA15:=fun fn us hfn=>by
 have hf:PR.funcs[(9:Nat)]? = some Try.f9:=by kernel_rfl
 rw [hf] at hfn;cases hfn
 refine fn_okH (C:=awC) (mkC_ok eqsF_ok mixed_ok (.cons numA_ok (.cons at_ok (.consP fa_ok (.consP md_ok .nil)))) .nil) hf (by kernel_rfl) (loops_none (by kernel_rfl)) fun hok=>?_
 have hp:Try.f9.params.toList=[]:=by kernel_rfl
 rw [hp] at hok
 have hus:us=[]:=hok.1
 subst hus
 refine .eq (aw_tree _) ?_
 have hg:∀ T:U,T.list.length≤1099511627776→mgP T (.l []):=fun T hT=>⟨hT,fun x hx=>by cases hx⟩
 simp only [Alt_self]
 refine ⟨hg _ (by decide),⟨hg _ (by decide),fun x hx=>by cases hx⟩,?_⟩
 kernel_rfl
end Go.Mat

namespace Go.Den
open Go Go.RowKit
def takeC:Nat→Code→Code
 | 0,.seq a _=>.seq a .skip
 | n + 1,.seq a b=>.seq a (takeC n b)
 | _,c=>c
def dropC:Nat→Code→Code
 | 0,c=>c
 | n + 1,.seq _ b=>dropC n b
 | _,c=>c
def joinC:Code→Code→Code
 | .seq a b,r=>.seq a (joinC b r)
 | _,r=>r
def rowC:Code→Bool
 | .seq _ b=>rowC b
 | .skip=>true
 | _=>false
def seenS (ts os:List Nat) (k:Ex→St→Prop):Ex→St→Prop:=fun e σ=>k e (mask σ (some (ts,os)))
section
variable {C:Ctx} {Θ:Anc} {n:Nat}
theorem exec_join (hC:C.Ok) (hkb:Θ.kb=false) (hka:Θ.ka=false) (hN:∀ b,¬ Θ.N b) {rest:Code} {Q:Exit→Act→World→Prop} (hp:Pans C Θ n Q) (hQ:∀ c a w d v,Q (.panic c) (a.put d v) w→Q (.panic c) a w) :
  ∀ (code:Code) (c:Nat) {σ:St} {a:Act} {w:World} {Z:Nat→Prop} {G:Nat→Value} {k:Ex→St→Prop},rowC code=true→codeOk n code=true→LoopsOk C code c→Sim C.P Θ n σ a w Z G→
  exec C code c σ k→(∀ e σ' a' w' Z' G',k e σ'→Sim C.P Θ n σ' a' w' Z' G'→Exit.then (rest.wp C.P Q) Q (toExit e) a' w')→(joinC code rest).wp C.P Q a w
 | .seq x y,c,σ,a,w,Z,G,k,hr,hok,hl,S,h,hk=>by
  unfold codeOk at hok
  split at hok
  ·rename_i hx
   refine wp_seq (exec_sound hC hkb hka hN x c hx hl.1 S h ?_ hp (fun _=>hQ))
   intro e σ' a' w' Z' G' he S'
   cases e with
   | normal=>exact exec_join hC hkb hka hN hp hQ y c hr hok hl.2 S' he hk
   | ret=>exact hk .ret _ _ _ _ _ he S'
   | exit m=>exact hk (.exit m) _ _ _ _ _ he S'
  ·cases hok
 | .skip,c,σ,a,w,Z,G,k,hr,hok,hl,S,h,hk=>hk .normal σ a w Z G h S
end
theorem piece_on {C:Ctx} {Θ:Anc} {n:Nat} (hC:C.Ok) (hkb:Θ.kb=false) (hka:Θ.ka=false) (hN:∀ b,¬ Θ.N b) {B p rest:Code} {Q:Exit→Act→World→Prop} (hp:Pans C Θ n Q) (hQ:∀ c a w d v,Q (.panic c) (a.put d v) w→Q (.panic c) a w)
  (hB:B=joinC p rest) (hr:rowC p=true) (hok:codeOk n p=true) (hl:∀ q ∈ loopsOf p 0,LoopOk C q.1 q.2) {σ τ:St} {a:Act} {w:World} {Z:Nat→Prop} {G:Nat→Value} (S:Sim C.P Θ n σ a w Z G) {ts os:List Nat}
  (h:Holds (exec C p 0 σ (seenS ts os fun e σ'=>e = .normal∧σ' = τ))) (hk:∀ a w Z G,Sim C.P Θ n τ a w Z G→rest.wp C.P Q a w):B.wp C.P Q a w:=by
 rw [hB]
 refine exec_join hC hkb hka hN hp hQ p 0 hr hok (loopsOk_of hl) S h.out ?_
 rintro e σ' a' w' Z' G' ⟨rfl,hτ⟩ S'
 have S2:=mask_sim (x:=some (ts,os)) S'
 rw [hτ] at S2
 exact hk a' w' Z' G' S2
theorem piece_end {C:Ctx} {Θ:Anc} {n:Nat} (hC:C.Ok) (hkb:Θ.kb=false) (hka:Θ.ka=false) (hN:∀ b,¬ Θ.N b) {B:Code} {Q:Exit→Act→World→Prop} (hp:Pans C Θ n Q) (hQ:∀ c a w d v,Q (.panic c) (a.put d v) w→Q (.panic c) a w)
  (hok:codeOk n B=true) (hl:∀ q ∈ loopsOf B 0,LoopOk C q.1 q.2) {σ τ:St} {a:Act} {w:World} {Z:Nat→Prop} {G:Nat→Value} (S:Sim C.P Θ n σ a w Z G) {ts os:List Nat}
  (h:Holds (exec C B 0 σ (seenS ts os fun e σ'=>e = .ret∧σ' = τ))) (hk:∀ a w Z G,Sim C.P Θ n τ a w Z G→Q .ret a w):B.wp C.P Q a w:=by
 refine exec_sound hC hkb hka hN B 0 hok (loopsOk_of hl) S h.out ?_ hp (fun _=>hQ)
 rintro e σ' a' w' Z' G' ⟨rfl,hτ⟩ S'
 have S2:=mask_sim (x:=some (ts,os)) S'
 rw [hτ] at S2
 exact hk a' w' Z' G' S2
end Go.Den

namespace Go.Mat
open Go Go.Den Go.Proofs
def lawF:List U:=secsR (Int.toNat 40) 0
abbrev mBox (c z s T Sh M Q:U):Den.Obj:=.box [vi c,vi z,vs s,.val TRC T,vt SC Sh,vt BC M,vl (.int .i64) Q]
abbrev vf (F:U):SV:=.val (.sl false [.int .u8]) F
end Go.Mat

namespace Go.Mat
open Go Go.Den Go.Proofs
set_option maxRecDepth 100000
theorem rfits_at {T:List U} {a b d e g c:Int} (ht:rtableR T 4096 c=true) (hm:mayR a b d e g c=true):∀ (n:Nat) (c0:Int),c0≤c→c < c0 + n→rfitsFrom T a b d e g n c0=true
 | 0,c0,h1,h2=>by omega
 | n + 1,c0,h1,h2=>by
  rw [rfitsFrom]
  by_cases he:c0=c
  ·subst he;rw [ht,hm];rfl
  ·have ih:=rfits_at ht hm n (c0 + 1) (by omega) (by omega)
   rw [ih]
   cases rtableR T 4096 c0<;>cases mayR a b d e g c0<;>rfl
theorem fits_at {T:List U} {a b d e g c:Int} (ht:tableR T 4096 c=true) (hm:mayR a b d e g c=true):∀ (n:Nat) (c0:Int),c0≤c→c < c0 + n→fitsFrom T a b d e g n c0=true
 | 0,c0,h1,h2=>by omega
 | n + 1,c0,h1,h2=>by
  rw [fitsFrom]
  by_cases he:c0=c
  ·subst he;rw [ht,hm];rfl
  ·have ih:=fits_at ht hm n (c0 + 1) (by omega) (by omega)
   rw [ih]
   cases tableR T 4096 c0<;>cases mayR a b d e g c0<;>rfl
theorem setY_in {T:List U} {i:Int} {a b d e g:U} {c:Int} (h0:0≤i) (h1:i < 4096) (hc0:0≤c) (hc6:c≤6) (ht:rtableR T 4096 c=true) (hm:mayR a.int b.int d.int e.int g.int c=true) (ha:(a.int == 0)=false) :
  setY T i a b d e g=setZ T i.toNat [a,b,d,e,g]:=by
 unfold setY
 rw [rfits_at ht hm 7 0 hc0 (by omega),decide_eq_false (by omega),decide_eq_false (by omega),ha]
 rfl
theorem setX_in {T:List U} {i:Int} {a b d e g:U} {c:Int} (h0:0≤i) (h1:i < 4096) (hc0:0≤c) (hc6:c≤6) (ht:tableR T 4096 c=true) (hm:mayR a.int b.int d.int e.int g.int c=true) :
  setX T i a b d e g=setR T i.toNat [a,b,d,e,g]:=by
 unfold setX
 rw [fits_at ht hm 7 0 hc0 (by omega),decide_eq_false (by omega),decide_eq_false (by omega)]
 rfl
theorem pow_in:∀ c:Nat,c≤6→(1:Int)≤2 ^ c∧(2:Int) ^ c≤64:=by
 intro c hc
 match c,hc with
 | 0,_=>decide
 | 1,_=>decide
 | 2,_=>decide
 | 3,_=>decide
 | 4,_=>decide
 | 5,_=>decide
 | 6,_=>decide
 | c + 7,h=>omega
theorem may_raw {x k s:Int} {c:Nat} (hc:c≤6) (hk:k=2 ^ c) (h2:2≤x) (h3:x≤1000):mayR 2 x k 0 s c=true:=by
 subst hk
 have hp:=pow_in c hc
 unfold mayR placeR
 rw [if_neg (by omega),if_neg (by decide),if_pos rfl,Int.toNat_natCast]
 generalize (2:Int) ^ c=k at *
 rw [decide_eq_true ⟨rfl,rfl⟩,decide_eq_true h2,decide_eq_true (by omega),decide_eq_true (by omega),decide_eq_true (by omega)]
 rfl
theorem raw_right {F:List U} {x k s:Int} {c:Nat} (hc:c≤6) (hk:k=2 ^ c) (h2:2≤x) (h3:x≤1000) (hF:16 * (x + k)≤F.length) (hs:s=sumI 0 ((F.take ((x + k) * 16).toNat).drop (x * 16).toNat)):(cbX 2 x k 0 s c F).1=0:=by
 unfold cbX
 have hk0:=pow_in c hc
 rw [may_raw hc hk h2 h3,cond_true,decide_eq_false (by omega)]
 have hl:((((F.take ((x + k) * 16).toNat).drop (x * 16).toNat).length:Nat):Int)=16 * 2 ^ c:=by
  rw [List.length_drop,List.length_take,← hk]
  omega
 show (cbFin _ s c).1=0
 unfold cbFin
 rw [hl,Int.toNat_natCast,← hs,beq_self_eq_true,beq_self_eq_true]
 rfl
def badG (wr:U→Bool) (ls:List U):List U × List PK:=ls.foldl (fun st l=>bif wr l || st.2.any (meetP (pkOf l)) then (st.1 ++ [.l [lnU l 0,lnU l 1]],st.2) else (st.1,bif decide (pkOf l ∈ st.2) then st.2 else st.2 ++ [pkOf l])) ([],[])
theorem badL_G {F:List U} {c:Int} {wr:U→Bool} {ls:List U} (h:∀ l,l ∈ ls→wrongB F c l=wr l):badL F c ls=badG wr ls:=by
 unfold badL badG
 generalize (([],[]):List U × List PK)=st
 induction ls generalizing st with
 | nil=>rfl
 | cons l r ih=>
  rw [List.foldl_cons,List.foldl_cons,ih fun l hl=>h l (List.mem_cons_of_mem _ hl)]
  congr 1
  unfold badStep
  rw [h l (List.mem_cons_self ..)]
theorem secsR_len:∀ (n:Nat) (i:Int),(secsR n i).length=16 * n
 | 0,_=>rfl
 | n + 1,i=>by rw [secsR,List.length_append,List.length_replicate,secsR_len n (i + 1)];omega
theorem whU_all {F:List U} (h:F.length % 16=0) (h2:F.length≤1048576):whU (.l F)=F:=by
 unfold whU
 rw [U.list_l,List.take_of_length_le]
 omega
theorem szU_all {F:List U} (h:F.length % 16=0) (h2:F.length≤1048576):szU (.l F)=(F.length / 16:Nat):=by
 unfold szU
 rw [whU_all h h2,Int.tdiv_eq_ediv_of_nonneg (by omega)]
 exact (i64_in (by omega) (by omega)).trans (by omega)
end Go.Mat

namespace Go.Mat
open Go Go.Den Go.Proofs
set_option maxRecDepth 100000
def zE:U:=.l [.i 0,.i 0,.i 0,.i 0,.i 0]
end Go.Mat

namespace Go.Mat
open Go Go.Den Go.Proofs
set_option maxRecDepth 100000
theorem lawF_len:lawF.length=640:=secsR_len 40 0
def sumAt (F:List U) (x k:Int):Int:=sumI 0 ((F.take ((x + k) * 16).toNat).drop (x * 16).toNat)
theorem results_at {fn:Func} {tmps:Array Value} {x:Nat} {w:World} (hr:fn.results = #[.tmp x]):(results fn tmps).run PR w = .ok (tmps.getD x undef) w:=by
 rw [results_of,hr]
 simp [resOf]
abbrev Th0 (w:World) (Z:Nat→Prop):Anc:=⟨w,fun _=>False,fun _=>False,Z,false,false,fun _=>.pointer none,[]⟩
theorem noloops {C:Ctx} {c:Code} (h:loopsOf c 0=[]):∀ q ∈ loopsOf c 0,LoopOk C q.1 q.2:=loops_none h
end Go.Mat

namespace Go.Mat
open Go Go.Den Go.Proofs
set_option maxRecDepth 100000
def plI (l:U):Int × Int:=((lnU l 0).int,(lnU l 1).int)
def plU (l:U):U:=.l [lnU l 0,lnU l 1]
def badT (F:List U) (c:Int) (all:List PK) (l:U):Bool:=wrongB F c l || all.any (meetP (pkOf l))
def allS (all:List PK) (l:U):List PK:=bif decide (pkOf l ∈ all) then all else all ++ [pkOf l]
def keepL (F:List U) (c:Int):List PK→List U→List U
 | _,[]=>[]
 | all,l :: r=>bif badT F c all l then keepL F c all r else l :: keepL F c (allS all l) r
def outL (F:List U) (c:Int):List PK→List U→List U
 | _,[]=>[]
 | all,l :: r=>bif badT F c all l then l :: outL F c all r else outL F c (allS all l) r
section
variable {F:List U} {c:Int}
theorem fold_out:∀ (ls o:List U) (all:List PK),(ls.foldl (badStep F c) (o,all)).1=o ++ (outL F c all ls).map plU
 | [],o,all=>(List.append_nil o).symm
 | l :: r,o,all=>by
  have e:badStep F c (o,all) l=bif badT F c all l then (o ++ [plU l],all) else (o,allS all l):=rfl
  rw [List.foldl_cons,outL,e]
  cases badT F c all l with
  | true=>rw [cond_true,cond_true,fold_out r,List.map_cons,List.append_assoc];rfl
  | false=>rw [cond_false,cond_false,fold_out r]
theorem out_keep:∀ (ls:List U) (all:List PK),outL F c all (keepL F c all ls)=[]
 | [],_=>rfl
 | l :: r,all=>by
  rw [keepL]
  cases h:badT F c all l with
  | true=>rw [cond_true,out_keep r]
  | false=>rw [cond_false,outL,h,cond_false,out_keep r]
theorem out_sub:∀ {ls:List U} {all:List PK} {x:U},x ∈ outL F c all ls→x ∈ ls
 | [],_,_,h=>by cases h
 | l :: r,all,x,h=>by
  rw [outL] at h
  cases hb:badT F c all l with
  | true=>
   rw [hb,cond_true] at h
   rcases List.mem_cons.1 h with rfl | h
   ·exact List.mem_cons_self ..
   ·exact List.mem_cons_of_mem _ (out_sub h)
  | false=>rw [hb,cond_false] at h;exact List.mem_cons_of_mem _ (out_sub h)
theorem out_nodup:∀ (ls:List U) (all:List PK),(ls.map plI).Nodup→((outL F c all ls).map plI).Nodup
 | [],_,_=>List.nodup_nil
 | l :: r,all,h=>by
  obtain ⟨h1,h2⟩:=List.nodup_cons.1 h
  rw [outL]
  cases badT F c all l with
  | true=>
   rw [cond_true]
   refine List.nodup_cons.2 ⟨fun hm=>h1 ?_,out_nodup r all h2⟩
   obtain ⟨x,hx,e⟩:=List.mem_map.1 hm
   exact List.mem_map.2 ⟨x,out_sub hx,e⟩
  | false=>rw [cond_false];exact out_nodup r _ h2
theorem keep_filter:∀ (ls:List U) (all:List PK),(ls.map plI).Nodup→ls.filter (fun l=>!decide (plI l ∈ (outL F c all ls).map plI))=keepL F c all ls
 | [],_,_=>rfl
 | l :: r,all,h=>by
  obtain ⟨h1,h2⟩:=List.nodup_cons.1 h
  rw [keepL,outL]
  cases badT F c all l with
  | true=>
   rw [cond_true,cond_true,List.filter_cons_of_neg (by simp),← keep_filter r all h2]
   refine List.filter_congr fun x hx=>?_
   have hn:plI x≠plI l:=fun e=>h1 (List.mem_map.2 ⟨x,hx,e⟩)
   simp [hn]
  | false=>
   have hn:plI l ∉ (outL F c (allS all l) r).map plI:=fun hm=>by
    obtain ⟨x,hx,e⟩:=List.mem_map.1 hm
    exact h1 (List.mem_map.2 ⟨x,out_sub hx,e⟩)
   rw [cond_false,cond_false,List.filter_cons_of_pos (by simpa using hn),keep_filter r _ h2]
end
theorem rents_at {n c i:Int}:∀ (l:List U) (k:Int),rentsR n c i k l=true↔∀ j,j < l.length→rentOk n c i (k + j) (U.at l j)=true
 | [],k=>⟨fun _ j hj=>absurd hj (Nat.not_lt_zero _),fun _=>rfl⟩
 | e :: r,k=>by
  rw [rentsR,Bool.and_eq_true,rents_at r]
  constructor
  ·rintro ⟨h1,h2⟩ j hj
   cases j with
   | zero=>rw [show k + ((0:Nat):Int)=k by omega];exact h1
   | succ j=>rw [show k + ((j + 1:Nat):Int)=k + 1 + j by omega];exact h2 j (by simpa using hj)
  ·intro h
   refine ⟨?_,fun j hj=>?_⟩
   ·have:=h 0 (by simp);rw [show k + ((0:Nat):Int)=k by omega] at this;exact this
   ·have:=h (j + 1) (by simpa using hj);rw [show k + ((j + 1:Nat):Int)=k + 1 + j by omega] at this;exact this
theorem rsome_at:∀ (l:List U),rsomeR l=true↔∃ j,j < l.length∧(e0 (U.at l j)).int≠0
 | []=>⟨fun h=>(by cases h),fun ⟨j,hj,_⟩=>absurd hj (Nat.not_lt_zero _)⟩
 | e :: r=>by
  have ih:=rsome_at r
  unfold rsomeR at ih ⊢
  rw [List.any_cons,Bool.or_eq_true,ih,decide_eq_true_eq]
  constructor
  ·rintro (h | ⟨j,hj,h⟩)
   ·exact ⟨0,by simp,h⟩
   ·exact ⟨j + 1,by simpa using hj,h⟩
  ·rintro ⟨j,hj,h⟩
   cases j with
   | zero=>exact .inl h
   | succ j=>exact .inr ⟨j,by simpa using hj,h⟩
theorem rleaves_at {n c:Int}:∀ (L:List U) (i:Int),rleavesR n c i L=true↔∀ j,j < L.length→(U.at L j).list=[]∨rleafR n c (i + j) (U.at L j).list=true
 | [],i=>⟨fun _ j hj=>absurd hj (Nat.not_lt_zero _),fun _=>rfl⟩
 | l :: r,i=>by
  rw [rleavesR]
  have key:(if l.list=[] then rleavesR n c (i + 1) r else rleafR n c i l.list && rleavesR n c (i + 1) r)=true↔(l.list=[]∨rleafR n c i l.list=true)∧rleavesR n c (i + 1) r=true:=by
   by_cases h:l.list=[]
   ·simp [h]
   ·simp [h]
  rw [key,rleaves_at r]
  constructor
  ·rintro ⟨h1,h2⟩ j hj
   cases j with
   | zero=>rw [show i + ((0:Nat):Int)=i by omega];exact h1
   | succ j=>rw [show i + ((j + 1:Nat):Int)=i + 1 + j by omega];exact h2 j (by simpa using hj)
  ·intro h
   refine ⟨?_,fun j hj=>?_⟩
   ·have:=h 0 (by simp);rw [show i + ((0:Nat):Int)=i by omega] at this;exact this
   ·have:=h (j + 1) (by simpa using hj);rw [show i + ((j + 1:Nat):Int)=i + 1 + j by omega] at this;exact this
def zapE:List U:=[.i 1,.i 0,.i 0,.i 0,.i 0]
def zapT (T:List U) (k:Nat):List U:=T.set (k / 8) (.l (pokeR (U.at T (k / 8)).list (k % 8) zapE))
structure TR (T:List U) (n c:Int):Prop where
 n0:0≤n
 n1:n≤4096
 c0:0≤c
 c1:c≤6
 last:lastOk T=true
 row:∀ j:Nat,j < T.length→(U.at T j).list=[]∨rleafR n c j (U.at T j).list=true
theorem TR.iff {T:List U} {n c:Int}:tableR T n c=true↔TR T n c:=by
 unfold tableR
 by_cases h:n < 0∨4096 < n∨c < 0∨6 < c
 ·rw [if_pos h]
  exact ⟨fun h=>by (cases h),fun g=>by have:=g.n0;have:=g.n1;have:=g.c0;have:=g.c1;omega⟩
 ·rw [if_neg h,leavesR_eq,Bool.and_eq_true,rleaves_at]
  constructor
  ·rintro ⟨h1,h2⟩
   exact ⟨by omega,by omega,by omega,by omega,h1,fun j hj=>by have:=h2 j hj;rw [Int.zero_add] at this;exact this⟩
  ·intro g
   exact ⟨g.last,fun j hj=>by have:=g.row j hj;rw [Int.zero_add];exact this⟩
theorem may_zap {c:Int} (h0:0≤c) (h1:c≤6):mayR 1 0 0 0 0 c=true:=by
 unfold mayR
 rw [if_neg (by omega),if_pos (.inr rfl)]
 decide
theorem TR.hit {T:List U} {n c:Int} (g:TR T n c) {k:Nat} (h:hitR T k=true):k / 8 < T.length∧(U.at T (k / 8)).list.length=8∧(e0 (entU T k)).int≠0∧rleafR n c (k / 8:Nat) (U.at T (k / 8)).list=true:=by
 have he:entF 0 T (k:Int)=e0 (entU T k):=by
  unfold entF
  rw [decide_eq_false (by omega:¬ (k:Int) < 0),cond_false]
  rfl
 have h0:(e0 (entU T k)).int≠0:=by
  intro e
  unfold hitR at h
  rw [he,e] at h
  cases h
 have h1:k / 8 < T.length:=by
  by_cases h1:k / 8 < T.length
  ·exact h1
  ·refine absurd ?_ h0
   unfold entU
   have:nth (.i 0) T (k / 8) = .i 0:=at_over (by omega)
   rw [this];rfl
 have h2:=g.row _ h1
 rcases h2 with h2 | h2
 ·refine absurd ?_ h0
  unfold entU
  have e:(nth (.i 0) T (k / 8)).list=[]:=h2
  rw [e];rfl
 ·refine ⟨h1,?_,h0,h2⟩
  unfold rleafR at h2
  simp only [Bool.and_eq_true,decide_eq_true_eq] at h2
  exact h2.1.1
section
variable {T:List U} {n c:Int} {k:Nat}
theorem ent_zap (h1:k / 8 < T.length) (h2:(U.at T (k / 8)).list.length=8) (j:Nat):entU (zapT T k) j=if j=k then .l (patchU (entU T k).list 0 zapE) else entU T j:=by
 have e:U.at (zapT T k) (j / 8)=if j / 8=k / 8 then .l (pokeR (U.at T (k / 8)).list (k % 8) zapE) else U.at T (j / 8):=at_set h1
 show U.at (U.at (zapT T k) (j / 8)).list (j % 8)=_
 rw [e]
 by_cases hd:j / 8=k / 8
 ·rw [if_pos hd]
  show U.at (pokeR (U.at T (k / 8)).list (k % 8) zapE) (j % 8)=_
  unfold pokeR
  rw [at_set (by omega)]
  by_cases hm:j % 8=k % 8
  ·rw [if_pos hm,if_pos (by omega)];rfl
  ·rw [if_neg hm,if_neg (by omega),← hd];rfl
 ·rw [if_neg hd,if_neg (fun e=>hd (by rw [e]))];rfl
theorem hit_zap (h1:k / 8 < T.length) (h2:(U.at T (k / 8)).list.length=8) (j:Nat):hitR (zapT T k) j=(!decide (j=k) && hitR T j):=by
 have he:∀ T:List U,entF 0 T (j:Int)=e0 (entU T j):=fun T=>by
  unfold entF
  rw [decide_eq_false (by omega:¬ (j:Int) < 0),cond_false]
  rfl
 unfold hitR
 rw [he,he,ent_zap h1 h2]
 by_cases h:j=k
 ·rw [if_pos h,decide_eq_true h];rfl
 ·rw [if_neg h,decide_eq_false h];rfl
theorem line_zap (h1:k / 8 < T.length) (h2:(U.at T (k / 8)).list.length=8) {j:Nat} (h:j≠k) (s:U):lineU s (zapT T k) j=lineU s T j:=by
 have he:∀ i,entF i (zapT T k) (j:Int)=entF i T (j:Int):=fun i=>by
  unfold entF
  rw [decide_eq_false (by omega:¬ (j:Int) < 0),cond_false,cond_false,Int.toNat_natCast,ent_zap h1 h2,if_neg h]
 unfold lineU
 rw [he,he,he,he,he]
theorem lines_zap (h1:k / 8 < T.length) (h2:(U.at T (k / 8)).list.length=8) (s:U):linesOf s (zapT T k)=(linesOf s T).filter fun l=>!decide ((lnU l 1).int=k):=by
 have hl:(zapT T k).length=T.length:=List.length_set ..
 unfold linesOf linesTo
 rw [hl,List.filter_map,List.filter_map,List.filter_filter]
 congr 1
 have e:(List.range (8 * T.length)).filter (hitR (zapT T k))=(List.range (8 * T.length)).filter fun a=>(((fun l=>!decide ((lnU l 1).int=(k:Int))) ∘ U.l) ∘ lineU s T) a && hitR T a:=by
  refine List.filter_congr fun a _=>?_
  rw [hit_zap h1 h2]
  congr 2
  show decide (a=k)=decide ((a:Int)=(k:Int))
  rw [decide_eq_decide];omega
 rw [e]
 refine List.map_congr_left fun a ha=>line_zap h1 h2 (fun e=>?_) s
 have:=(List.mem_filter.1 ha).2
 rw [Bool.and_eq_true] at this
 have h9:(!decide ((a:Int)=(k:Int)))=true:=this.1
 rw [decide_eq_true (by omega)] at h9
 cases h9
theorem TR.zap (g:TR T n c) (h:hitR T k=true):TR (zapT T k) n c:=by
 obtain ⟨h1,h2,h3,h4⟩:=g.hit h
 have hl:(zapT T k).length=T.length:=List.length_set ..
 unfold rleafR at h4
 simp only [Bool.and_eq_true,decide_eq_true_eq] at h4
 have hm:k % 8 < (U.at T (k / 8)).list.length:=by omega
 have hrow:rleafR n c (k / 8:Nat) (pokeR (U.at T (k / 8)).list (k % 8) zapE)=true:=by
  unfold rleafR
  have hpl:(pokeR (U.at T (k / 8)).list (k % 8) zapE).length=8:=by unfold pokeR;rw [List.length_set];exact h2
  rw [decide_eq_true hpl,Bool.true_and,Bool.and_eq_true]
  refine ⟨(rents_at _ _).2 fun j hj=>?_,(rsome_at _).2 ⟨k % 8,by omega,?_⟩⟩
  ·have hj':j < (U.at T (k / 8)).list.length:=by rw [hpl] at hj;omega
   have ho:=(rents_at _ _).1 h4.1.2 j hj'
   unfold pokeR
   rw [at_set hm]
   split
   ·rename_i e
    subst e
    unfold rentOk at ho ⊢
    rw [Bool.and_eq_true,Bool.or_eq_true] at ho
    have hi:=ho.2.resolve_left (by rw [decide_eq_true_eq];exact h3)
    rw [hi,Bool.or_true,Bool.and_true]
    exact may_zap g.c0 g.c1
   ·exact ho
  ·unfold pokeR
   rw [at_set hm,if_pos rfl]
   show (1:Int)≠0
   decide
 refine ⟨g.n0,g.n1,g.c0,g.c1,?_,fun j hj=>?_⟩
 ·have hne:T≠[]:=fun e=>by rw [e] at h1;simp at h1
  have hlast:=g.last
  unfold lastOk at hlast ⊢
  rw [decide_eq_false hne,Bool.false_or] at hlast
  rw [decide_eq_false (fun e=>hne (List.length_eq_zero_iff.1 (by rw [← hl,e];rfl))),Bool.false_or,hl]
  have e:nth (.i 0) (zapT T k) (T.length - 1)=if T.length - 1=k / 8 then .l (pokeR (U.at T (k / 8)).list (k % 8) zapE) else U.at T (T.length - 1):=at_set h1
  rw [e]
  split
  ·rw [decide_eq_false];rfl
   intro hc
   have:(pokeR (U.at T (k / 8)).list (k % 8) zapE).length=8:=by unfold pokeR;rw [List.length_set];exact h2
   have hc:pokeR (U.at T (k / 8)).list (k % 8) zapE=[]:=hc
   rw [hc] at this
   cases this
  ·exact hlast
 ·rw [hl] at hj
  have e:U.at (zapT T k) j=if j=k / 8 then .l (pokeR (U.at T (k / 8)).list (k % 8) zapE) else U.at T j:=at_set h1
  rw [e]
  split
  ·rename_i e;subst e;exact .inr hrow
  ·exact g.row j hj
theorem TR.mono (g:TR T n c):TR T 4096 c:=by
 refine ⟨by decide,by decide,g.c0,g.c1,g.last,fun j hj=>(g.row j hj).imp_right fun h=>?_⟩
 unfold rleafR at h ⊢
 simp only [Bool.and_eq_true] at h ⊢
 refine ⟨⟨h.1.1,(rents_at _ _).2 fun i hi=>?_⟩,h.2⟩
 have ho:=(rents_at _ _).1 h.1.2 i hi
 unfold rentOk at ho ⊢
 rw [Bool.and_eq_true,Bool.or_eq_true,decide_eq_true_eq,decide_eq_true_eq] at ho ⊢
 have:=g.n1
 exact ⟨ho.1,ho.2.imp_right fun h=>by omega⟩
theorem trim_last {xs:List U} (h:lastOk xs=true):trimN xs.length xs=xs:=by
 cases hl:xs.length with
 | zero=>rfl
 | succ m=>
  unfold lastOk at h
  rw [decide_eq_false (fun e=>by rw [e] at hl;cases hl),Bool.false_or,hl,Nat.add_sub_cancel] at h
  have h:(nth (.i 0) xs m).list≠[]:=by simpa using h
  rw [trimN]
  have hn:(((U.at xs m).list.length:Int) == 0)=false:=by
   rw [beq_eq_false_iff_ne]
   intro e
   exact h (List.length_eq_zero_iff.1 (Int.ofNat.inj e))
  rw [hn];rfl
theorem set_zap (g:TR T n c) (h:hitR T k=true) (hT:T.length≤512):setX T k (.i 1) (.i 0) (.i 0) (.i 0) (.i 0)=zapT T k:=by
 obtain ⟨h1,h2,h3,h4⟩:=g.hit h
 rw [setX_in (a:=.i 1) (b:=.i 0) (d:=.i 0) (e:=.i 0) (g:=.i 0) (c:=c) (by omega) (by omega) g.c0 g.c1 (TR.iff.2 g.mono) (may_zap g.c0 g.c1),Int.toNat_natCast]
 unfold setR
 simp only
 have hp:padR T (k / 8 + 1 - T.length)=T:=by
  rw [show k / 8 + 1 - T.length=0 by omega]
  unfold padR
  rw [List.replicate_zero,List.append_nil]
 have hr:rowOf (U.at T (k / 8))=(U.at T (k / 8)).list:=by unfold rowOf;rw [h2];rfl
 rw [hp,hr]
 have hk:keepR (pokeR (U.at T (k / 8)).list (k % 8) zapE)=pokeR (U.at T (k / 8)).list (k % 8) zapE:=by
  have ha:∀ (l:List U) (j:Nat) (x:U),j < l.length→entNone x=false→anyNN (l.set j x)=true:=by
   intro l
   induction l with
   | nil=>intro j x hj;simp at hj
   | cons y r ih=>
    intro j x hj hx
    cases j with
    | zero=>rw [List.set_cons_zero,anyNN,hx];rfl
    | succ j=>
     rw [List.set_cons_succ,anyNN,ih j x (by simpa using hj) hx]
     cases entNone y<;>rfl
  unfold keepR
  have:anyNN (pokeR (U.at T (k / 8)).list (k % 8) zapE)=true:=by
   unfold pokeR
   exact ha _ _ _ (by omega) rfl
  rw [this];rfl
 have hz:T.set (k / 8) (.l (keepR (pokeR (U.at T (k / 8)).list (k % 8) [.i 1,.i 0,.i 0,.i 0,.i 0])))=zapT T k:=by unfold zapT;rw [← hk];rfl
 rw [hz]
 exact trim_last (g.zap h).last
end
def lnsM (st:List U × List U):List U:=linesOf (.i (-1)) st.1 ++ shotLines 0 st.2
theorem shot_mem:∀ {S:List U} {i:Int} {l:U},l ∈ shotLines i S→∃ j:Nat,j < S.length∧l ∈ linesOf (.i (i + j)) (shT (U.at S j)).list
 | [],_,_,h=>by cases h
 | x :: r,i,l,h=>by
  rw [shotLines,List.mem_append] at h
  rcases h with h | h
  ·refine ⟨0,by simp,?_⟩
   have e:shT x=nth (.i 0) x.list 2:=by show nth _ x.list.tail.tail 0=_;rw [nth_tail,nth_tail]
   rw [show i + ((0:Nat):Int)=i by omega]
   show l ∈ linesOf (.i i) (shT x).list
   rw [e];exact h
  ·obtain ⟨j,h1,h2⟩:=shot_mem h
   refine ⟨j + 1,by simpa using h1,?_⟩
   rw [show i + ((j + 1:Nat):Int)=i + 1 + j by omega]
   exact h2
theorem line_mem {s:U} {T:List U} {l:U} (h:l ∈ linesOf s T):∃ k,hitR T k=true∧l = .l (lineU s T k):=by
 unfold linesOf linesTo at h
 obtain ⟨x,hx,rfl⟩:=List.mem_map.1 h
 obtain ⟨i,hi,rfl⟩:=List.mem_map.1 hx
 exact ⟨i,(List.mem_filter.1 hi).2,rfl⟩
theorem plI_line (s:U) (T:List U) (k:Nat):plI (.l (lineU s T k))=(s.int,(k:Int)):=rfl
theorem lines_nodup (s:U) (T:List U):((linesOf s T).map plI).Nodup:=by
 unfold linesOf linesTo
 rw [List.map_map,List.map_map]
 refine List.Pairwise.map _ (R:=(·≠·)) (fun a b hab=>?_) (List.Pairwise.filter _ List.nodup_range)
 show (s.int,(a:Int))≠(s.int,(b:Int))
 intro e
 have:=congrArg Prod.snd e
 simp at this
 exact hab (by omega)
theorem shots_nodup:∀ (S:List U) (i:Int),((shotLines i S).map plI).Nodup
 | [],_=>List.nodup_nil
 | x :: r,i=>by
  rw [shotLines,List.map_append,List.nodup_append]
  refine ⟨lines_nodup _ _,shots_nodup r (i + 1),fun a ha b hb e=>?_⟩
  obtain ⟨l,hl,rfl⟩:=List.mem_map.1 ha
  obtain ⟨m,hm,rfl⟩:=List.mem_map.1 hb
  obtain ⟨k,_,rfl⟩:=line_mem hl
  obtain ⟨j,_,hm⟩:=shot_mem hm
  obtain ⟨k',_,rfl⟩:=line_mem hm
  rw [plI_line,plI_line] at e
  have:=congrArg Prod.fst e
  simp [U.int] at this
  omega
theorem lns_nodup (st:List U × List U):((lnsM st).map plI).Nodup:=by
 unfold lnsM
 rw [List.map_append,List.nodup_append]
 refine ⟨lines_nodup _ _,shots_nodup _ _,fun a ha b hb e=>?_⟩
 obtain ⟨l,hl,rfl⟩:=List.mem_map.1 ha
 obtain ⟨m,hm,rfl⟩:=List.mem_map.1 hb
 obtain ⟨k,_,rfl⟩:=line_mem hl
 obtain ⟨j,_,hm⟩:=shot_mem hm
 obtain ⟨k',_,rfl⟩:=line_mem hm
 rw [plI_line,plI_line] at e
 have:=congrArg Prod.fst e
 simp [U.int] at this
theorem filt_all {L:List U} {v:Int × Int} (h:∀ l,l ∈ L→(plI l).1≠v.1):L.filter (fun l=>!decide (plI l=v))=L:=by
 refine List.filter_eq_self.2 fun l hl=>?_
 rw [decide_eq_false fun e=>h l hl (congrArg Prod.fst e)];rfl
theorem lines_fst {s:U} {T:List U} {l:U} (h:l ∈ linesOf s T):(plI l).1=s.int:=by
 obtain ⟨k,_,rfl⟩:=line_mem h;rfl
theorem lines_zap2 {T:List U} {k:Nat} (h1:k / 8 < T.length) (h2:(U.at T (k / 8)).list.length=8) (s:U):linesOf s (zapT T k)=(linesOf s T).filter fun l=>!decide (plI l=(s.int,(k:Int))):=by
 rw [lines_zap h1 h2]
 refine List.filter_congr fun l hl=>?_
 have:=lines_fst hl
 congr 1
 rw [decide_eq_decide]
 show _↔plI l=_
 constructor
 ·intro h;exact Prod.ext this h
 ·intro h;exact congrArg Prod.snd h
theorem shot_zap:∀ {S:List U} {i:Int} {j k:Nat},j < S.length→(k / 8 < (shT (U.at S j)).list.length∧(U.at (shT (U.at S j)).list (k / 8)).list.length=8)→
  shotLines i (S.set j (shSet (U.at S j) (zapT (shT (U.at S j)).list k)))=(shotLines i S).filter fun l=>!decide (plI l=(i + j,(k:Int)))
 | [],_,_,_,h,_=>absurd h (Nat.not_lt_zero _)
 | x :: r,i,0,k,_,h=>by
  have h:k / 8 < (shT x).list.length∧(U.at (shT x).list (k / 8)).list.length=8:=h
  have e:shT x=nth (.i 0) x.list 2:=by show nth _ x.list.tail.tail 0=_;rw [nth_tail,nth_tail]
  show shotLines i (shSet x (zapT (shT x).list k) :: r)=_
  have e':nth (.i 0) (shSet x (zapT (shT x).list k)).list 2 = .l (zapT (shT x).list k):=by
   have:shT (shSet x (zapT (shT x).list k))=nth (.i 0) (shSet x (zapT (shT x).list k)).list 2:=by show nth _ (shSet x (zapT (shT x).list k)).list.tail.tail 0=_;rw [nth_tail,nth_tail]
   rw [← this];rfl
  rw [shotLines,shotLines,List.filter_append,e',← e,show i + ((0:Nat):Int)=i by omega]
  show linesOf (.i i) (zapT (shT x).list k) ++ _=_
  rw [lines_zap2 h.1 h.2]
  congr 1
  refine (filt_all fun l hl=>?_).symm
  obtain ⟨j,_,hm⟩:=shot_mem hl
  rw [lines_fst hm]
  show i + 1 + (j:Int)≠i
  omega
 | x :: r,i,j + 1,k,hj,h=>by
  have ih:=shot_zap (S:=r) (i:=i + 1) (j:=j) (k:=k) (by simpa using hj) h
  show shotLines i (x :: r.set j (shSet (U.at r j) (zapT (shT (U.at r j)).list k)))=_
  rw [shotLines,shotLines,List.filter_append,ih,show i + ((j + 1:Nat):Int)=i + 1 + j by omega]
  congr 1
  refine (filt_all fun l hl=>?_).symm
  rw [lines_fst hl]
  show i≠i + 1 + (j:Int)
  omega
structure MR (n c:Int) (T S:List U):Prop where
 t:TR T n c
 tl:T.length≤512
 s:shotsR c S=true
 sl:∀ x,x ∈ S→(shT x).list.length≤512
theorem shT_e2 (x:U):shT x=e2 x:=by show nth _ x.list.tail.tail 0=_;rw [nth_tail,nth_tail]
theorem shots_at {c:Int}:∀ (S:List U),shotsR c S=true↔∀ j,j < S.length→sizeR (e1 (U.at S j)).int c=true∧tableR (shT (U.at S j)).list ((e1 (U.at S j)).int / 2 ^ c.toNat) c=true
 | []=>⟨fun _ j hj=>absurd hj (Nat.not_lt_zero _),fun _=>rfl⟩
 | x :: r=>by
  rw [shotsR,Bool.and_eq_true,Bool.and_eq_true,shots_at r,← shT_e2]
  constructor
  ·rintro ⟨h1,h2⟩ j hj
   cases j with
   | zero=>exact h1
   | succ j=>exact h2 j (by simpa using hj)
  ·intro h
   exact ⟨h 0 (by simp),fun j hj=>h (j + 1) (by simpa using hj)⟩
theorem e1_shSet (x:U) (T:List U):e1 (shSet x T)=e1 x:=by
 show nth (.i 0) x.list.tail 0=nth (.i 0) x.list 1
 rw [nth_tail]
theorem MR.step {n c:Int} {T S:List U} (g:MR n c T S) {l:U} (hl:l ∈ lnsM (T,S)):MR n c (woStep (.i 1) (.i 0) (.i 0) (.i 0) (.i 0) (T,S) (plU l)).1 (woStep (.i 1) (.i 0) (.i 0) (.i 0) (.i 0) (T,S) (plU l)).2∧
  lnsM (woStep (.i 1) (.i 0) (.i 0) (.i 0) (.i 0) (T,S) (plU l))=(lnsM (T,S)).filter (fun x=>!decide (plI x=plI l))∧(woStep (.i 1) (.i 0) (.i 0) (.i 0) (.i 0) (T,S) (plU l)).2.map e0=S.map e0:=by
 unfold lnsM at hl
 rcases List.mem_append.1 hl with hl | hl
 ·obtain ⟨k,hk,rfl⟩:=line_mem hl
  have e:woStep (.i 1) (.i 0) (.i 0) (.i 0) (.i 0) (T,S) (plU (.l (lineU (.i (-1)) T k)))=(setX T k (.i 1) (.i 0) (.i 0) (.i 0) (.i 0),S):=rfl
  rw [e,set_zap g.t hk g.tl]
  obtain ⟨h1,h2,_,_⟩:=g.t.hit hk
  refine ⟨⟨g.t.zap hk,by show (zapT T k).length≤512;unfold zapT;rw [List.length_set];exact g.tl,g.s,g.sl⟩,?_,rfl⟩
  unfold lnsM
  rw [List.filter_append,plI_line]
  show linesOf (.i (-1)) (zapT T k) ++ shotLines 0 S=_
  rw [lines_zap2 h1 h2]
  congr 1
  refine (filt_all fun l hl=>?_).symm
  obtain ⟨j,_,hm⟩:=shot_mem hl
  rw [lines_fst hm]
  show 0 + (j:Int)≠-1
  omega
 ·obtain ⟨j,hj,hm⟩:=shot_mem hl
  obtain ⟨k,hk,rfl⟩:=line_mem hm
  have hs:=(shots_at S).1 g.s j hj
  have hin:U.at S j ∈ S:=by rw [at_get hj];exact List.getElem_mem hj
  have gt:=TR.iff.1 hs.2
  obtain ⟨h1,h2,_,_⟩:=gt.hit hk
  have hz:(0:Int) + (j:Int)=j:=Int.zero_add _
  have e:woStep (.i 1) (.i 0) (.i 0) (.i 0) (.i 0) (T,S) (plU (.l (lineU (.i (0 + (j:Int))) (shT (U.at S j)).list k)))=(T,S.set j (shSet (U.at S j) (setX (shT (U.at S j)).list k (.i 1) (.i 0) (.i 0) (.i 0) (.i 0)))):=by
   rw [hz]
   unfold woStep
   show (bif decide ((j:Int) < 0) then _ else (T,S.set (j:Int).toNat (shSet (U.at S (j:Int).toNat) (setX (shT (U.at S (j:Int).toNat)).list k _ _ _ _ _))))=_
   rw [decide_eq_false (by omega),cond_false,Int.toNat_natCast]
  rw [e,set_zap gt hk (g.sl _ hin)]
  refine ⟨⟨g.t,g.tl,(shots_at _).2 fun i hi=>?_,fun x hx=>?_⟩,?_,?_⟩
  ·rw [List.length_set] at hi
   show sizeR (e1 (U.at (S.set j _) i)).int c=true∧tableR (shT (U.at (S.set j _) i)).list ((e1 (U.at (S.set j _) i)).int / 2 ^ c.toNat) c=true
   rw [at_set hj]
   split
   ·rw [e1_shSet,shT_shSet]
    exact ⟨hs.1,TR.iff.2 (gt.zap hk)⟩
   ·exact (shots_at S).1 g.s i hi
  ·rcases List.mem_or_eq_of_mem_set hx with hx | rfl
   ·exact g.sl x hx
   ·rw [shT_shSet]
    show (zapT _ k).length≤512
    unfold zapT
    rw [List.length_set];exact g.sl _ hin
  ·unfold lnsM
   rw [List.filter_append,plI_line]
   show linesOf (.i (-1)) T ++ shotLines 0 (S.set j _)=_
   rw [shot_zap hj ⟨h1,h2⟩]
   congr 1
   refine (filt_all fun l hl=>?_).symm
   rw [lines_fst hl]
   show (-1:Int)≠0 + (j:Int)
   omega
  ·show (S.set j _).map e0=S.map e0
   rw [List.map_set]
   have:e0 (shSet (U.at S j) (zapT (shT (U.at S j)).list k))=e0 S[j]:=by rw [at_get hj];rfl
   rw [this,← List.map_set,List.set_getElem_self]
theorem MR.wo {n c:Int}:∀ (B T S:List U),MR n c T S→(∀ l,l ∈ B→l ∈ lnsM (T,S))→(B.map plI).Nodup→MR n c (woOf (.i 1) (.i 0) (.i 0) (.i 0) (.i 0) T S (B.map plU)).1 (woOf (.i 1) (.i 0) (.i 0) (.i 0) (.i 0) T S (B.map plU)).2∧
  lnsM (woOf (.i 1) (.i 0) (.i 0) (.i 0) (.i 0) T S (B.map plU))=(lnsM (T,S)).filter (fun x=>!decide (plI x ∈ B.map plI))∧(woOf (.i 1) (.i 0) (.i 0) (.i 0) (.i 0) T S (B.map plU)).2.map e0=S.map e0
 | [],T,S,g,_,_=>⟨g,by
  show lnsM (T,S)=_
  refine (List.filter_eq_self.2 fun l _=>?_).symm
  simp,rfl⟩
 | l :: r,T,S,g,hB,hN=>by
  obtain ⟨n1,n2⟩:=List.nodup_cons.1 hN
  obtain ⟨s1,s2,s3⟩:=g.step (hB l (List.mem_cons_self ..))
  have e:woOf (.i 1) (.i 0) (.i 0) (.i 0) (.i 0) T S ((l :: r).map plU)=woOf (.i 1) (.i 0) (.i 0) (.i 0) (.i 0) (woStep (.i 1) (.i 0) (.i 0) (.i 0) (.i 0) (T,S) (plU l)).1 (woStep (.i 1) (.i 0) (.i 0) (.i 0) (.i 0) (T,S) (plU l)).2 (r.map plU):=rfl
  rw [e]
  obtain ⟨i1,i2,i3⟩:=MR.wo r _ _ s1 (fun x hx=>by
   show x ∈ lnsM (woStep (.i 1) (.i 0) (.i 0) (.i 0) (.i 0) (T,S) (plU l))
   rw [s2]
   refine List.mem_filter.2 ⟨hB x (List.mem_cons_of_mem _ hx),?_⟩
   rw [decide_eq_false fun e=>n1 (List.mem_map.2 ⟨x,hx,e⟩)];rfl) n2
  refine ⟨i1,?_,i3.trans s3⟩
  rw [i2]
  show (lnsM (woStep (.i 1) (.i 0) (.i 0) (.i 0) (.i 0) (T,S) (plU l))).filter _=_
  rw [s2,List.filter_filter]
  refine List.filter_congr fun x _=>?_
  by_cases h1:plI x=plI l
  ·simp [h1]
  ·simp [h1]
theorem bd_out (c z s T Sh M Q F:U):bdU c z s T Sh M Q F=(outL (whU F) c.int [] (lnsM (T.list,Sh.list))).map plU:=by
 refine Eq.trans (show _=((lnsM (T.list,Sh.list)).foldl (badStep (whU F) c.int) ([],[])).1 from rfl) ?_
 rw [fold_out,List.nil_append]
section
variable {c z s T Sh M Q F:U}
theorem MR.of_right (h:metaR c z s T Sh M Q=true) (hpre:mgP T Sh):MR (z.int / 2 ^ c.int.toNat) c.int T.list Sh.list:=by
 obtain ⟨hG,_,_⟩:=GM.of_right h hpre.1 hpre.2
 unfold metaR at h
 simp only [Bool.and_eq_true] at h
 exact ⟨TR.iff.1 h.1.1.1.1.1.1.1.1.2,hG.t.len,h.1.1.1.1.2,fun x hx=>(hG.st x hx).len⟩
theorem mend_lines (h:metaR c z s T Sh M Q=true) (hpre:mgP T Sh):MR (z.int / 2 ^ c.int.toNat) c.int (woU c z s T Sh M Q F).1 (woU c z s T Sh M Q F).2∧lnsM (woU c z s T Sh M Q F)=keepL (whU F) c.int [] (lnsM (T.list,Sh.list))∧
  (woU c z s T Sh M Q F).2.map e0=Sh.list.map e0:=by
 unfold woU
 rw [bd_out]
 obtain ⟨h1,h2,h3⟩:=MR.wo (outL (whU F) c.int [] (lnsM (T.list,Sh.list))) _ _ (MR.of_right h hpre) (fun l hl=>out_sub hl) (out_nodup _ _ (lns_nodup _))
 refine ⟨h1,?_,h3⟩
 rw [h2,keep_filter _ _ (lns_nodup _)]
abbrev mT (c z s T Sh M Q F:U):U:=.l (woU c z s T Sh M Q F).1
abbrev mS (c z s T Sh M Q F:U):U:=.l ((woU c z s T Sh M Q F).2.map cutSh)
abbrev mM (M:U):U:=.l (M.list.map mpSet)
abbrev mQ (c z s T Sh M Q F:U):U:=.l (ofV (okM c z s T Sh M Q F) (szU F).toNat)
theorem mended_lns:lnsM ((mT c z s T Sh M Q F).list,(mS c z s T Sh M Q F).list)=lnsM (woU c z s T Sh M Q F):=by
 show linesOf _ _ ++ shotLines 0 (List.map cutSh _)=_
 rw [shotLines_cut];rfl
theorem mended_none (h:metaR c z s T Sh M Q=true) (hpre:mgP T Sh) (M' Q':U):bdU c z s (mT c z s T Sh M Q F) (mS c z s T Sh M Q F) M' Q' F=[]:=by
 rw [bd_out,mended_lns,(mend_lines h hpre).2.1,out_keep];rfl
theorem mended_ok (h:metaR c z s T Sh M Q=true) (hpre:mgP T Sh) (M' Q':U):okM c z s (mT c z s T Sh M Q F) (mS c z s T Sh M Q F) M' Q' F=okM c z s T Sh M Q F:=by
 unfold okM
 have e:woU c z s (mT c z s T Sh M Q F) (mS c z s T Sh M Q F) M' Q' F=((mT c z s T Sh M Q F).list,(mS c z s T Sh M Q F).list):=by
  unfold woU
  rw [mended_none h hpre];rfl
 rw [e]
 exact mended_lns
theorem cover_le (k:Nat):∀ L:List U,coverR L k≤(L.length:Int)
 | []=>Int.le_refl _
 | l :: r=>by
  have h1:=cover_le k r
  have h2:=(inI_01 (lnSt l).int ((lnSt l).int + (lnCt l).int) k).2
  rw [coverR,List.length_cons]
  omega
theorem counts_of:∀ {l:List U},(∀ x,x ∈ l→0≤x.int∧x.int≤65535)→countsR l=true
 | [],_=>rfl
 | x :: r,h=>by
  obtain ⟨h1,h2⟩:=h x (List.mem_cons_self ..)
  rw [countsR,counts_of fun y hy=>h y (List.mem_cons_of_mem _ hy),decide_eq_true h1,decide_eq_true h2];rfl
theorem maps_set:∀ M:List U,mapsR (M.map mpSet)=mapsR M
 | []=>rfl
 | b :: r=>by
  have e:(e2 (mpSet b)).list=(e2 b).list:=by
   show (nth (.i 0) b.list.tail.tail 0).list=(nth (.i 0) b.list 2).list
   rw [nth_tail,nth_tail]
  rw [List.map_cons,mapsR,mapsR,maps_set r,e]
theorem shots_cut (c:Int):∀ S:List U,shotsR c (S.map cutSh)=shotsR c S
 | []=>rfl
 | x :: r=>by
  have e:(e2 (cutSh x)).list=(e2 x).list:=by rw [← shT_e2,← shT_e2,shT_shSet];rfl
  rw [List.map_cons,shotsR,shotsR,shots_cut c r,e,e1_shSet]
theorem flCnts_self {sz:Int} {Q:List U} (hs:(Q.length:Int)≤sz):∀ (R:List U) (i:Nat),R=Q.drop i→flCnts sz Q i R=[]
 | [],_,_=>rfl
 | x :: r,i,h=>by
  have hi:i < Q.length:=by
   by_cases hi:i < Q.length
   ·exact hi
   ·rw [List.drop_eq_nil_of_le (by omega)] at h;cases h
  rw [drop_cons_at hi] at h
  injection h with h1 h2
  rw [flCnts,show (i:Int) + 1=((i + 1:Nat):Int) by omega,flCnts_self hs r (i + 1) h2,List.append_nil]
  unfold flCnt
  rw [decide_eq_true (by omega:(i:Int) < (Q.length:Int)),decide_eq_false (by omega:¬ (i:Int) ≥ sz),Int.toNat_natCast,cond_true,cond_false,h1,decide_eq_false (Int.lt_irrefl _)]
  rfl
theorem mended_len (c z s T Sh M Q F:U):(mQ c z s T Sh M Q F).list.length=(szU F).toNat:=ofV_len _ _
theorem ofV_in (h:metaR c z s T Sh M Q=true) (hpre:mgP T Sh) (n:Nat):∀ x,x ∈ ofV (okM c z s T Sh M Q F) n→0≤x.int∧x.int≤36866:=fun x hx=>by
 obtain ⟨_,_,hW,_,_,_⟩:=md_conds (F:=F) h hpre
 unfold ofV at hx
 obtain ⟨k,_,rfl⟩:=List.mem_map.1 hx
 have h1:=cover_nonneg k (okM c z s T Sh M Q F)
 have h2:=cover_le k (okM c z s T Sh M Q F)
 have h3:(okM c z s T Sh M Q F).length≤36864:=hW.each.2
 show 0≤(if k < 2 then (1:Int) else 0) + _∧(if k < 2 then (1:Int) else 0) + _≤36866
 split<;>omega
theorem mended_rightQ (h:metaR c z s T Sh M Q=true) (hpre:mgP T Sh) {Q':U} (hq:Q'.list.length≤65536) (hcn:countsR Q'.list=true):metaR c z s (mT c z s T Sh M Q F) (mS c z s T Sh M Q F) (mM M) Q' = true:=by
 obtain ⟨g,_,hn⟩:=mend_lines (F:=F) h hpre
 have hlen:(woU c z s T Sh M Q F).2.length=Sh.list.length:=by
  have:=congrArg List.length hn
  rw [List.length_map,List.length_map] at this;exact this
 unfold metaR at h ⊢
 simp only [Bool.and_eq_true,decide_eq_true_eq] at h ⊢
 obtain ⟨⟨⟨⟨⟨⟨⟨⟨⟨⟨⟨⟨h1,h2⟩,h3⟩,h4⟩,h5⟩,h6⟩,h7⟩,h8⟩,h9⟩,h10⟩,h11⟩,h12⟩,h13⟩:=h
 refine ⟨⟨⟨⟨⟨⟨⟨⟨⟨⟨⟨⟨h1,h2⟩,h3⟩,h4⟩,TR.iff.2 g.t⟩,?_⟩,?_⟩,?_⟩,?_⟩,?_⟩,hcn⟩,?_⟩,?_⟩
 ·show (List.map cutSh _).length≤8
  rw [List.length_map,hlen];exact h6
 ·show (List.map mpSet _).length≤8
  rw [List.length_map];exact h7
 ·exact hq
 ·show shotsR c.int (List.map cutSh _)=true
  rw [shots_cut];exact g.s
 ·show mapsR (List.map mpSet _)=true
  rw [maps_set];exact h10
 ·have e:(mS c z s T Sh M Q F).list.map e0=Sh.list.map e0:=by
   show (List.map cutSh _).map e0=_
   rw [List.map_map,← hn];rfl
  rw [e];exact h12
 ·have e:(mM M).list.map e0=M.list.map e0:=by
   show (List.map mpSet _).map e0=_
   rw [List.map_map];rfl
  rw [e];exact h13
theorem mended_right (h:metaR c z s T Sh M Q=true) (hpre:mgP T Sh):metaR c z s (mT c z s T Sh M Q F) (mS c z s T Sh M Q F) (mM M) (mQ c z s T Sh M Q F)=true:=
 mended_rightQ h hpre (by rw [mended_len];have:=szU_in F;omega) (counts_of fun x hx=>by have:=ofV_in h hpre _ x hx;omega)
theorem nU_mended (Q':U) (h:Q'.list.length=(szU F).toNat):nU F Q' = szU F:=by
 have:=szU_in F
 unfold nU
 rw [decide_eq_false (by omega)];rfl
theorem mended_fa (h:metaR c z s T Sh M Q=true) (hpre:mgP T Sh):faV c z s (mT c z s T Sh M Q F) (mS c z s T Sh M Q F) (mM M) (mQ c z s T Sh M Q F) F=[]:=by
 have:=szU_in F
 unfold faV
 rw [mended_none h hpre,mended_ok h hpre,nU_mended _ (mended_len ..),List.map_nil,List.nil_append]
 refine flCnts_self ?_ _ 0 rfl
 rw [mended_len];omega
end
end Go.Mat

namespace Go.Den
open Go Go.RowKit
section
variable {P:Program} {Θ:Anc} {n:Nat} {σ:St} {a:Act} {w w':World} {Z:Nat→Prop} {G:Nat→Value}
theorem Sim.iced (S:Sim P Θ n σ a w Z G) {id:Nat} {e:TypeId} {xs:List U} {m:Bool} {cs:List Ct} (hp:getO σ.objs id=some (.arr e xs)) (hcs:Cs P e=some (m,cs)):∃ Z',Sim P Θ n (σ.freeze id (.val (.sl m cs) (.l xs))) a w Z' G:=by
 obtain ⟨m2,cs2,vs,h1,h2,h3⟩:=S.obj id _ hp
 rw [hcs] at h1
 cases h1
 have hx:RepC w (fun b=>Z b∨blk (G id)=some b) (.sl m cs) (G id) (.l xs):=own_rep (fun _ hb=>Or.inl hb) (fun b hb=>Or.inr hb) h2 h3
 exact ⟨_,S.freeze (x:=.val (.sl m cs) (.l xs)) hp hx fun b hb=>arr_plain (S.obj id _ hp) hb⟩
end
end Go.Den

namespace Go.Mat
open Go Go.Den Go.Proofs
theorem crcStep_zero {x:BitVec 32} (h:crcStep x=0#32):x=0#32:=by
 unfold crcStep at h
 split at h
 ·have h31:((x >>> 1) ^^^ crcP).getLsbD 31=true:=by
   rw [BitVec.getLsbD_xor,BitVec.getLsbD_ushiftRight,BitVec.getLsbD_of_ge x (1 + 31) (by decide)];decide
  rw [h] at h31
  simp at h31
 ·rename_i hb
  refine BitVec.eq_of_getLsbD_eq fun i hi=>?_
  rw [BitVec.getLsbD_zero]
  cases i with
  | zero=>simpa using hb
  | succ i=>
   have:=congrArg (fun z=>z.getLsbD i) h
   simp only [BitVec.getLsbD_ushiftRight,BitVec.getLsbD_zero] at this
   rw [Nat.add_comm];exact this
theorem crcStep_inj {x y:BitVec 32} (h:crcStep x=crcStep y):x=y:=by
 have h1:crcStep (x ^^^ y)=0#32:=by rw [crcStep_xor,h,BitVec.xor_self]
 have e:x ^^^ y ^^^ y=0#32 ^^^ y:=by rw [crcStep_zero h1]
 rw [BitVec.xor_assoc,BitVec.xor_self,BitVec.xor_zero,BitVec.zero_xor] at e
 exact e
abbrev in32 (h:Int):Prop:=0≤h∧h < 4294967296
theorem ofInt_inj {h g:Int} (hh:in32 h) (hg:in32 g) (e:BitVec.ofInt 32 h=BitVec.ofInt 32 g):h=g:=by
 rw [← bv_of hh.1 hh.2,← bv_of hg.1 hg.2,e]
theorem stepI_inj {h g:Int} (hh:in32 h) (hg:in32 g) (e:stepI h=stepI g):h=g:=by
 unfold stepI at e
 exact ofInt_inj hh hg (crcStep_inj (BitVec.eq_of_toNat_eq (by omega)))
theorem stepsI_inj:∀ (n:Nat) {h g:Int},in32 h→in32 g→stepsI n h=stepsI n g→h=g
 | 0,_,_,_,_,e=>e
 | n + 1,h,g,hh,hg,e=>stepI_inj hh hg (stepsI_inj n (stepI_in h) (stepI_in g) e)
theorem xorI_in (c:BitVec 32):in32 (c.toNat:Int):=by
 have:=c.isLt
 unfold in32
 omega
theorem byteI_inj {h g x y:Int} (e:byteI h x=byteI g y):BitVec.ofInt 32 h ^^^ BitVec.ofInt 32 (IntKind.wrap .u32 x)=BitVec.ofInt 32 g ^^^ BitVec.ofInt 32 (IntKind.wrap .u32 y):=by
 unfold byteI at e
 rw [u32_bv,u32_bv] at e
 have:=stepsI_inj 8 (xorI_in _) (xorI_in _) e
 exact BitVec.eq_of_toNat_eq (by omega)
theorem xor_right {a b c:BitVec 32} (h:a ^^^ c=b ^^^ c):a=b:=by
 have e:a ^^^ c ^^^ c=b ^^^ c ^^^ c:=by rw [h]
 rw [BitVec.xor_assoc,BitVec.xor_self,BitVec.xor_zero,BitVec.xor_assoc,BitVec.xor_self,BitVec.xor_zero] at e
 exact e
theorem byteI_fst {h g x:Int} (hh:in32 h) (hg:in32 g) (e:byteI h x=byteI g x):h=g:=ofInt_inj hh hg (xor_right (byteI_inj e))
theorem wrap_byte {x:Int} (h:0≤x∧x≤255):IntKind.wrap .u32 x=x:=by
 simp only [IntKind.wrap,IntKind.bits,IntKind.signed]
 simp
 omega
theorem byteI_snd {h x y:Int} (hx:0≤x∧x≤255) (hy:0≤y∧y≤255) (e:byteI h x=byteI h y):x=y:=by
 have:=byteI_inj e
 rw [BitVec.xor_comm,BitVec.xor_comm (BitVec.ofInt 32 h),wrap_byte hx,wrap_byte hy] at this
 exact ofInt_inj ⟨hx.1,by omega⟩ ⟨hy.1,by omega⟩ (xor_right this)
theorem bytesI_fst:∀ (l:List U) {h g:Int},in32 h→in32 g→bytesI h l=bytesI g l→h=g
 | [],_,_,_,_,e=>e
 | x :: r,h,g,hh,hg,e=>byteI_fst hh hg (bytesI_fst r (byteI_in h x.int) (byteI_in g x.int) e)
theorem bytesI_set:∀ (l:List U) (j:Nat) {h v:Int},j < l.length→0≤v∧v≤255→0≤(U.at l j).int∧(U.at l j).int≤255→bytesI h (l.set j (.i v))=bytesI h l→v=(U.at l j).int
 | [],_,_,_,hj,_,_,_=>absurd hj (Nat.not_lt_zero _)
 | x :: r,0,h,v,_,hv,hx,e=>byteI_snd hv hx (bytesI_fst r (byteI_in h v) (byteI_in h x.int) e)
 | x :: r,j + 1,h,v,hj,hv,hx,e=>bytesI_set r j (h:=byteI h x.int) (by simpa using hj) hv hx e
theorem compl_inj {x y:Int} (hx:in32 x) (hy:in32 y) (e:compl .u32 x=compl .u32 y):x=y:=by
 have e:IntKind.wrap .u32 ((BitVec.ofInt 32 IntKind.u32.max ^^^ BitVec.ofInt 32 x).toNat:Int)=IntKind.wrap .u32 ((BitVec.ofInt 32 IntKind.u32.max ^^^ BitVec.ofInt 32 y).toNat:Int):=e
 rw [u32_bv,u32_bv] at e
 have:=BitVec.eq_of_toNat_eq (show (BitVec.ofInt 32 IntKind.u32.max ^^^ BitVec.ofInt 32 x).toNat=(BitVec.ofInt 32 IntKind.u32.max ^^^ BitVec.ofInt 32 y).toNat by omega)
 rw [BitVec.xor_comm,BitVec.xor_comm (BitVec.ofInt 32 IntKind.u32.max)] at this
 exact ofInt_inj hx hy (xor_right this)
theorem sum_set {l:List U} {j:Nat} {v:Int} (hj:j < l.length) (hv:0≤v∧v≤255) (hx:0≤(U.at l j).int∧(U.at l j).int≤255) (h:v≠(U.at l j).int):sumI 0 (l.set j (.i v))≠sumI 0 l:=fun e=>by
 unfold sumI at e
 exact h (bytesI_set l j hj hv hx (compl_inj (bytesI_in _ (compl_in _)) (bytesI_in _ (compl_in _)) e))
end Go.Mat

namespace Go.Den
open Go Go.RowKit
structure Bite (b o:Nat) (y:Int) (w w':World):Prop where
 os:w'.os=w.os
 tape:w'.tape=w.tape
 output:w'.output=w.output
 size:w'.heap.size=w.heap.size
 block:∀ k,k≠b→w'.heap[k]? = w.heap[k]?
 other:∀ p v,p≠⟨b,o,none⟩→w.cell? p=some v→w'.cell? p=some v
 now:w'.cell? ⟨b,o,none⟩=some (.int .u8 y)
 was:∃ x,w.cell? ⟨b,o,none⟩=some (.int .u8 x)
mutual
def noByte:Ct→Bool
 | .int k=>match k with | .u8=>false | _=>true
 | .sl _ cs=>noBytes cs
 | .oth=>false
 | _=>true
def noBytes:List Ct→Bool
 | []=>true
 | c :: r=>noByte c && noBytes r
end
theorem noByte_ne {w:World} {Z:Nat→Prop} {c:Ct} {v:Value} {u:U} (hc:noByte c=true) (h:RepC w Z c v u):∀ i,v≠.int .u8 i:=by
 intro i e
 subst e
 cases c with
 | int k=>have h:=h.1;cases k<;>first | (cases hc;done) | (cases h;done)
 | bool=>have h:(.int .u8 i:Value) = .bool _:=h;cases h
 | str=>have h:=h.1;cases h
 | sl m cs=>obtain ⟨A,c,h,_⟩:=h;cases h
 | oth=>cases hc
section
variable {b o:Nat} {y:Int} {w w':World} {Z:Nat→Prop}
theorem Bite.same (B:Bite b o y w w') {p:Addr} {v:Value} (hc:w.cell? p=some v) (hv:∀ i,v≠.int .u8 i):w'.cell? p=some v:=by
 by_cases e:p=⟨b,o,none⟩
 ·subst e
  obtain ⟨x,hx⟩:=B.was
  rw [hc] at hx
  cases hx
  exact absurd rfl (hv x)
 ·exact B.other p v e hc
mutual
theorem RepC.bite (B:Bite b o y w w'):∀ (c:Ct) {v:Value} {u:U},noByte c=true→RepC w Z c v u→RepC w' Z c v u
 | .int _,_,_,_,h=>h
 | .bool,_,_,_,h=>h
 | .str,_,_,_,h=>h
 | .sl m cs,v,u,hc,h=>by
  obtain ⟨A,c,h1,h2,h3,h4⟩:=h
  refine ⟨A,c,h1,h2,h3,fun k hk=>?_⟩
  obtain ⟨b',o',g1,g2,g3⟩:=h4 k hk
  exact ⟨b',o',g1,g2,RepCs.bite B cs hc g3⟩
 | .oth,_,_,hc,_=>by cases hc
theorem RepCs.bite (B:Bite b o y w w'):∀ (cs:List Ct) {b' o':Nat} {us:List U},noBytes cs=true→RepCs w Z cs b' o' us→RepCs w' Z cs b' o' us
 | [],_,_,_,_,_=>trivial
 | c :: cs,b',o',us,hc,h=>by
  unfold noBytes at hc
  rw [Bool.and_eq_true] at hc
  obtain ⟨⟨v,h1,h2⟩,h3⟩:=h
  exact ⟨⟨v,B.same h1 (noByte_ne hc.1 h2),RepC.bite B c hc.1 h2⟩,RepCs.bite B cs hc.2 h3⟩
end
theorem row_bite {o0 n c j:Nat} {xs:List U} (B:Bite b (o0 + j) y w w') (hy:0≤y∧y≤255) (hj:j < xs.length) (h:RepC w Z (.sl false [.int .u8]) (.slice (some ⟨b,o0,none⟩) n c) (.l xs)):RepC w' Z (.sl false [.int .u8]) (.slice (some ⟨b,o0,none⟩) n c) (.l (xs.set j (.i y))):=by
 obtain ⟨A,c',h1,h2,h3,h4⟩:=h
 cases h1
 have hl:(U.l (xs.set j (.i y))).list.length=xs.length:=List.length_set ..
 refine ⟨_,_,by rw [hl];rfl,by rw [hl];exact h2,h3,fun k hk=>?_⟩
 rw [hl] at hk
 obtain ⟨b',o',g1,g2,⟨v,g3,g4⟩,_⟩:=h4 k hk
 cases g1
 refine ⟨_,_,rfl,g2,?_,trivial⟩
 have e0:∀ u:U,U.at (elemU false u) 0=u:=fun u=>rfl
 rw [e0] at g4 ⊢
 have hs:U.at (xs.set j (.i y)) k=if k=j then .i y else U.at xs k:=at_set hj
 show ∃ v,w'.cell? _=some v∧RepC w' Z (.int .u8) v (U.at (xs.set j (.i y)) k)
 rw [hs]
 by_cases e:k=j
 ·subst e
  rw [if_pos rfl]
  exact ⟨_,by simpa using B.now,rfl,hy.1,hy.2⟩
 ·rw [if_neg e]
  exact ⟨v,B.other _ _ (fun h=>by simp at h;omega) g3,g4⟩
theorem bite_store {P:Program} {t:TypeId} {x:Int} (ht:sizeT P t=some 1) (hp:Plain w b) (hc:w.cell? ⟨b,o,none⟩=some (.int .u8 x)) (y:Int) :
  ∃ w',(storeVar t ⟨b,o,none⟩ (.int .u8 y)).run P w = .ok () w'∧Bite b o y w w'∧∀ b',Plain w b'→Plain w' b':=by
 obtain ⟨c,ty,hb⟩:=hp
 have hlt:o < c.size:=by
  rw [cell_of_row w b o c ty (0,0) hb] at hc
  exact (Array.getElem?_eq_some_iff.1 hc).1
 have hrun:=run_storeVar_block (P:=P) (w:=w) (t:=t) (k:=1) (b:=b) (o:=o) (ty:=ty) (cur:=c) (v:=.int .u8 y) ht rfl (fun u hu=>by
  have:u = .int .u8 y:=by simpa [Value.cells] using hu
  subst this;rfl) hb (by omega)
 refine ⟨_,hrun,?_⟩
 have hcs:(Value.int .u8 y).cells.toList=[.int .u8 y]:=rfl
 rw [hcs]
 obtain ⟨h1,h2,h3,h4⟩:=setCells_plain b [.int .u8 y] o w
 obtain ⟨cur',g1,g2,g3⟩:=setCells_block b ty [.int .u8 y] o w c hb (by simp;omega)
 have hother:∀ k,k≠b→(w.setCells b o [.int .u8 y]).heap[k]? = w.heap[k]?:=fun k hk=>setCells_other b _ o w k hk
 have hs:w.setCells b o [.int .u8 y]=w.setCell ⟨b,o,none⟩ (.int .u8 y):=rfl
 refine ⟨⟨h1,h2,h3,h4,hother,fun p v hpe hv=>?_,?_,⟨x,hc⟩⟩,fun b' hb'=>?_⟩
 ·rw [hs,World.cell?_setCell_other _ _ _ _ (Ne.symm hpe)];exact hv
 ·rw [hs];exact World.cell?_setCell_same _ _ _ hc
 ·by_cases e:b' = b
  ·subst e;exact ⟨cur',ty,g1⟩
  ·exact hb'.of (hother b' e)
end
end Go.Den

namespace Go.Mat
open Go Go.Den Go.Proofs
def rE2 (q:Nat) (f:Nat→Int):U:=.l [.i 2,.i ((2 + 3 * q:Nat):Int),.i 2,.i 0,.i (f q)]
def rowT (n j:Nat) (f:Nat→Int):U:=.l ((List.range 8).map fun q=>bif Nat.blt (8 * j + q) n then rE2 (8 * j + q) f else zE)
def tabT (n:Nat) (f:Nat→Int):List U:=(List.range ((n + 7) / 8)).map fun j=>rowT n j f
def fS (F:List U) (q:Nat):Int:=sumAt F ((2 + 3 * q:Nat):Int) 2
def stI2 (i:U):Int:=IntKind.wrap IntKind.i64 ((2:Int) + IntKind.wrap IntKind.i64 ((3:Int) * i.int))
def stI3 (i:U):Int:=IntKind.wrap IntKind.i64 ((3:Int) + IntKind.wrap IntKind.i64 ((3:Int) * i.int))
def fvU (c z s T Sh M Q F:U):List U:=bif metaR c z s T Sh M Q then faV c z s T Sh M Q F else []
def loI (i:U):Int:=IntKind.wrap IntKind.i64 ((16:Int) * stI2 i)
def hiI (i:U):Int:=IntKind.wrap IntKind.i64 (loI i + 32)
def smI (i F:U):Int:=sumI 0 (List.drop (Int.toNat (loI i)) (List.take (Int.toNat (hiI i)) F.list))
noncomputable def tuLoop:LoopF:=fun _ svs os k=>match svs,os with
 | [.val (.int .i64) i,.val (.sl false [.int .u8]) F,.val (.int .u8) a,.val (.int .u8) b,.ptr p q],[.box [.val (.int .i64) c,.val (.int .i64) z,.val .str s,.val (.sl false [.sl true x1]) T,.val (.sl true x3) Sh,.val (.sl true x2) M,.val (.sl false [.int .i64]) Q]]=>
  ((p=768∧q=0∧x1=EC∧x3=SC∧x2=BC)∧i = .i i.int∧0≤i.int∧i.int≤10∧F.list.length=640∧T = .l (tabT i.int.toNat (fS F.list)))∧
  k (.exit 0) ⟨[(5,vf F),(0,.val (.int .u8) a),(1,.val (.int .u8) b),(6,.ptr 768 0)],[(768,mBox c z s (.l (tabT 10 (fS F.list))) Sh M Q)]⟩
 | _,_=>False
noncomputable def tuC:Ctx:=(mkC PR eqsF (fnsCons 9 tA15 (fnsCons 12 nA15 (fnsCons 19 sumS (fnsConsP 21 setP setQ
 (fnsConsP 20 fileP fileS (fnsConsP 15 faP faS fnsNil)))))) (trsCons 16 [] mdF trsNil)
 (loopCons 0 [7,5,0,1,6] [768] tuLoop noLoops) (outCons 0 [5,0,1,6] [768] (outCons 1048576 [4] [] noOut)) noOut).panics fun _ _=>False
noncomputable def tuB:Code:=bodyOf Try.f8
theorem tu_round (pan:KP) (μ:Mu) (N:Nat) (k:KE) (i F a b c z s T Sh M Q:U):(exec (tuC.panics pan) (loopBody Try.f8 0) 0 ⟨[(7,vi i),(5,vf F),(0,.val (.int .u8) a),(1,.val (.int .u8) b),(6,.ptr 768 0)],[(768,mBox c z s T Sh M Q)]⟩ (again PR (some ([5,0,1,6],[768])) (some ([4],[])) pan [7,5,0,1,6] [768] tuLoop μ N k))=(bif decide (i.int < 10) then bif decide ((0:Int)≤loI i∧loI i≤hiI i∧hiI i≤hiI i∧hiI i≤(F.list.length:Int)) && true then (fun T=>Alt T T) (setP [[T],[i],[U.i 2,U.i (stI2 i),U.i 2,U.i 0,U.i (smI i F)]]∧bif Nat.blt (μ [vi (U.i (IntKind.wrap .i64 (i.int + 1))),.val (.sl false [.int .u8]) F,.val (.int .u8) a,.val (.int .u8) b,.ptr 768 0] [.box [vi c,vi z,.val .str s,.val (.sl false [.sl true EC]) (U.l (setY T.list i.int (U.i 2) (U.i (stI2 i)) (U.i 2) (U.i 0) (U.i (smI i F)))),.val (.sl true [.str,.int .i64,Ct.sl false [.sl true EC]]) Sh,.val (.sl true [.str,Ct.bool,Ct.sl true [.int .i64,.int .i64]]) M,.val (.sl false [.int .i64]) Q]]) N then ((768=nat_lit 768∧nat_lit 0=nat_lit 0∧EC=EC∧[Ct.str,.int .i64,Ct.sl false [Ct.sl true EC]]=[.str,.int .i64,Ct.sl false [.sl true EC]]∧[Ct.str,Ct.bool,Ct.sl true [.int .i64,.int .i64]]=[.str,Ct.bool,Ct.sl true [.int .i64,.int .i64]])∧U.i (IntKind.wrap .i64 (i.int + 1))=U.i (IntKind.wrap .i64 (i.int + 1))∧(0:Int)≤IntKind.wrap .i64 (i.int + 1)∧IntKind.wrap .i64 (i.int + 1)≤10∧F.list.length=nat_lit 640∧U.l (setY T.list i.int (U.i 2) (U.i (stI2 i)) (U.i 2) (U.i 0) (U.i (smI i F)))=U.l (tabT (Int.toNat (IntKind.wrap .i64 (i.int + 1))) (fS F.list)))∧k (Ex.exit 0) (St.mk [(5,.val (.sl false [.int .u8]) F),(0,.val (.int .u8) a),(1,.val (.int .u8) b),(6,.ptr 768 0)] [(768,.box [vi c,vi z,.val .str s,.val (.sl false [.sl true EC]) (U.l (tabT (10:Nat) (fS F.list))),.val (.sl true [.str,.int .i64,Ct.sl false [.sl true EC]]) Sh,.val (.sl true [.str,Ct.bool,Ct.sl true [.int .i64,.int .i64]]) M,.val (.sl false [.int .i64]) Q])]) else False) else False else k (Ex.exit 0) (St.mk [(5,.val (.sl false [.int .u8]) F),(0,.val (.int .u8) a),(1,.val (.int .u8) b),(6,.ptr 768 0)] [(768,.box [vi c,vi z,.val .str s,.val (.sl false [.sl true EC]) T,.val (.sl true [.str,.int .i64,Ct.sl false [.sl true EC]]) Sh,.val (.sl true [.str,Ct.bool,Ct.sl true [.int .i64,.int .i64]]) M,.val (.sl false [.int .i64]) Q])])):=by kernel_rfl
theorem tu_A (k:KE) (a b:U):(exec tuC (takeC 2 tuB) 0 ⟨[(0,.val (.int .u8) a),(1,.val (.int .u8) b)],[]⟩ (seenS [0,1,5,6] [768,8486920,8486922,8486924,8486926] k))=(fileP [[U.i 40]]∧k Ex.normal (St.mk [(0,SV.val (.int .u8) a),(1,SV.val (.int .u8) b),(5,SV.val (Ct.sl false [.int .u8]) (U.l lawF)),(6,SV.ptr 768 0)] [(768,Obj.box [vi (U.i 1),vi (U.i 20),SV.val
 Ct.str (U.s (ByteArray.mk #[])),SV.own 8486920,SV.own 8486922,SV.own 8486924,SV.own 8486926]),(8486920,Obj.arr 64 []),(8486922,Obj.arr 73 []),(8486924,Obj.arr 77 []),(8486926,Obj.arr 3 [])])):=by kernel_rfl
theorem tu_L (k:KE) (a b F c z s T Sh M Q:U):(exec tuC (takeC 0 (dropC 3 tuB)) 0 ⟨[(0,.val (.int .u8) a),(1,.val (.int .u8) b),(5,vf F),(6,.ptr 768 0)],[(768,mBox c z s T Sh M Q)]⟩ (seenS [0,1,5,6] [768] k))=(((768=nat_lit 768∧nat_lit 0=nat_lit 0∧EC=EC∧[Ct.str,.int .i64,Ct.sl false [Ct.sl true EC]]=[Ct.str,.int .i64,Ct.sl false [Ct.sl true EC]]∧[Ct.str,Ct.bool,Ct.sl true [.int .i64,.int
 .i64]]=[Ct.str,Ct.bool,Ct.sl true [.int .i64,.int .i64]])∧U.i (0:Int)=U.i 0∧(0:Int)≤0∧(0:Int)≤10∧List.length F.list=nat_lit 640∧T=U.l (tabT (Int.toNat 0) (fS F.list)))∧
 k Ex.normal (St.mk [(0,SV.val (.int .u8) a),(1,SV.val (.int .u8) b),(5,SV.val (Ct.sl false [.int .u8]) F),(6,SV.ptr 768 0)] [(768,Obj.box [vi c,vi z,SV.val Ct.str s,SV.val (Ct.sl false [Ct.sl
 true EC]) (U.l (tabT (10:Nat) (fS F.list))),SV.val (Ct.sl true [Ct.str,.int .i64,Ct.sl false [Ct.sl true EC]]) Sh,SV.val (Ct.sl true [Ct.str,Ct.bool,Ct.sl true [.int .i64,.int .i64]]) M,SV.val
 (Ct.sl false [.int .i64]) Q])])):=by kernel_rfl
theorem tu_B (k:KE) (a b F c z s T Sh M Q:U):(exec tuC (takeC 2 (dropC 4 tuB)) 0 ⟨[(0,.val (.int .u8) a),(1,.val (.int .u8) b),(5,vf F),(6,.ptr 768 0)],[(768,mBox c z s T Sh M Q)]⟩ (seenS [0,1,5,9,11] [1152] k))=(((EC=EC∧[Ct.str,.int .i64,Ct.sl false [Ct.sl true EC]]=[.str,.int .i64,Ct.sl false [.sl true EC]]∧[Ct.str,Ct.bool,Ct.sl true [.int .i64,.int .i64]]=[.str,Ct.bool,Ct.sl true [.int .i64,.int .i64]])∧metaR c z s T Sh M Q=true∧mdP [[c,z,s,T,Sh,M,Q],[F]])∧faP [[c,z,s,U.l ((mT c z s T Sh M Q F).list),U.l ((mS c z s T Sh M Q F).list),U.l ((mM M).list),U.l ((mQ c z s T Sh M Q F).list)],[F]]∧bif (↑(List.length (bif metaR c z s (U.l ((mT c z s T Sh M Q F).list)) (U.l ((mS c z s T Sh M Q F).list)) (U.l ((mM M).list)) (U.l ((mQ c z s T Sh M Q F).list)) then faV c z s (U.l ((mT c z s T Sh M Q F).list)) (U.l ((mS c z s T Sh M Q F).list)) (U.l ((mM M).list)) (U.l ((mQ c z s T Sh M Q F).list)) F else [])):Int) != 0 then k Ex.ret (St.mk [(0,.val (.int .u8) a),(1,.val (.int .u8) b),(5,.val (.sl false [.int .u8]) F),(9,.ptr 1152 0),(11,.unk)] [(1152,.box [vi c,vi z,.val .str s,.val (.sl false [.sl true EC]) (U.l ((mT c z s T Sh M Q F).list)),.val (.sl true [.str,.int .i64,Ct.sl false [.sl true EC]]) (U.l ((mS c z s T Sh M Q F).list)),.val (.sl true [.str,Ct.bool,Ct.sl true [.int .i64,.int .i64]]) (U.l ((mM M).list)),.val (.sl false [.int .i64]) (U.l ((mQ c z s T Sh M Q F).list))])]) else k Ex.normal (St.mk [(0,.val (.int .u8) a),(1,.val (.int .u8) b),(5,.val (.sl false [.int .u8]) F),(9,.ptr 1152 0),(11,vi (U.i (Int.tmod (IntKind.wrap .i64 a.int) 10)))] [(1152,.box [vi c,vi z,.val .str s,.val (.sl false [.sl true EC]) (U.l ((mT c z s T Sh M Q F).list)),.val (.sl true [.str,.int .i64,Ct.sl false [.sl true EC]]) (U.l ((mS c z s T Sh M Q F).list)),.val (.sl true [.str,Ct.bool,Ct.sl true [.int .i64,.int .i64]]) (U.l ((mM M).list)),.val (.sl false [.int .i64]) (U.l ((mQ c z s T Sh M Q F).list))])])):=by kernel_rfl
theorem tu_E (k:KE) (F i c z s T Sh M Q:U):(exec tuC (dropC 8 tuB) 0 ⟨[(5,vf F),(9,.rptr MTC [c,z,s,T,Sh,M,Q]),(11,vi i)],[]⟩ (seenS [4] [] k))=(faP [[c,z,s,T,Sh,M,Q],[F]]∧bif (↑(List.length (fvU c z s T Sh M Q F)):Int) == 3 then bif decide ((0:Int)≤0∧(0:Int) < (↑(List.length (fvU c z s T Sh M Q F)):Int)) then bif U.int (nth (U.i 0) (U.list (nth (U.i 0) (fvU c z s T Sh M Q F) (Int.toNat 0))) (0:Nat)) == 1 && (U.int (nth (U.i 0) (List.tail (U.list (nth (U.i 0) (fvU c z s T Sh M Q F) (Int.toNat 0)))) (0:Nat)) == i.int && (U.int (nth (U.i 0) (List.tail (List.tail (U.list (nth (U.i 0) (fvU c z s T Sh M Q F) (Int.toNat 0))))) (0:Nat)) == (-1:Int) && true)) then bif decide ((0:Int)≤1∧(1:Int) < (↑(List.length (fvU c z s T Sh M Q F)):Int)) then bif U.int (nth (U.i 0) (U.list (nth (U.i 0) (fvU c z s T Sh M Q F) (Int.toNat 1))) (0:Nat)) == 3 && (U.int (nth (U.i 0) (List.tail (U.list (nth (U.i 0) (fvU c z s T Sh M Q F) (Int.toNat 1)))) (0:Nat)) == stI2 i && (U.int (nth (U.i 0) (List.tail (List.tail (U.list (nth (U.i 0) (fvU c z s T Sh M Q F) (Int.toNat 1))))) (0:Nat)) == 0 && true)) then bif decide ((0:Int)≤2∧(2:Int) < (↑(List.length (fvU c z s T Sh M Q F)):Int)) then bif U.int (nth (U.i 0) (U.list (nth (U.i 0) (fvU c z s T Sh M Q F) (Int.toNat 2))) (0:Nat)) == 3 && (U.int (nth (U.i 0) (List.tail (U.list (nth (U.i 0) (fvU c z s T Sh M Q F) (Int.toNat 2)))) (0:Nat)) == stI3 i && (U.int (nth (U.i 0) (List.tail (List.tail (U.list (nth (U.i 0) (fvU c z s T Sh M Q F) (Int.toNat 2))))) (0:Nat)) == 0 && true)) then k Ex.ret (St.mk [(4,.val .bool (U.b true))] []) else k Ex.ret (St.mk [(4,.val .bool (U.b false))] []) else False else k Ex.ret (St.mk [(4,.val .bool (U.b false))] []) else False else k Ex.ret (St.mk [(4,.val .bool (U.b false))] []) else False else k Ex.ret (St.mk [(4,.val .bool (U.b false))] [])):=by kernel_rfl
end Go.Mat

namespace Go.Mat
open Go Go.Den Go.Proofs
set_option maxRecDepth 100000
theorem rtT (f:Nat→Int):∀ n:Nat,n≤10→rtableR (tabT n f) 4096 1=true
 | 0,_=>by kernel_rfl
 | 1,_=>by kernel_rfl
 | 2,_=>by kernel_rfl
 | 3,_=>by kernel_rfl
 | 4,_=>by kernel_rfl
 | 5,_=>by kernel_rfl
 | 6,_=>by kernel_rfl
 | 7,_=>by kernel_rfl
 | 8,_=>by kernel_rfl
 | 9,_=>by kernel_rfl
 | 10,_=>by kernel_rfl
 | n + 11,h=>by omega
theorem setT (f:Nat→Int):∀ n:Nat,n < 10→setZ (tabT n f) n [.i 2,.i ((2 + 3 * n:Nat):Int),.i 2,.i 0,.i (f n)]=tabT (n + 1) f
 | 0,_=>by kernel_rfl
 | 1,_=>by kernel_rfl
 | 2,_=>by kernel_rfl
 | 3,_=>by kernel_rfl
 | 4,_=>by kernel_rfl
 | 5,_=>by kernel_rfl
 | 6,_=>by kernel_rfl
 | 7,_=>by kernel_rfl
 | 8,_=>by kernel_rfl
 | 9,_=>by kernel_rfl
 | n + 10,h=>by omega
theorem tabT_p (f:Nat→Int) {n:Nat} (hn:n≤10):tabP (tabT n f):=by
 have hl:(tabT n f).length≤2:=by unfold tabT;rw [List.length_map,List.length_range];omega
 refine ⟨by omega,fun j hj=>?_⟩
 have hm:U.at (tabT n f) j ∈ tabT n f:=by rw [at_get hj];exact List.getElem_mem hj
 obtain ⟨q,_,hq⟩:=List.mem_map.1 (show U.at (tabT n f) j ∈ (List.range ((n + 7) / 8)).map fun j=>rowT n j f from hm)
 rw [← hq]
 show (List.map _ (List.range 8)).length≤_
 rw [List.length_map,List.length_range]
 omega
theorem set_next (f:Nat→Int) {n:Nat} (hn:n < 10):setY (tabT n f) (n:Int) (.i 2) (.i ((2 + 3 * n:Nat):Int)) (.i 2) (.i 0) (.i (f n))=tabT (n + 1) f:=by
 rw [setY_in (a:=.i 2) (b:=.i ((2 + 3 * n:Nat):Int)) (d:=.i 2) (e:=.i 0) (g:=.i (f n)) (c:=1) (by omega) (by omega) (by decide) (by decide) (rtT f n (by omega)) (may_raw (c:=1) (by decide) (by decide) (by show (2:Int)≤((2 + 3 * n:Nat):Int);omega) (by show ((2 + 3 * n:Nat):Int)≤1000;omega)) (by decide),Int.toNat_natCast]
 exact setT f n hn
def lnT (f:Nat→Int) (q:Nat):U:=.l [.i (-1),.i (q:Int),.i 2,.i ((2 + 3 * q:Nat):Int),.i 2,.i 0,.i (f q)]
theorem lnsT (f:Nat→Int):linesOf (.i (-1)) (tabT 10 f) ++ shotLines 0 []=(List.range 10).map (lnT f):=by kernel_rfl
theorem metaT (f:Nat→Int):metaR (.i 1) (.i 20) (.s (ByteArray.mk #[])) (.l (tabT 10 f)) (.l []) (.l []) (.l [])=true:=by kernel_rfl
theorem raw_wrong {F:List U} {x k s:Int} {c:Nat} (hc:c≤6) (hk:k=2 ^ c) (h2:2≤x) (h3:x≤1000) (hF:16 * (x + k)≤F.length) (hs:sumAt F x k≠s):(cbX 2 x k 0 s c F).1≠0:=by
 unfold cbX
 rw [may_raw hc hk h2 h3,cond_true,decide_eq_false (by omega)]
 show (cbFin ((F.take ((x + k) * 16).toNat).drop (x * 16).toNat) s c).1≠0
 unfold cbFin
 have e:(sumI 0 ((F.take ((x + k) * 16).toNat).drop (x * 16).toNat) == s)=false:=beq_eq_false_iff_ne.2 hs
 rw [e]
 intro h
 revert h
 cases ((((F.take ((x + k) * 16).toNat).drop (x * 16).toNat).length:Int) == _)<;>simp
theorem slice_off {F:List U} {j m n:Nat} {v:U} (h:j < m∨n≤j):((F.set j v).take n).drop m=(F.take n).drop m:=by
 rw [List.take_set,List.drop_set]
 rcases h with h | h
 ·rw [if_pos h]
 ·split
  ·rfl
  ·rw [List.set_eq_of_length_le (by rw [List.length_drop,List.length_take];omega)]
theorem slice_on {F:List U} {j m n:Nat} {v:U} (h:m≤j):((F.set j v).take n).drop m=((F.take n).drop m).set (j - m) v:=by
 rw [List.take_set,List.drop_set,if_neg (by omega)]
section
variable {F:List U} {k r:Nat} {y:Int}
theorem wrong_off (hF:F.length=640):∀ l,l ∈ (List.range 10).map (lnT (fS F))→wrongB F 1 l=(fun _=>false) l:=by
 intro l hl
 obtain ⟨q,hq,rfl⟩:=List.mem_map.1 hl
 have hq:=List.mem_range.1 hq
 show ((cbX 2 ((2 + 3 * q:Nat):Int) 2 0 (fS F q) 1 F).1 != 0)=false
 have:=raw_right (F:=F) (x:=((2 + 3 * q:Nat):Int)) (k:=2) (s:=fS F q) (c:=1) (by decide) (by decide) (by omega) (by omega) (by omega) rfl
 rw [show ((1:Nat):Int)=1 from rfl] at this
 rw [this];rfl
theorem wrong_on (hF:F.length=640) (hk:k < 10) (hr:r < 32) (hy:0≤y∧y≤255) (hx:0≤(U.at F (16 * (2 + 3 * k) + r)).int∧(U.at F (16 * (2 + 3 * k) + r)).int≤255) (hn:y≠(U.at F (16 * (2 + 3 * k) + r)).int) :
  ∀ l,l ∈ (List.range 10).map (lnT (fS F))→wrongB (F.set (16 * (2 + 3 * k) + r) (.i y)) 1 l=(fun l=>(lnU l 1).int == (k:Int)) l:=by
 intro l hl
 obtain ⟨q,hq,rfl⟩:=List.mem_map.1 hl
 have hq:=List.mem_range.1 hq
 have hl2:(F.set (16 * (2 + 3 * k) + r) (.i y)).length=640:=by rw [List.length_set];exact hF
 show ((cbX 2 ((2 + 3 * q:Nat):Int) 2 0 (fS F q) 1 (F.set (16 * (2 + 3 * k) + r) (.i y))).1 != 0)=((q:Int) == (k:Int))
 have e1:(((2 + 3 * q:Nat):Int) + 2) * 16=((16 * (2 + 3 * q) + 32:Nat):Int):=by omega
 have e2:((2 + 3 * q:Nat):Int) * 16=((16 * (2 + 3 * q):Nat):Int):=by omega
 by_cases e:q=k
 ·subst e
  have:=raw_wrong (F:=F.set (16 * (2 + 3 * q) + r) (.i y)) (x:=((2 + 3 * q:Nat):Int)) (k:=2) (s:=fS F q) (c:=1) (by decide) (by decide) (by omega) (by omega) (by omega) (by
   unfold fS sumAt
   rw [e1,e2,Int.toNat_natCast,Int.toNat_natCast,slice_on (by omega)]
   have ha:U.at ((F.take (16 * (2 + 3 * q) + 32)).drop (16 * (2 + 3 * q))) (16 * (2 + 3 * q) + r - 16 * (2 + 3 * q))=U.at F (16 * (2 + 3 * q) + r):=by
    show nth (U.i 0) (List.drop _ _) _=_
    rw [nth_drop,show 16 * (2 + 3 * q) + (16 * (2 + 3 * q) + r - 16 * (2 + 3 * q))=16 * (2 + 3 * q) + r by omega]
    exact at_take (by omega)
   exact sum_set (by rw [List.length_drop,List.length_take];omega) hy (by rw [ha];exact hx) (by rw [ha];exact hn))
  rw [show ((1:Nat):Int)=1 from rfl] at this
  rw [beq_self_eq_true]
  simpa using this
 ·have:=raw_right (F:=F.set (16 * (2 + 3 * k) + r) (.i y)) (x:=((2 + 3 * q:Nat):Int)) (k:=2) (s:=fS F q) (c:=1) (by decide) (by decide) (by omega) (by omega) (by omega) (by
   unfold fS sumAt
   rw [e1,e2,Int.toNat_natCast,Int.toNat_natCast,slice_off (by omega)])
  rw [show ((1:Nat):Int)=1 from rfl] at this
  rw [this]
  have:((q:Int) == (k:Int))=false:=by rw [beq_eq_false_iff_ne];omega
  rw [this];rfl
theorem bad_of {wr:U→Bool} {G:List U} {M Q:U} (hG:whU (.l G)=G) (f:Nat→Int) (h:∀ l,l ∈ (List.range 10).map (lnT f)→wrongB G 1 l=wr l) :
  bdU (.i 1) (.i 20) (.s (ByteArray.mk #[])) (.l (tabT 10 f)) (.l []) M Q (.l G)=(badG wr ((List.range 10).map (lnT f))).1:=by
 unfold bdU
 rw [hG]
 have e:linesX [[.i 1,.i 20,.s (ByteArray.mk #[]),.l (tabT 10 f),.l [],M,Q],[U.l G]]=(List.range 10).map (lnT f):=lnsT f
 rw [e]
 show (badL G 1 _).1=_
 rw [badL_G h]
theorem none_bad (f:Nat→Int):(badG (fun _=>false) ((List.range 10).map (lnT f))).1=[]:=by kernel_rfl
theorem one_bad (f:Nat→Int):∀ k:Nat,k < 10→(badG (fun l=>(lnU l 1).int == (k:Int)) ((List.range 10).map (lnT f))).1=[.l [.i (-1),.i (k:Int)]]
 | 0,_=>by kernel_rfl
 | 1,_=>by kernel_rfl
 | 2,_=>by kernel_rfl
 | 3,_=>by kernel_rfl
 | 4,_=>by kernel_rfl
 | 5,_=>by kernel_rfl
 | 6,_=>by kernel_rfl
 | 7,_=>by kernel_rfl
 | 8,_=>by kernel_rfl
 | 9,_=>by kernel_rfl
 | n + 10,h=>by omega
theorem cnt_bad (f:Nat→Int):∀ k:Nat,k < 10→flCnts 40 (ofV ((List.range 10).map (lnT f)) 40) 0 (ofV (linesOf (.i (-1)) (setX (tabT 10 f) (k:Int) (.i 1) (.i 0) (.i 0) (.i 0) (.i 0)) ++ shotLines 0 []) 40)=[.l [.i 3,.i ((2 + 3 * k:Nat):Int),.i 0],.l [.i 3,.i ((3 + 3 * k:Nat):Int),.i 0]]
 | 0,_=>by kernel_rfl
 | 1,_=>by kernel_rfl
 | 2,_=>by kernel_rfl
 | 3,_=>by kernel_rfl
 | 4,_=>by kernel_rfl
 | 5,_=>by kernel_rfl
 | 6,_=>by kernel_rfl
 | 7,_=>by kernel_rfl
 | 8,_=>by kernel_rfl
 | 9,_=>by kernel_rfl
 | n + 10,h=>by omega
theorem whole640 {G:List U} (h:G.length=640):whU (.l G)=G∧szU (.l G)=40:=⟨whU_all (by rw [h]) (by rw [h];decide),(szU_all (by rw [h]) (by rw [h];decide)).trans (by rw [h];rfl)⟩
theorem mended_ten (hF:F.length=640):mT (.i 1) (.i 20) (.s (ByteArray.mk #[])) (.l (tabT 10 (fS F))) (.l []) (.l []) (.l []) (.l F) = .l (tabT 10 (fS F))∧mS (.i 1) (.i 20) (.s (ByteArray.mk #[])) (.l (tabT 10 (fS F))) (.l []) (.l []) (.l []) (.l F) = .l []∧
  mQ (.i 1) (.i 20) (.s (ByteArray.mk #[])) (.l (tabT 10 (fS F))) (.l []) (.l []) (.l []) (.l F) = .l (ofV ((List.range 10).map (lnT (fS F))) 40):=by
 have hb:=(bad_of (M:=.l []) (Q:=.l []) (whole640 hF).1 (fS F) (wrong_off hF)).trans (none_bad _)
 have hw:woU (.i 1) (.i 20) (.s (ByteArray.mk #[])) (.l (tabT 10 (fS F))) (.l []) (.l []) (.l []) (.l F)=(tabT 10 (fS F),[]):=by unfold woU;rw [hb];rfl
 refine ⟨congrArg (fun x=>U.l x.1) hw,congrArg (fun x=>U.l (x.2.map cutSh)) hw,?_⟩
 have ho:okM (.i 1) (.i 20) (.s (ByteArray.mk #[])) (.l (tabT 10 (fS F))) (.l []) (.l []) (.l []) (.l F)=(List.range 10).map (lnT (fS F)):=by
  unfold okM
  rw [hw]
  exact lnsT _
 show U.l (ofV (okM _ _ _ _ _ _ _ _) (szU (.l F)).toNat)=_
 rw [ho,(whole640 hF).2]
 rfl
theorem turned_fa (hF:F.length=640) (hk:k < 10) (hr:r < 32) (hy:0≤y∧y≤255) (hx:0≤(U.at F (16 * (2 + 3 * k) + r)).int∧(U.at F (16 * (2 + 3 * k) + r)).int≤255) (hn:y≠(U.at F (16 * (2 + 3 * k) + r)).int) (M:U) :
  faV (.i 1) (.i 20) (.s (ByteArray.mk #[])) (.l (tabT 10 (fS F))) (.l []) M (.l (ofV ((List.range 10).map (lnT (fS F))) 40)) (.l (F.set (16 * (2 + 3 * k) + r) (.i y)))=[.l [.i 1,.i (k:Int),.i (-1)],.l [.i 3,.i ((2 + 3 * k:Nat):Int),.i 0],.l [.i 3,.i ((3 + 3 * k:Nat):Int),.i 0]]:=by
 have hl2:(F.set (16 * (2 + 3 * k) + r) (.i y)).length=640:=by rw [List.length_set];exact hF
 have hb:=fun Q=>(bad_of (M:=M) (Q:=Q) (whole640 hl2).1 (fS F) (wrong_on hF hk hr hy hx hn)).trans (one_bad _ k hk)
 have hw:∀ Q,woU (.i 1) (.i 20) (.s (ByteArray.mk #[])) (.l (tabT 10 (fS F))) (.l []) M Q (.l (F.set (16 * (2 + 3 * k) + r) (.i y)))=(setX (tabT 10 (fS F)) (k:Int) (.i 1) (.i 0) (.i 0) (.i 0) (.i 0),[]):=fun Q=>by unfold woU;rw [hb];rfl
 have hq:(ofV ((List.range 10).map (lnT (fS F))) 40).length=40:=ofV_len _ _
 unfold faV okM
 rw [hb,hw,nU_mended (.l (ofV ((List.range 10).map (lnT (fS F))) 40)) (by rw [(whole640 hl2).2];exact hq),(whole640 hl2).2]
 have:=cnt_bad (fS F) k hk
 show [flBad (.l [.i (-1),.i (k:Int)])] ++ flCnts 40 (ofV ((List.range 10).map (lnT (fS F))) 40) 0 (ofV (linesOf (.i (-1)) (setX (tabT 10 (fS F)) (k:Int) (.i 1) (.i 0) (.i 0) (.i 0) (.i 0)) ++ shotLines 0 []) 40)=_
 rw [this]
 rfl
end
end Go.Mat

namespace Go.Mat
open Go Go.Den Go.Proofs
set_option maxRecDepth 100000
def tuS (k:Int):Int:=IntKind.i64.wrap (2 + IntKind.i64.wrap (3 * k))
def tuR (p:Int):Int:=(IntKind.i64.wrap (IntKind.u8.wrap (p.tdiv 10))).tmod 32
def tuJ (p k:Int):Int:=IntKind.i64.wrap (IntKind.i64.wrap (16 * tuS k) + tuR p)
def tuY (x q:Int):Int:=IntKind.u8.wrap ((BitVec.ofInt 8 x ^^^ BitVec.ofInt 8 (IntKind.u8.wrap (1 + q.tmod 255))).toNat:Int)
theorem uBs:PR.underlying 25=some (.slice 5):=by kernel_rfl
theorem sBs:sizeT PR 5=some 1:=by kernel_rfl
theorem uUs:PR.underlying 5=some (.int .u8):=by kernel_rfl
theorem uIs:PR.underlying 3=some (.int .i64):=by kernel_rfl
theorem execOp_conv {o:Oper} {x:Operand} {a:Act} {w:World} {u:Int} (ho:o.op = .convert 5 3 x) (hx:a.eval x = .int .u8 u):(execOp a.eval o).run PR w = .ok (.value (.int .i64 (IntKind.i64.wrap u))) w:=by
 simp [execOp,ho,hx,convert,run_underlying uUs,run_underlying uIs,Conv.intToInt]
theorem tu_is:RegIs (piece tuB [1,1,1,1,1,1,1,0]) [(some 56,.move (.tmp 5)),(some 57,.move (.tmp 11)),(some 58,.binOp .mul 3 (.const (.int .i64 3)) (.tmp 57) 3),(some 59,.binOp .add 3 (.const (.int .i64 2)) (.tmp 58) 3),(some 60,.binOp .mul 3 (.const (.int .i64 16)) (.tmp 59) 3),(some 61,.move (.tmp 0)),(some 62,.binOp .quo 5 (.tmp 61) (.const (.int .u8 10)) 5),(some 63,.convert 5 3 (.tmp 62)),(some 64,.binOp .rem 3 (.tmp 63) (.const (.int .i64 32)) 3),(some 65,.binOp .add 3 (.tmp 60) (.tmp 64) 3),(some 66,.indexAddr 25 (.tmp 56) (.tmp 65)),(some 67,.load 5 (.tmp 66)),(some 68,.move (.tmp 1)),(some 69,.binOp .rem 5 (.tmp 68) (.const (.int .u8 255)) 5),(some 70,.binOp .add 5 (.const (.int .u8 1)) (.tmp 69) 5),(some 71,.binOp .xor 5 (.tmp 67) (.tmp 70) 5),(some 72,.indexAddr 25 (.tmp 56) (.tmp 65)),(none,.store 5 (.tmp 72) (.tmp 71))]:=⟨regId (piece tuB [1,1,1,1,1,1,1,0]),regOps (piece tuB [1,1,1,1,1,1,1,0]),by kernel_rfl,by kernel_rfl,by kernel_rfl⟩
theorem tu_bite {a:Act} {w w':World} {Q:Exit→Act→World→Prop} {p q k x:Int} {b o1 l cp:Nat} (hs:a.tmps.size=110) (e0:a.eval (.tmp 0) = .int .u8 p) (e1:a.eval (.tmp 1) = .int .u8 q) (e5:a.eval (.tmp 5) = .slice (some ⟨b,o1,none⟩) l cp) (e11:a.eval (.tmp 11) = .int .i64 k)
  (hj0:0≤tuJ p k) (hj1:tuJ p k < l) (hc:w.cell? ⟨b,o1 + (tuJ p k).toNat * 1,none⟩=some (.int .u8 x)) (hst:(storeVar 5 ⟨b,o1 + (tuJ p k).toNat * 1,none⟩ (.int .u8 (tuY x q))).run PR w = .ok () w')
  (hQ:∀ a',a'.tmps.size=110→a'.defers=a.defers→(∀ t,t < 12→a'.eval (.tmp t)=a.eval (.tmp t))→Q .normal a' w'):(piece tuB [1,1,1,1,1,1,1,0]).wp PR Q a w:=by
 refine wp_regIs tu_is ?_
 simp only [wpL]
 intro o hd ho
 refine op_move ho ?_
 rw [hd]
 clear hd ho o
 intro o hd ho
 refine op_move ho ?_
 rw [hd]
 clear hd ho o
 intro o hd ho
 refine bin_int (C:=KW) (i:=.i64) (j:=.i64) (m:=3) (n:=k) (v:=.int .i64 (IntKind.i64.wrap (3 * k))) ho (by simp [ev_put,ev_const,size_put,hs,e0,e1,e5,e11]) (by simp [ev_put,ev_const,size_put,hs,e0,e1,e5,e11]) (by simp [binOp,Op.intArith]) ?_
 rw [hd]
 clear hd ho o
 intro o hd ho
 refine bin_int (C:=KW) (i:=.i64) (j:=.i64) (m:=2) (n:=IntKind.i64.wrap (3 * k)) (v:=.int .i64 (tuS k)) ho (by simp [ev_put,ev_const,size_put,hs,e0,e1,e5,e11]) (by simp [ev_put,ev_const,size_put,hs,e0,e1,e5,e11]) (by simp [binOp,Op.intArith,tuS]) ?_
 rw [hd]
 clear hd ho o
 intro o hd ho
 refine bin_int (C:=KW) (i:=.i64) (j:=.i64) (m:=16) (n:=tuS k) (v:=.int .i64 (IntKind.i64.wrap (16 * tuS k))) ho (by simp [ev_put,ev_const,size_put,hs,e0,e1,e5,e11]) (by simp [ev_put,ev_const,size_put,hs,e0,e1,e5,e11]) (by simp [binOp,Op.intArith]) ?_
 rw [hd]
 clear hd ho o
 intro o hd ho
 refine op_move ho ?_
 rw [hd]
 clear hd ho o
 intro o hd ho
 refine bin_int (C:=KW) (i:=.u8) (j:=.u8) (m:=p) (n:=10) (v:=.int .u8 (IntKind.u8.wrap (p.tdiv 10))) ho (by simp [ev_put,ev_const,size_put,hs,e0,e1,e5,e11]) (by simp [ev_put,ev_const,size_put,hs,e0,e1,e5,e11]) (by simp [binOp,Op.intDiv]) ?_
 rw [hd]
 clear hd ho o
 intro o hd ho
 refine wp_value (v:=.int .i64 (IntKind.i64.wrap (IntKind.u8.wrap (p.tdiv 10)))) (w':=w) (execOp_conv (u:=IntKind.u8.wrap (p.tdiv 10)) ho (by simp [ev_put,ev_const,size_put,hs,e0,e1,e5,e11])) ?_
 rw [hd]
 clear hd ho o
 intro o hd ho
 refine bin_int (C:=KW) (i:=.i64) (j:=.i64) (m:=IntKind.i64.wrap (IntKind.u8.wrap (p.tdiv 10))) (n:=32) (v:=.int .i64 (tuR p)) ho (by simp [ev_put,ev_const,size_put,hs,e0,e1,e5,e11]) (by simp [ev_put,ev_const,size_put,hs,e0,e1,e5,e11]) (by simp [binOp,Op.intDiv,tuR]) ?_
 rw [hd]
 clear hd ho o
 intro o hd ho
 refine bin_int (C:=KW) (i:=.i64) (j:=.i64) (m:=IntKind.i64.wrap (16 * tuS k)) (n:=tuR p) (v:=.int .i64 (tuJ p k)) ho (by simp [ev_put,ev_const,size_put,hs,e0,e1,e5,e11]) (by simp [ev_put,ev_const,size_put,hs,e0,e1,e5,e11]) (by simp [binOp,Op.intArith,tuJ]) ?_
 rw [hd]
 clear hd ho o
 intro o hd ho
 refine op_indexAddr (kd:=.i64) (b:=b) (len:=l) (off:=o1) (c:=cp) (j:=tuJ p k) ho uBs sBs (by simp [ev_put,ev_const,size_put,hs,e0,e1,e5,e11]) (by simp [ev_put,ev_const,size_put,hs,e0,e1,e5,e11]) hj0 hj1 ?_
 rw [hd]
 clear hd ho o
 intro o hd ho
 refine op_load (p:=⟨b,o1 + (tuJ p k).toNat * 1,none⟩) ho (by simp [ev_put,ev_const,size_put,hs,e0,e1,e5,e11]) (run_loadVar_one uUs rfl hc) ?_
 rw [hd]
 clear hd ho o
 intro o hd ho
 refine op_move ho ?_
 rw [hd]
 clear hd ho o
 intro o hd ho
 refine bin_int (C:=KW) (i:=.u8) (j:=.u8) (m:=q) (n:=255) (v:=.int .u8 (q.tmod 255)) ho (by simp [ev_put,ev_const,size_put,hs,e0,e1,e5,e11]) (by simp [ev_put,ev_const,size_put,hs,e0,e1,e5,e11]) (by simp [binOp,Op.intDiv]) ?_
 rw [hd]
 clear hd ho o
 intro o hd ho
 refine bin_int (C:=KW) (i:=.u8) (j:=.u8) (m:=1) (n:=q.tmod 255) (v:=.int .u8 (IntKind.u8.wrap (1 + q.tmod 255))) ho (by simp [ev_put,ev_const,size_put,hs,e0,e1,e5,e11]) (by simp [ev_put,ev_const,size_put,hs,e0,e1,e5,e11]) (by simp [binOp,Op.intArith]) ?_
 rw [hd]
 clear hd ho o
 intro o hd ho
 refine bin_int (C:=KW) (i:=.u8) (j:=.u8) (m:=x) (n:=IntKind.u8.wrap (1 + q.tmod 255)) (v:=.int .u8 (tuY x q)) ho (by simp [ev_put,ev_const,size_put,hs,e0,e1,e5,e11]) (by simp [ev_put,ev_const,size_put,hs,e0,e1,e5,e11]) (rfl) ?_
 rw [hd]
 clear hd ho o
 intro o hd ho
 refine op_indexAddr (kd:=.i64) (b:=b) (len:=l) (off:=o1) (c:=cp) (j:=tuJ p k) ho uBs sBs (by simp [ev_put,ev_const,size_put,hs,e0,e1,e5,e11]) (by simp [ev_put,ev_const,size_put,hs,e0,e1,e5,e11]) hj0 hj1 ?_
 rw [hd]
 clear hd ho o
 intro o hd ho
 refine op_store (C:=KW) (p:=⟨b,o1 + (tuJ p k).toNat * 1,none⟩) (w':=w') ho (by simp [ev_put,ev_const,size_put,hs,e0,e1,e5,e11]) (by rw [show Act.eval _ (.tmp 71) = .int .u8 (tuY x q) from (by simp [ev_put,ev_const,size_put,hs,e0,e1,e5,e11])];exact hst) ?_
 rw [hd,put_none]
 clear hd ho o
 refine hQ _ (by simp [size_put,hs]) (by simp [defers_put]) fun t ht=>?_
 simp (disch:=first | decide | exact Nat.ne_of_gt (Nat.lt_of_lt_of_le (m:=12) ht (by decide))) only [ev_skip]
theorem tu_nums {p q k:Int} (hp:0≤p∧p≤255) (hk:0≤k∧k < 10):tuJ p k=((16 * (2 + 3 * k.toNat) + (tuR p).toNat:Nat):Int)∧0≤tuR p∧tuR p < 32:=by
 have h1:tuS k=2 + 3 * k:=by unfold tuS;rw [i64_in (x:=3 * k) (by omega) (by omega)];exact i64_in (by omega) (by omega)
 have h2:0≤tuR p∧tuR p < 32:=by
  unfold tuR
  have:0≤IntKind.u8.wrap (p.tdiv 10)∧IntKind.u8.wrap (p.tdiv 10)≤255:=by
   simp only [IntKind.wrap,IntKind.bits,IntKind.signed]
   simp
   omega
  rw [i64_in (by omega) (by omega),Int.tmod_eq_emod_of_nonneg this.1]
  omega
 refine ⟨?_,h2⟩
 unfold tuJ
 rw [h1,i64_in (x:=16 * (2 + 3 * k)) (by omega) (by omega),i64_in (by omega) (by omega)]
 omega
theorem u8_bv (c:BitVec 8):IntKind.wrap .u8 (c.toNat:Int)=(c.toNat:Int):=by
 have:=c.isLt
 simp only [IntKind.wrap,IntKind.bits,IntKind.signed]
 simp
 omega
theorem bv8_of {h:Int} (h0:0≤h) (h1:h < 256):((BitVec.ofInt 8 h).toNat:Int)=h:=by
 rw [BitVec.toNat_ofInt]
 have:h % ((2 ^ 8:Nat):Int)=h:=Int.emod_eq_of_lt h0 (by simpa using h1)
 rw [this]
 omega
theorem tuY_in {x q:Int} (hx:0≤x∧x≤255) (hq:0≤q∧q≤255):(0≤tuY x q∧tuY x q≤255)∧tuY x q≠x:=by
 have hm:IntKind.u8.wrap (1 + q.tmod 255)=1 + q.tmod 255∧0≤q.tmod 255∧q.tmod 255 < 255:=by
  rw [Int.tmod_eq_emod_of_nonneg hq.1]
  refine ⟨?_,by omega,by omega⟩
  simp only [IntKind.wrap,IntKind.bits,IntKind.signed]
  simp
  omega
 unfold tuY
 rw [u8_bv,hm.1]
 have hlt:=(BitVec.ofInt 8 x ^^^ BitVec.ofInt 8 (1 + q.tmod 255)).isLt
 refine ⟨by omega,fun e=>?_⟩
 have e2:(BitVec.ofInt 8 x ^^^ BitVec.ofInt 8 (1 + q.tmod 255))=BitVec.ofInt 8 x:=BitVec.eq_of_toNat_eq (by have:=bv8_of hx.1 (by omega:x < 256);omega)
 have e3:BitVec.ofInt 8 x ^^^ (BitVec.ofInt 8 x ^^^ BitVec.ofInt 8 (1 + q.tmod 255))=BitVec.ofInt 8 x ^^^ BitVec.ofInt 8 x:=by rw [e2]
 rw [← BitVec.xor_assoc,BitVec.xor_self,BitVec.zero_xor] at e3
 have:=bv8_of (h:=1 + q.tmod 255) (by omega) (by omega)
 rw [e3] at this
 have z:((0#8).toNat:Int)=0:=rfl
 rw [z] at this
 omega
theorem tu_loop:LoopOk tuC 0 (loopBody Try.f8 0):=by
 refine loopOk_of (F:=tuLoop) (ts:=[7,5,0,1,6]) (os:=[768]) rfl (fun svs _=>match svs with | .val _ i :: _=>(10 - i.int).toNat | _=>0) ?_
 intro pan svs os k ho1 ho2 h
 unfold tuLoop at h
 split at h
 ·rename_i i F a b p q c z s x1 T x3 Sh x2 M Q
  obtain ⟨⟨⟨rfl,rfl,rfl,rfl,rfl⟩,hii,h0,h10,hF,rfl⟩,hk⟩:=h
  refine .eq (tu_round pan _ _ k i F a b c z s _ Sh M Q) ?_
  obtain ⟨n,hn⟩:∃ n:Nat,i.int=(n:Int):=⟨i.int.toNat,by omega⟩
  have hi:i = .i (n:Int):=by rw [hii,hn]
  subst hi
  clear hii hn
  have h10:(n:Int)≤10:=h10
  have w1:stI2 (.i (n:Int))=((2 + 3 * n:Nat):Int):=by
   unfold stI2
   rw [U.int_i,i64_in (x:=3 * (n:Int)) (by omega) (by omega),i64_in (by omega) (by omega)]
   omega
  have w2:loI (.i (n:Int))=((16 * (2 + 3 * n):Nat):Int):=by unfold loI;rw [w1,i64_in (by omega) (by omega)];omega
  have w3:hiI (.i (n:Int))=((16 * (2 + 3 * n) + 32:Nat):Int):=by unfold hiI;rw [w2,i64_in (by omega) (by omega)];omega
  have w4:smI (.i (n:Int)) F=fS F.list n:=by
   unfold smI fS sumAt
   rw [w2,w3]
   congr 3<;>omega
  rw [w1,w2,w3,w4]
  refine bd (fun hlt=>?_) (fun hlt=>?_)
  ·have hlt:(n:Int) < 10:=hlt
   have hw:IntKind.wrap .i64 ((U.i (n:Int)).int + 1)=((n + 1:Nat):Int):=by rw [U.int_i,i64_in (by omega) (by omega)];omega
   have hsn:=set_next (fS F.list) (n:=n) (by omega)
   refine bt (by rw [decide_eq_true ⟨by omega,by omega,by omega,by omega⟩];rfl) ?_
   simp only [Alt_self]
   rw [hw]
   have hsn2:setY (U.list (.l (tabT (U.i (n:Int)).int.toNat (fS F.list)))) (U.i (n:Int)).int (.i 2) (.i ((2 + 3 * n:Nat):Int)) (.i 2) (.i 0) (.i (fS F.list n))=tabT (n + 1) (fS F.list):=by rw [U.list_l,U.int_i,Int.toNat_natCast];exact hsn
   rw [hsn2]
   refine ⟨by rw [U.int_i,Int.toNat_natCast];exact tabT_p _ (by omega),blt (by simp only [U.int_i];omega) ⟨⟨⟨by trivial,by trivial,by trivial,by trivial,by trivial⟩,by trivial,by omega,by omega,hF,by rw [Int.toNat_natCast]⟩,hk⟩⟩
  ·have hn:n=10:=by have hlt:¬ (n:Int) < 10:=hlt;omega
   subst hn
   exact hk
 ·exact h.elim
theorem tuC_ok:tuC.Ok:=(mkC_ok eqsF_ok mixed_ok (.cons aw_ok (.cons numA_ok (.cons rsum_ok (.consP rset_ok (.consP file_ok (.consP fa_ok .nil)))))) (.cons mdT_ok .nil)).panics _
end Go.Mat

namespace Go.Mat
open Go Go.Den Go.Proofs
set_option maxRecDepth 100000
abbrev noS:U:=.s (ByteArray.mk #[])
theorem tu_walk {w:World} {a:Act} {Z:Nat→Prop} {Q:Exit→Act→World→Prop} {x y:U} (hx:0≤x.int∧x.int≤255) (hy:0≤y.int∧y.int≤255)
  (Sm:Sim PR (Th0 w Z) 110 ⟨[(0,.val (.int .u8) x),(1,.val (.int .u8) y)],[]⟩ a w Z (fun _=>.pointer none)) (hpan:∀ c a w d v,Q (.panic c) (a.put d v) w→Q (.panic c) a w)
  (hend:∀ a' w',a'.defers=[]→a'.tmps.getD 4 undef = .bool true→Fut (fun _=>False) w w'→Q .ret a' w'):tuB.wp PR Q a w:=by
 obtain ⟨k,hk,hkk⟩:∃ k:Nat,k < 10∧Int.tmod (IntKind.wrap .i64 x.int) 10=(k:Int):=⟨(x.int % 10).toNat,by omega,by rw [i64_in (x:=x.int) (by omega) (by omega),Int.tmod_eq_emod_of_nonneg hx.1];omega⟩
 have hP:∀ Θ,Pans tuC Θ 110 Q:=fun _ _ _ _ _ _ _ _ h _ _=>h.elim
 have S0:Sim PR (Th0 w fun _=>False) 110 ⟨[(0,.val (.int .u8) x),(1,.val (.int .u8) y)],[]⟩ a w (fun _=>False) (fun _=>.pointer none):=by
  have:=Sim.begin (P:=PR) (n:=110) (env:=[(0,.val (.int .u8) x),(1,.val (.int .u8) y)]) (a:=a) (w:=w) (Z:=fun _=>False) (G:=fun _=>.pointer none) Sm.size (slots_of fun p hp=>by
   have hp:p=(0,.val (.int .u8) x)∨p=(1,.val (.int .u8) y):=by simpa using hp
   rcases hp with rfl | rfl
   ·exact Sm.slot 0
   ·exact Sm.slot 1) (fun _ h=>h.elim) (fun _=>rfl)
  rw [Sm.calm] at this
  exact this
 clear Sm
 have hA:Holds (exec tuC (takeC 2 tuB) 0 ⟨[(0,.val (.int .u8) x),(1,.val (.int .u8) y)],[]⟩ (seenS [0,1,5,6] [768,8486920,8486922,8486924,8486926] fun e σ=>e = .normal∧σ =
   ⟨[(0,.val (.int .u8) x),(1,.val (.int .u8) y),(5,vf (.l lawF)),(6,.ptr 768 0)],[(768,.box [vi (.i 1),vi (.i 20),vs noS,.own 8486920,.own 8486922,.own 8486924,.own 8486926]),(8486920,.arr 64 []),(8486922,.arr 73 []),(8486924,.arr 77 []),(8486926,.arr 3 [])]⟩)):=
  .eq (tu_A _ x y) ⟨show (40:Int)≤1000 by decide,by trivial,rfl⟩
 refine piece_on tuC_ok rfl rfl (fun _ h=>h) (rest:=dropC 3 tuB) (hP _) hpan (by kernel_rfl) (by kernel_rfl) (by kernel_rfl) (noloops (by kernel_rfl)) S0 hA fun a1 w1 Z1 G1 S1=>?_
 clear hA S0
 have hF:=lawF_len
 generalize lawF=F at S1 hF
 obtain ⟨Z2,S2⟩:=S1.iced (id:=8486920) (e:=64) (xs:=[]) (m:=false) (cs:=[.sl true EC]) (by kernel_rfl) (by kernel_rfl)
 obtain ⟨Z3,S3⟩:=S2.iced (id:=8486922) (e:=73) (xs:=[]) (m:=true) (cs:=SC) (by kernel_rfl) (by kernel_rfl)
 obtain ⟨Z4,S4⟩:=S3.iced (id:=8486924) (e:=77) (xs:=[]) (m:=true) (cs:=BC) (by kernel_rfl) (by kernel_rfl)
 obtain ⟨Z5,S5⟩:=S4.iced (id:=8486926) (e:=3) (xs:=[]) (m:=false) (cs:=[.int .i64]) (by kernel_rfl) (by kernel_rfl)
 have e5:((((St.mk [(0,.val (.int .u8) x),(1,.val (.int .u8) y),(5,vf (.l F)),(6,.ptr 768 0)] [(768,.box [vi (.i 1),vi (.i 20),vs noS,.own 8486920,.own 8486922,.own 8486924,.own 8486926]),(8486920,.arr 64 []),(8486922,.arr 73 []),(8486924,.arr 77 []),(8486926,.arr 3 [])]).freeze
   8486920 (.val (.sl false [.sl true EC]) (.l []))).freeze 8486922 (.val (.sl true SC) (.l []))).freeze 8486924 (.val (.sl true BC) (.l []))).freeze 8486926 (.val (.sl false [.int .i64]) (.l [])) =
   ⟨[(0,.val (.int .u8) x),(1,.val (.int .u8) y),(5,vf (.l F)),(6,.ptr 768 0)],[(768,mBox (.i 1) (.i 20) noS (.l []) (.l []) (.l []) (.l []))]⟩:=by kernel_rfl
 rw [e5] at S5
 clear S1 S2 S3 S4 e5
 have hL:Holds (exec tuC (takeC 0 (dropC 3 tuB)) 0 ⟨[(0,.val (.int .u8) x),(1,.val (.int .u8) y),(5,vf (.l F)),(6,.ptr 768 0)],[(768,mBox (.i 1) (.i 20) noS (.l []) (.l []) (.l []) (.l []))]⟩ (seenS [0,1,5,6] [768] fun e σ=>e = .normal∧σ =
   ⟨[(0,.val (.int .u8) x),(1,.val (.int .u8) y),(5,vf (.l F)),(6,.ptr 768 0)],[(768,mBox (.i 1) (.i 20) noS (.l (tabT 10 (fS F))) (.l []) (.l []) (.l []))]⟩)):=
  .eq (tu_L _ x y (.l F) (.i 1) (.i 20) noS (.l []) (.l []) (.l []) (.l [])) ⟨⟨⟨by trivial,by trivial,by trivial,by trivial,by trivial⟩,by trivial,by decide,by decide,hF,by kernel_rfl⟩,by trivial,rfl⟩
 refine piece_on tuC_ok rfl rfl (fun _ h=>h) (rest:=dropC 4 tuB) (hP _) hpan (by kernel_rfl) (by kernel_rfl) (by kernel_rfl) (loops_one (by kernel_rfl) tu_loop) S5 hL fun a6 w6 Z6 G6 S6=>?_
 clear hL S5
 have hM:metaR (.i 1) (.i 20) noS (.l (tabT 10 (fS F))) (.l []) (.l []) (.l [])=true:=metaT (fS F)
 have hTl:(tabT 10 (fS F)).length≤1099511627776:=Nat.le_trans (tabT_p (fS F) (n:=10) (Nat.le_refl _)).1 (by decide)
 have mg:mgP (.l (tabT 10 (fS F))) (.l []):=⟨hTl,fun x hx=>by cases hx⟩
 obtain ⟨m1,m2,m3⟩:=mended_ten hF
 have hfa:=mended_fa (F:=.l F) hM mg
 have hrt:=mended_right (F:=.l F) hM mg
 have htf:∀ (k r:Nat) (y:Int),k < 10→r < 32→(0≤y∧y≤255)→(0≤(U.at F (16 * (2 + 3 * k) + r)).int∧(U.at F (16 * (2 + 3 * k) + r)).int≤255)→y≠(U.at F (16 * (2 + 3 * k) + r)).int→
   faV (.i 1) (.i 20) noS (.l (tabT 10 (fS F))) (.l []) (mM (.l [])) (.l (ofV ((List.range 10).map (lnT (fS F))) 40)) (.l (F.set (16 * (2 + 3 * k) + r) (.i y)))=[.l [.i 1,.i (k:Int),.i (-1)],.l [.i 3,.i ((2 + 3 * k:Nat):Int),.i 0],.l [.i 3,.i ((3 + 3 * k:Nat):Int),.i 0]]:=
  fun k r y h1 h2 h3 h4 h5=>turned_fa hF h1 h2 h3 h4 h5 _
 rw [m1,m2,m3] at hfa hrt
 generalize ofV ((List.range 10).map (lnT (fS F))) 40=Q2 at m3 hfa hrt htf
 generalize tabT 10 (fS F)=T at S6 m1 m2 m3 hM hTl mg hfa hrt htf
 have hB:Holds (exec tuC (takeC 2 (dropC 4 tuB)) 0 ⟨[(0,.val (.int .u8) x),(1,.val (.int .u8) y),(5,vf (.l F)),(6,.ptr 768 0)],[(768,mBox (.i 1) (.i 20) noS (.l T) (.l []) (.l []) (.l []))]⟩ (seenS [0,1,5,9,11] [1152] fun e σ=>e = .normal∧σ =
   ⟨[(0,.val (.int .u8) x),(1,.val (.int .u8) y),(5,vf (.l F)),(9,.ptr 1152 0),(11,vi (.i (k:Int)))],[(1152,mBox (.i 1) (.i 20) noS (.l T) (.l []) (mM (.l [])) (.l Q2))]⟩)):=by
  refine .eq (tu_B _ x y (.l F) (.i 1) (.i 20) noS (.l T) (.l []) (.l []) (.l [])) ?_
  have e1:U.l (mT (.i 1) (.i 20) noS (.l T) (.l []) (.l []) (.l []) (.l F)).list = .l T:=by rw [m1];rfl
  have e2:U.l (mS (.i 1) (.i 20) noS (.l T) (.l []) (.l []) (.l []) (.l F)).list = .l []:=by rw [m2];rfl
  have e3:U.l (mQ (.i 1) (.i 20) noS (.l T) (.l []) (.l []) (.l []) (.l F)).list = .l Q2:=by rw [m3];rfl
  have e4:U.l (mM (.l [])).list=mM (.l []):=rfl
  rw [e1,e2,e3,e4,hkk,hrt,cond_true,hfa]
  exact ⟨⟨⟨by trivial,by trivial,by trivial⟩,hM,mg,fun x hx=>by cases hx⟩,mg,bf rfl ⟨by trivial,rfl⟩⟩
 refine piece_on tuC_ok rfl rfl (fun _ h=>h) (rest:=dropC 7 tuB) (hP _) hpan (by kernel_rfl) (by kernel_rfl) (by kernel_rfl) (noloops (by kernel_rfl)) S6 hB fun a7 w7 Z7 G7 S7=>?_
 clear hB S6 hkk m1 m2 m3 hfa hM
 generalize mM (.l [])=M2 at S7 hrt htf
 have hC:dropC 7 tuB = .seq (piece tuB [1,1,1,1,1,1,1,0]) (dropC 8 tuB):=by kernel_rfl
 rw [hC]
 obtain ⟨Z8,hZ,S8,hbx⟩:=S7.shut (id:=1152) (cs:=MTC) (us:=[.i 1,.i 20,noS,.l T,.l [],M2,.l Q2]) (by kernel_rfl)
 have r9:=hbx _ (S7.slot 9)
 have r5:RepC w7 Z8 (.sl false [.int .u8]) (a7.tmps.getD 5 undef) (.l F):=S8.slot 5
 have r0:a7.eval (.tmp 0) = .int .u8 x.int:=(S7.slot 0).1
 have r1:a7.eval (.tmp 1) = .int .u8 y.int:=(S7.slot 1).1
 have r11:a7.eval (.tmp 11) = .int .i64 (k:Int):=(S7.slot 11).1
 obtain ⟨A,cp,v5,g2,g3,g4⟩:=r5
 have hFl:(U.l F).list.length=640:=hF
 obtain ⟨b,o1,rfl,hb,_⟩:=g4 0 (by omega)
 obtain ⟨hj,hr0,hr1⟩:=tu_nums (p:=x.int) (q:=y.int) (k:=(k:Int)) hx ⟨by omega,by omega⟩
 rw [Int.toNat_natCast] at hj
 obtain ⟨r,hr⟩:∃ r:Nat,r=(tuR x.int).toNat:=⟨_,rfl⟩
 rw [← hr] at hj
 have hr32:r < 32:=by omega
 have hjn:(tuJ x.int (k:Int)).toNat=16 * (2 + 3 * k) + r:=by rw [hj,Int.toNat_natCast]
 obtain ⟨b',o',c1,_,⟨v,c2,c3,c4,c5⟩,_⟩:=g4 (16 * (2 + 3 * k) + r) (by omega)
 cases c1
 have hxx:0≤(U.at F (16 * (2 + 3 * k) + r)).int∧(U.at F (16 * (2 + 3 * k) + r)).int≤255:=⟨c4,c5⟩
 have c2:w7.cell? ⟨b,o1 + (16 * (2 + 3 * k) + r),none⟩=some (.int .u8 (U.at F (16 * (2 + 3 * k) + r)).int):=by rw [c3,show [Ct.int .u8].length=1 from rfl,Nat.mul_one] at c2;exact c2
 obtain ⟨hyi,hyn⟩:=tuY_in hxx hy
 have hpl:Plain w7 b:=(S8.row b hb).resolve_left fun h=>h
 obtain ⟨w8,hst,B,_⟩:=bite_store (P:=PR) (t:=5) sBs hpl c2 (tuY (U.at F (16 * (2 + 3 * k) + r)).int y.int)
 have hlo:w.heap.size≤b:=by
  rcases S8.new b hb with h | h | h | h
  ·exact h.elim
  ·exact h.elim
  ·exact h.elim
  ·exact h
 have c2':w7.cell? ⟨b,o1 + (tuJ x.int (k:Int)).toNat * 1,none⟩=some (.int .u8 (U.at F (16 * (2 + 3 * k) + r)).int):=by rw [hjn,Nat.mul_one];exact c2
 refine wp_seq (tu_bite (w':=w8) (p:=x.int) (q:=y.int) (k:=(k:Int)) (l:=640) (cp:=cp) S7.size r0 r1 (by show a7.tmps.getD 5 undef=_;rw [v5,hFl]) r11 (by omega) (by omega) c2' (by rw [hjn,Nat.mul_one];exact hst) fun a8 hs8 hd8 hk8=>?_)
 show (dropC 8 tuB).wp PR Q a8 w8
 have F8:Fut (fun _=>False) w w8:=S8.fut.trans (⟨B.os,B.tape,B.output,by rw [B.size];exact Nat.le_refl _,fun i _ hn=>B.block i hn⟩:Fut (fun i=>i=b) w7 w8) (fun _ h=>h) (fun i hi h=>by subst h;exact absurd hlo (Nat.not_le.2 hi))
 obtain ⟨G,hG⟩:∃ G,G=F.set (16 * (2 + 3 * k) + r) (.i (tuY (U.at F (16 * (2 + 3 * k) + r)).int y.int)):=⟨_,rfl⟩
 have r5':RepC w8 Z8 (.sl false [.int .u8]) (a8.tmps.getD 5 undef) (.l G):=by
  have e:a8.tmps.getD 5 undef=a7.tmps.getD 5 undef:=hk8 5 (by decide)
  rw [e,v5,hG]
  refine row_bite (j:=16 * (2 + 3 * k) + r) B hyi (by omega) ?_
  have:=S8.slot 5
  have e5:RepC w7 Z8 (.sl false [.int .u8]) (a7.tmps.getD 5 undef) (.l F):=this
  rw [v5] at e5
  exact e5
 have r9':RepSV w8 Z8 G7 (.rptr MTC [.i 1,.i 20,noS,.l T,.l [],M2,.l Q2]) (a8.tmps.getD 9 undef):=by
  have e:a8.tmps.getD 9 undef=a7.tmps.getD 9 undef:=hk8 9 (by decide)
  rw [e]
  obtain ⟨b9,o9,h1,h2,h3⟩:=r9
  exact ⟨b9,o9,h1,h2,RepCs.bite B MTC (by kernel_rfl) h3⟩
 have r11':RepSV w8 Z8 G7 (vi (.i (k:Int))) (a8.tmps.getD 11 undef):=by
  have e:a8.tmps.getD 11 undef=a7.tmps.getD 11 undef:=hk8 11 (by decide)
  rw [e]
  exact S7.slot 11
 have T8:=Sim.begin (P:=PR) (n:=110) (env:=[(5,vf (.l G)),(9,.rptr MTC [.i 1,.i 20,noS,.l T,.l [],M2,.l Q2]),(11,vi (.i (k:Int)))]) (a:=a8) (w:=w8) (Z:=Z8) (G:=G7) hs8 (slots_of fun p hp=>by
   have hp:p=(5,vf (.l G))∨p=(9,.rptr MTC [.i 1,.i 20,noS,.l T,.l [],M2,.l Q2])∨p=(11,vi (.i (k:Int))):=by simpa using hp
   rcases hp with rfl | rfl | rfl
   ·exact r5'
   ·exact r9'
   ·exact r11') (fun b hb=>by rw [B.size];exact S8.lt b hb) S8.flat
 have hfv:fvU (.i 1) (.i 20) noS (.l T) (.l []) M2 (.l Q2) (.l G)=[.l [.i 1,.i (k:Int),.i (-1)],.l [.i 3,.i ((2 + 3 * k:Nat):Int),.i 0],.l [.i 3,.i ((3 + 3 * k:Nat):Int),.i 0]]:=by
  unfold fvU
  rw [hrt,cond_true,hG]
  exact htf k r _ hk hr32 hyi hxx hyn
 have w1:stI2 (.i (k:Int))=((2 + 3 * k:Nat):Int):=by
  unfold stI2
  rw [U.int_i,i64_in (x:=3 * (k:Int)) (by omega) (by omega),i64_in (by omega) (by omega)]
  omega
 have w2:stI3 (.i (k:Int))=((3 + 3 * k:Nat):Int):=by
  unfold stI3
  rw [U.int_i,i64_in (x:=3 * (k:Int)) (by omega) (by omega),i64_in (by omega) (by omega)]
  omega
 have hE:Holds (exec tuC (dropC 8 tuB) 0 ⟨[(5,vf (.l G)),(9,.rptr MTC [.i 1,.i 20,noS,.l T,.l [],M2,.l Q2]),(11,vi (.i (k:Int)))],[]⟩ (seenS [4] [] fun e σ=>e = .ret∧σ=⟨[(4,vb (.b true))],[]⟩)):=by
  refine .eq (tu_E _ (.l G) (.i (k:Int)) (.i 1) (.i 20) noS (.l T) (.l []) M2 (.l Q2)) ⟨mg,?_⟩
  rw [hfv,w1,w2]
  refine bt rfl (dt ⟨by decide,show (0:Int) < 3 by decide⟩ (bt ?_ (dt ⟨by decide,show (1:Int) < 3 by decide⟩ (bt ?_ (dt ⟨by decide,show (2:Int) < 3 by decide⟩ (bt ?_ ⟨rfl,rfl⟩))))))
  ·show ((1:Int) == 1 && ((k:Int) == (k:Int) && ((-1:Int) == -1 && true)))=true
   simp
  ·show ((3:Int) == 3 && (((2 + 3 * k:Nat):Int) == ((2 + 3 * k:Nat):Int) && ((0:Int) == 0 && true)))=true
   simp
  ·show ((3:Int) == 3 && (((3 + 3 * k:Nat):Int) == ((3 + 3 * k:Nat):Int) && ((0:Int) == 0 && true)))=true
   simp
 refine piece_end tuC_ok rfl rfl (fun _ h=>h) (hP _) hpan (by kernel_rfl) (noloops (by kernel_rfl)) T8 hE fun a9 w9 Z9 G9 S9=>?_
 exact hend a9 w9 (S9.calm.trans (hd8.trans S7.calm)) (S9.slot 4) (F8.trans S9.fut (fun _ h=>h) (fun _ _ h=>h))
theorem turned_ok:SpecF PR 8 tA15:=fun fn us hfn=>by
 have hf:PR.funcs[(8:Nat)]? = some Try.f8:=by kernel_rfl
 rw [hf] at hfn;cases hfn
 refine fn_walk (code:=tuB) hf (by kernel_rfl) (by kernel_rfl) (Nat.le_of_ble_eq_true (by kernel_rfl)) fun hok=>?_
 have hp:Try.f8.params.toList=[5,5]:=by kernel_rfl
 rw [hp] at hok
 obtain ⟨x,y,hus⟩:∃ x y,us=[[x],[y]]:=by
  obtain ⟨u,u2,rfl,h1,h2⟩:=shape2 (by kernel_rfl:Cs PR 5=some (false,[.int .u8])) (by kernel_rfl:Cs PR 5=some (false,[.int .u8])) hok.1
  obtain ⟨x,rfl⟩:=len1 h1
  obtain ⟨y,rfl⟩:=len1 h2
  exact ⟨x,y,rfl⟩
 subst hus
 have hok2:=hok.2 [.val (.int .u8) x,.val (.int .u8) y] (by kernel_rfl)
 refine ⟨[(0,.val (.int .u8) x),(1,.val (.int .u8) y)],by kernel_rfl,fun a w Z hZ Sm=>?_⟩
 refine tu_walk hok2.1 hok2.2.1 Sm (fun _ _ _ d _ h=>by cases d<;>exact h) fun a' w' h1 h2 h3=>?_
 have hres:Try.f8.results = #[.tmp 4]:=by kernel_rfl
 exact ends_bool (t:=4) (fun a=>results_at hres) (by kernel_rfl) h1 h2 h3 hZ
end Go.Mat
