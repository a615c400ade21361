/- A part of the proof of this: one count that is turned up or down is one fault, at its sector, of its kind. Conditions: none. Joined of B110, F111, B86T, F86T, B112, F112, B113, F113, DenRO, B115, F114, F115, F116, F119, DenRP, B118, F118. -/
import Derived.Test.YtjleagfibbbjnaaC5
import Derived.KernelRfl
namespace Go.Mat
open Go Go.Den Go.Proofs
def whU (F:U):List U:=List.take (min (List.length F.list / (16:Nat)) (65536:Nat) * (16:Nat)) F.list
def bdU (c z s T Sh M Q F:U):List U:=Prod.fst (badL (whU F) c.int (linesX [[c,z,s,T,Sh,M,Q],[U.l (whU F)]]))
def woU (c z s T Sh M Q F:U):List U × List U:=woOf (U.i 1) (U.i 0) (U.i 0) (U.i 0) (U.i 0) T.list Sh.list (bdU c z s T Sh M Q F)
def szU (F:U):Int:=IntKind.wrap IntKind.i64 (Int.tdiv (List.length (whU F):Int) 16)
def flBad (p:U):U:=.l [.i 1,nth (.i 0) p.list.tail 0,nth (.i 0) p.list 0]
def flCnt (size:Int) (Q:List U) (i:Int) (x:U):List U:=
 bif decide ((bif decide (i < (Q.length:Int)) then (U.at Q i.toNat).int else 0) < (bif decide (i ≥ size) then 0 else x.int)) then [.l [.i 2,.i i,.i 0]]
 else bif decide ((bif decide (i < (Q.length:Int)) then (U.at Q i.toNat).int else 0) > (bif decide (i ≥ size) then 0 else x.int)) then [.l [.i 3,.i i,.i 0]] else []
def flCnts (size:Int) (Q:List U):Int→List U→List U
 | _,[]=>[]
 | i,x :: r=>flCnt size Q i x ++ flCnts size Q (i + 1) r
noncomputable def faLoop0:LoopF:=fun _ svs os k=>match svs,os with
 | [.val (.int .i64) i,.val (.int .i64) n,.val (.sl true x0) L,.own o,.ptr p q,.val (.sl false [.int .u8]) F,.val (.sl true x4) L5],[.arr t X,.box [.val (.int .i64) c,.val (.int .i64) z,.val .str s,.val (.sl false [.sl true x1]) T,.val (.sl true x3) Sh,.val (.sl true x2) M,.val (.sl false [.int .i64]) Q]]=>
  ((x0=PPC∧o=892∧p=256∧q=0∧x4=PPC∧t=47∧x1=EC∧x3=SC∧x2=BC)∧n.int=(L.list.length:Int)∧0≤i.int∧i.int≤n.int∧X.length + L.list.length≤1073741823 + i.int.toNat)∧
  k (.exit 0) ⟨[(6,.own 892),(2,.ptr 256 0),(1,.val (.sl false [.int .u8]) F),(5,vt PPC L5)],[(892,.arr 47 (X ++ (L.list.drop i.int.toNat).map flBad)),(256,.box [vi c,vi z,vs s,.val TRC T,vt SC Sh,vt BC M,vl (.int .i64) Q])]⟩
 | _,_=>False
noncomputable def faLoop2:LoopF:=fun _ svs os k=>match svs,os with
 | [.val (.int .i64) i,.val (.int .i64) n,.val (.sl false [.int .i64]) L,.own o,.ptr p q,.val (.int .i64) sz],[.arr t X,.box [.val (.int .i64) c,.val (.int .i64) z,.val .str s,.val (.sl false [.sl true x1]) T,.val (.sl true x3) Sh,.val (.sl true x2) M,.val (.sl false [.int .i64]) Q]]=>
  ((i = .i i.int∧o=892∧p=256∧q=0∧t=47∧x1=EC∧x3=SC∧x2=BC)∧n.int=(L.list.length:Int)∧0≤i.int∧i.int≤n.int∧X.length + L.list.length≤1073741823 + i.int.toNat)∧
  k (.exit 2) ⟨[(6,.own 892)],[(892,.arr 47 (X ++ flCnts sz.int Q.list i.int (L.list.drop i.int.toNat)))]⟩
 | _,_=>False
noncomputable def faC:Ctx:=mkC PR eqs0 (fnsCons 37 metaS (fnsCons 38 wholeS (fnsConsP 39 badP badS (fnsConsP 40 ofP ofS fnsNil)))) (trsCons 41 [] woF trsNil)
 (loopCons 0 [24,23,22,6,2,1,5] [892,256] faLoop0 (loopCons 2 [52,51,50,6,2,9] [892,256] faLoop2 noLoops)) (outCons 0 [6,2,1,5] [892,256] (outCons 2 [6] [892] noOut)) noOut
theorem fa_round0 (pan:KP) (μ:Mu) (N:Nat) (k:KE) (i n L F L5 c z s T Sh M Q:U) (X:List U):(exec (faC.panics pan) (loopBody Try.f15 0) 0 ⟨[(24,vi i),(23,vi n),(22,vt PPC L),(6,.own 892),(2,.ptr 256 0),(1,.val (.sl false [.int .u8]) F),(5,vt PPC L5)],[(892,.arr 47 X),(256,.box [vi c,vi z,vs s,.val TRC T,vt SC Sh,vt BC M,vl (.int .i64) Q])]⟩ (again PR (some ([6,2,1,5],[892,256])) none pan [24,23,22,6,2,1,5] [892,256] faLoop0 μ N k))=(bif decide (i.int < n.int) then bif decide ((0:Int)≤i.int∧i.int < (L.list.length:Int)) then bif decide (List.length X + 1≤room) && true then bif Nat.blt (μ [vi (U.i (IntKind.wrap .i64 (i.int + 1))),vi n,.val (.sl true PPC) L,.own 892,.ptr 256 0,.val (.sl false [.int .u8]) F,.val (.sl true PPC) L5] [.arr 47 (X ++ [U.l [U.i 1,nth (U.i 0) (List.tail (U.list (nth (U.i 0) L.list (Int.toNat i.int)))) (0:Nat),nth (U.i 0) (U.list (nth (U.i 0) L.list (Int.toNat i.int))) (0:Nat)]]),.box [vi c,vi z,.val .str s,.val (.sl false [.sl true EC]) T,.val (.sl true [.str,.int .i64,Ct.sl false [.sl true EC]]) Sh,.val (.sl true [.str,Ct.bool,Ct.sl true PPC]) M,.val (.sl false [.int .i64]) Q]]) N then ((PPC=PPC∧nat_lit 892=nat_lit 892∧nat_lit 256=nat_lit 256∧nat_lit 0=nat_lit 0∧PPC=PPC∧nat_lit 47=nat_lit 47∧EC=EC∧[Ct.str,.int .i64,Ct.sl false [Ct.sl true EC]]=[.str,.int .i64,Ct.sl false [.sl true EC]]∧[Ct.str,Ct.bool,Ct.sl true PPC]=[.str,Ct.bool,Ct.sl true PPC])∧n.int=(L.list.length:Int)∧(0:Int)≤IntKind.wrap .i64 (i.int + 1)∧IntKind.wrap .i64 (i.int + 1)≤n.int∧List.length (X ++ [U.l [U.i 1,nth (U.i 0) (List.tail (U.list (nth (U.i 0) L.list (Int.toNat i.int)))) (0:Nat),nth (U.i 0) (U.list (nth (U.i 0) L.list (Int.toNat i.int))) (0:Nat)]]) + L.list.length≤(1073741823:Nat) + Int.toNat (IntKind.wrap .i64 (i.int + 1)))∧k (Ex.exit 0) (St.mk [(6,.own 892),(2,.ptr 256 0),(1,.val (.sl false [.int .u8]) F),(5,.val (.sl true PPC) L5)] [(892,.arr 47 (X ++ [U.l [U.i 1,nth (U.i 0) (List.tail (U.list (nth (U.i 0) L.list (Int.toNat i.int)))) (0:Nat),nth (U.i 0) (U.list (nth (U.i 0) L.list (Int.toNat i.int))) (0:Nat)]] ++ List.map flBad (List.drop (Int.toNat (IntKind.wrap .i64 (i.int + 1))) L.list))),(256,.box [vi c,vi z,.val .str s,.val (.sl false [.sl true EC]) T,.val (.sl true [.str,.int .i64,Ct.sl false [.sl true EC]]) Sh,.val (.sl true [.str,Ct.bool,Ct.sl true PPC]) M,.val (.sl false [.int .i64]) Q])]) else False else False else False else k (Ex.exit 0) (St.mk [(6,.own 892),(2,.ptr 256 0),(1,.val (.sl false [.int .u8]) F),(5,.val (.sl true PPC) L5)] [(892,.arr 47 X),(256,.box [vi c,vi z,.val .str s,.val (.sl false [.sl true EC]) T,.val (.sl true [.str,.int .i64,Ct.sl false [.sl true EC]]) Sh,.val (.sl true [.str,Ct.bool,Ct.sl true PPC]) M,.val (.sl false [.int .i64]) Q])])):=by kernel_rfl
theorem fa_round2 (pan:KP) (μ:Mu) (N:Nat) (k:KE) (i n L sz c z s T Sh M Q:U) (X:List U):(exec (faC.panics pan) (loopBody Try.f15 1) 2 ⟨[(52,vi i),(51,vi n),(50,.val (.sl false [.int .i64]) L),(6,.own 892),(2,.ptr 256 0),(9,vi sz)],[(892,.arr 47 X),(256,.box [vi c,vi z,vs s,.val TRC T,vt SC Sh,vt BC M,vl (.int .i64) Q])]⟩ (again PR (some ([6],[892])) none pan [52,51,50,6,2,9] [892,256] faLoop2 μ N k))=(bif decide (i.int < n.int) then bif decide ((0:Int)≤i.int∧i.int < (L.list.length:Int)) then bif decide (i.int ≥ sz.int) then bif decide (i.int < (Q.list.length:Int)) then bif decide ((0:Int)≤i.int∧i.int < (Q.list.length:Int)) then bif decide (U.int (nth (U.i 0) Q.list (Int.toNat i.int)) < 0) then bif decide (List.length X + 1≤room) && true then bif Nat.blt (μ [vi (U.i (IntKind.wrap .i64 (i.int + 1))),vi n,.val (.sl false [.int .i64]) L,.own 892,.ptr 256 0,vi sz] [.arr 47 (X ++ [U.l [U.i 2,i,U.i 0]]),.box [vi c,vi z,.val .str s,.val (.sl false [.sl true EC]) T,.val (.sl true [.str,.int .i64,Ct.sl false [.sl true EC]]) Sh,.val (.sl true [.str,Ct.bool,Ct.sl true PPC]) M,.val (.sl false [.int .i64]) Q]]) N then ((U.i (IntKind.wrap .i64 (i.int + 1))=U.i (IntKind.wrap .i64 (i.int + 1))∧nat_lit 892=nat_lit 892∧nat_lit 256=nat_lit 256∧nat_lit 0=nat_lit 0∧nat_lit 47=nat_lit 47∧EC=EC∧[Ct.str,.int .i64,Ct.sl false [Ct.sl true EC]]=[.str,.int .i64,Ct.sl false [.sl true EC]]∧[Ct.str,Ct.bool,Ct.sl true PPC]=[.str,Ct.bool,Ct.sl true PPC])∧n.int=(L.list.length:Int)∧(0:Int)≤IntKind.wrap .i64 (i.int + 1)∧IntKind.wrap .i64 (i.int + 1)≤n.int∧List.length (X ++ [U.l [U.i 2,i,U.i 0]]) + L.list.length≤(1073741823:Nat) + Int.toNat (IntKind.wrap .i64 (i.int + 1)))∧k (Ex.exit 2) (St.mk [(6,.own 892)] [(892,.arr 47 (X ++ [U.l [U.i 2,i,U.i 0]] ++ flCnts sz.int Q.list (IntKind.wrap .i64 (i.int + 1)) (List.drop (Int.toNat (IntKind.wrap .i64 (i.int + 1))) L.list)))]) else False else False else bif decide (U.int (nth (U.i 0) Q.list (Int.toNat i.int)) > 0) then bif decide (List.length X + 1≤room) && true then bif Nat.blt (μ [vi (U.i (IntKind.wrap .i64 (i.int + 1))),vi n,.val (.sl false [.int .i64]) L,.own 892,.ptr 256 0,vi sz] [.arr 47 (X ++ [U.l [U.i 3,i,U.i 0]]),.box [vi c,vi z,.val .str s,.val (.sl false [.sl true EC]) T,.val (.sl true [.str,.int .i64,Ct.sl false [.sl true EC]]) Sh,.val (.sl true [.str,Ct.bool,Ct.sl true PPC]) M,.val (.sl false [.int .i64]) Q]]) N then ((U.i (IntKind.wrap .i64 (i.int + 1))=U.i (IntKind.wrap .i64 (i.int + 1))∧nat_lit 892=nat_lit 892∧nat_lit 256=nat_lit 256∧nat_lit 0=nat_lit 0∧nat_lit 47=nat_lit 47∧EC=EC∧[Ct.str,.int .i64,Ct.sl false [Ct.sl true EC]]=[.str,.int .i64,Ct.sl false [.sl true EC]]∧[Ct.str,Ct.bool,Ct.sl true PPC]=[.str,Ct.bool,Ct.sl true PPC])∧n.int=(L.list.length:Int)∧(0:Int)≤IntKind.wrap .i64 (i.int + 1)∧IntKind.wrap .i64 (i.int + 1)≤n.int∧List.length (X ++ [U.l [U.i 3,i,U.i 0]]) + L.list.length≤(1073741823:Nat) + Int.toNat (IntKind.wrap .i64 (i.int + 1)))∧k (Ex.exit 2) (St.mk [(6,.own 892)] [(892,.arr 47 (X ++ [U.l [U.i 3,i,U.i 0]] ++ flCnts sz.int Q.list (IntKind.wrap .i64 (i.int + 1)) (List.drop (Int.toNat (IntKind.wrap .i64 (i.int + 1))) L.list)))]) else False else False else bif Nat.blt (μ [vi (U.i (IntKind.wrap .i64 (i.int + 1))),vi n,.val (.sl false [.int .i64]) L,.own 892,.ptr 256 0,vi sz] [.arr 47 X,.box [vi c,vi z,.val .str s,.val (.sl false [.sl true EC]) T,.val (.sl true [.str,.int .i64,Ct.sl false [.sl true EC]]) Sh,.val (.sl true [.str,Ct.bool,Ct.sl true PPC]) M,.val (.sl false [.int .i64]) Q]]) N then ((U.i (IntKind.wrap .i64 (i.int + 1))=U.i (IntKind.wrap .i64 (i.int + 1))∧nat_lit 892=nat_lit 892∧nat_lit 256=nat_lit 256∧nat_lit 0=nat_lit 0∧nat_lit 47=nat_lit 47∧EC=EC∧[Ct.str,.int .i64,Ct.sl false [Ct.sl true EC]]=[.str,.int .i64,Ct.sl false [.sl true EC]]∧[Ct.str,Ct.bool,Ct.sl true PPC]=[.str,Ct.bool,Ct.sl true PPC])∧n.int=(L.list.length:Int)∧(0:Int)≤IntKind.wrap .i64 (i.int + 1)∧IntKind.wrap .i64 (i.int + 1)≤n.int∧List.length X + L.list.length≤(1073741823:Nat) + Int.toNat (IntKind.wrap .i64 (i.int + 1)))∧k (Ex.exit 2) (St.mk [(6,.own 892)] [(892,.arr 47 (X ++ flCnts sz.int Q.list (IntKind.wrap .i64 (i.int + 1)) (List.drop (Int.toNat (IntKind.wrap .i64 (i.int + 1))) L.list)))]) else False else False else bif Nat.blt (μ [vi (U.i (IntKind.wrap .i64 (i.int + 1))),vi n,.val (.sl false [.int .i64]) L,.own 892,.ptr 256 0,vi sz] [.arr 47 X,.box [vi c,vi z,.val .str s,.val (.sl false [.sl true EC]) T,.val (.sl true [.str,.int .i64,Ct.sl false [.sl true EC]]) Sh,.val (.sl true [.str,Ct.bool,Ct.sl true PPC]) M,.val (.sl false [.int .i64]) Q]]) N then ((U.i (IntKind.wrap .i64 (i.int + 1))=U.i (IntKind.wrap .i64 (i.int + 1))∧nat_lit 892=nat_lit 892∧nat_lit 256=nat_lit 256∧nat_lit 0=nat_lit 0∧nat_lit 47=nat_lit 47∧EC=EC∧[Ct.str,.int .i64,Ct.sl false [Ct.sl true EC]]=[.str,.int .i64,Ct.sl false [.sl true EC]]∧[Ct.str,Ct.bool,Ct.sl true PPC]=[.str,Ct.bool,Ct.sl true PPC])∧n.int=(L.list.length:Int)∧(0:Int)≤IntKind.wrap .i64 (i.int + 1)∧IntKind.wrap .i64 (i.int + 1)≤n.int∧List.length X + L.list.length≤(1073741823:Nat) + Int.toNat (IntKind.wrap .i64 (i.int + 1)))∧k (Ex.exit 2) (St.mk [(6,.own 892)] [(892,.arr 47 (X ++ flCnts sz.int Q.list (IntKind.wrap .i64 (i.int + 1)) (List.drop (Int.toNat (IntKind.wrap .i64 (i.int + 1))) L.list)))]) else False else bif decide (i.int < (Q.list.length:Int)) then bif decide ((0:Int)≤i.int∧i.int < (Q.list.length:Int)) then bif decide (U.int (nth (U.i 0) Q.list (Int.toNat i.int)) < U.int (nth (U.i 0) L.list (Int.toNat i.int))) then bif decide (List.length X + 1≤room) && true then bif Nat.blt (μ [vi (U.i (IntKind.wrap .i64 (i.int + 1))),vi n,.val (.sl false [.int .i64]) L,.own 892,.ptr 256 0,vi sz] [.arr 47 (X ++ [U.l [U.i 2,i,U.i 0]]),.box [vi c,vi z,.val .str s,.val (.sl false [.sl true EC]) T,.val (.sl true [.str,.int .i64,Ct.sl false [.sl true EC]]) Sh,.val (.sl true [.str,Ct.bool,Ct.sl true PPC]) M,.val (.sl false [.int .i64]) Q]]) N then ((U.i (IntKind.wrap .i64 (i.int + 1))=U.i (IntKind.wrap .i64 (i.int + 1))∧nat_lit 892=nat_lit 892∧nat_lit 256=nat_lit 256∧nat_lit 0=nat_lit 0∧nat_lit 47=nat_lit 47∧EC=EC∧[Ct.str,.int .i64,Ct.sl false [Ct.sl true EC]]=[.str,.int .i64,Ct.sl false [.sl true EC]]∧[Ct.str,Ct.bool,Ct.sl true PPC]=[.str,Ct.bool,Ct.sl true PPC])∧n.int=(L.list.length:Int)∧(0:Int)≤IntKind.wrap .i64 (i.int + 1)∧IntKind.wrap .i64 (i.int + 1)≤n.int∧List.length (X ++ [U.l [U.i 2,i,U.i 0]]) + L.list.length≤(1073741823:Nat) + Int.toNat (IntKind.wrap .i64 (i.int + 1)))∧k (Ex.exit 2) (St.mk [(6,.own 892)] [(892,.arr 47 (X ++ [U.l [U.i 2,i,U.i 0]] ++ flCnts sz.int Q.list (IntKind.wrap .i64 (i.int + 1)) (List.drop (Int.toNat (IntKind.wrap .i64 (i.int + 1))) L.list)))]) else False else False else bif decide (U.int (nth (U.i 0) Q.list (Int.toNat i.int)) > U.int (nth (U.i 0) L.list (Int.toNat i.int))) then bif decide (List.length X + 1≤room) && true then bif Nat.blt (μ [vi (U.i (IntKind.wrap .i64 (i.int + 1))),vi n,.val (.sl false [.int .i64]) L,.own 892,.ptr 256 0,vi sz] [.arr 47 (X ++ [U.l [U.i 3,i,U.i 0]]),.box [vi c,vi z,.val .str s,.val (.sl false [.sl true EC]) T,.val (.sl true [.str,.int .i64,Ct.sl false [.sl true EC]]) Sh,.val (.sl true [.str,Ct.bool,Ct.sl true PPC]) M,.val (.sl false [.int .i64]) Q]]) N then ((U.i (IntKind.wrap .i64 (i.int + 1))=U.i (IntKind.wrap .i64 (i.int + 1))∧nat_lit 892=nat_lit 892∧nat_lit 256=nat_lit 256∧nat_lit 0=nat_lit 0∧nat_lit 47=nat_lit 47∧EC=EC∧[Ct.str,.int .i64,Ct.sl false [Ct.sl true EC]]=[.str,.int .i64,Ct.sl false [.sl true EC]]∧[Ct.str,Ct.bool,Ct.sl true PPC]=[.str,Ct.bool,Ct.sl true PPC])∧n.int=(L.list.length:Int)∧(0:Int)≤IntKind.wrap .i64 (i.int + 1)∧IntKind.wrap .i64 (i.int + 1)≤n.int∧List.length (X ++ [U.l [U.i 3,i,U.i 0]]) + L.list.length≤(1073741823:Nat) + Int.toNat (IntKind.wrap .i64 (i.int + 1)))∧k (Ex.exit 2) (St.mk [(6,.own 892)] [(892,.arr 47 (X ++ [U.l [U.i 3,i,U.i 0]] ++ flCnts sz.int Q.list (IntKind.wrap .i64 (i.int + 1)) (List.drop (Int.toNat (IntKind.wrap .i64 (i.int + 1))) L.list)))]) else False else False else bif Nat.blt (μ [vi (U.i (IntKind.wrap .i64 (i.int + 1))),vi n,.val (.sl false [.int .i64]) L,.own 892,.ptr 256 0,vi sz] [.arr 47 X,.box [vi c,vi z,.val .str s,.val (.sl false [.sl true EC]) T,.val (.sl true [.str,.int .i64,Ct.sl false [.sl true EC]]) Sh,.val (.sl true [.str,Ct.bool,Ct.sl true PPC]) M,.val (.sl false [.int .i64]) Q]]) N then ((U.i (IntKind.wrap .i64 (i.int + 1))=U.i (IntKind.wrap .i64 (i.int + 1))∧nat_lit 892=nat_lit 892∧nat_lit 256=nat_lit 256∧nat_lit 0=nat_lit 0∧nat_lit 47=nat_lit 47∧EC=EC∧[Ct.str,.int .i64,Ct.sl false [Ct.sl true EC]]=[.str,.int .i64,Ct.sl false [.sl true EC]]∧[Ct.str,Ct.bool,Ct.sl true PPC]=[.str,Ct.bool,Ct.sl true PPC])∧n.int=(L.list.length:Int)∧(0:Int)≤IntKind.wrap .i64 (i.int + 1)∧IntKind.wrap .i64 (i.int + 1)≤n.int∧List.length X + L.list.length≤(1073741823:Nat) + Int.toNat (IntKind.wrap .i64 (i.int + 1)))∧k (Ex.exit 2) (St.mk [(6,.own 892)] [(892,.arr 47 (X ++ flCnts sz.int Q.list (IntKind.wrap .i64 (i.int + 1)) (List.drop (Int.toNat (IntKind.wrap .i64 (i.int + 1))) L.list)))]) else False else False else bif decide ((0:Int) < U.int (nth (U.i 0) L.list (Int.toNat i.int))) then bif decide (List.length X + 1≤room) && true then bif Nat.blt (μ [vi (U.i (IntKind.wrap .i64 (i.int + 1))),vi n,.val (.sl false [.int .i64]) L,.own 892,.ptr 256 0,vi sz] [.arr 47 (X ++ [U.l [U.i 2,i,U.i 0]]),.box [vi c,vi z,.val .str s,.val (.sl false [.sl true EC]) T,.val (.sl true [.str,.int .i64,Ct.sl false [.sl true EC]]) Sh,.val (.sl true [.str,Ct.bool,Ct.sl true PPC]) M,.val (.sl false [.int .i64]) Q]]) N then ((U.i (IntKind.wrap .i64 (i.int + 1))=U.i (IntKind.wrap .i64 (i.int + 1))∧nat_lit 892=nat_lit 892∧nat_lit 256=nat_lit 256∧nat_lit 0=nat_lit 0∧nat_lit 47=nat_lit 47∧EC=EC∧[Ct.str,.int .i64,Ct.sl false [Ct.sl true EC]]=[.str,.int .i64,Ct.sl false [.sl true EC]]∧[Ct.str,Ct.bool,Ct.sl true PPC]=[.str,Ct.bool,Ct.sl true PPC])∧n.int=(L.list.length:Int)∧(0:Int)≤IntKind.wrap .i64 (i.int + 1)∧IntKind.wrap .i64 (i.int + 1)≤n.int∧List.length (X ++ [U.l [U.i 2,i,U.i 0]]) + L.list.length≤(1073741823:Nat) + Int.toNat (IntKind.wrap .i64 (i.int + 1)))∧k (Ex.exit 2) (St.mk [(6,.own 892)] [(892,.arr 47 (X ++ [U.l [U.i 2,i,U.i 0]] ++ flCnts sz.int Q.list (IntKind.wrap .i64 (i.int + 1)) (List.drop (Int.toNat (IntKind.wrap .i64 (i.int + 1))) L.list)))]) else False else False else bif decide ((0:Int) > U.int (nth (U.i 0) L.list (Int.toNat i.int))) then bif decide (List.length X + 1≤room) && true then bif Nat.blt (μ [vi (U.i (IntKind.wrap .i64 (i.int + 1))),vi n,.val (.sl false [.int .i64]) L,.own 892,.ptr 256 0,vi sz] [.arr 47 (X ++ [U.l [U.i 3,i,U.i 0]]),.box [vi c,vi z,.val .str s,.val (.sl false [.sl true EC]) T,.val (.sl true [.str,.int .i64,Ct.sl false [.sl true EC]]) Sh,.val (.sl true [.str,Ct.bool,Ct.sl true PPC]) M,.val (.sl false [.int .i64]) Q]]) N then ((U.i (IntKind.wrap .i64 (i.int + 1))=U.i (IntKind.wrap .i64 (i.int + 1))∧nat_lit 892=nat_lit 892∧nat_lit 256=nat_lit 256∧nat_lit 0=nat_lit 0∧nat_lit 47=nat_lit 47∧EC=EC∧[Ct.str,.int .i64,Ct.sl false [Ct.sl true EC]]=[.str,.int .i64,Ct.sl false [.sl true EC]]∧[Ct.str,Ct.bool,Ct.sl true PPC]=[.str,Ct.bool,Ct.sl true PPC])∧n.int=(L.list.length:Int)∧(0:Int)≤IntKind.wrap .i64 (i.int + 1)∧IntKind.wrap .i64 (i.int + 1)≤n.int∧List.length (X ++ [U.l [U.i 3,i,U.i 0]]) + L.list.length≤(1073741823:Nat) + Int.toNat (IntKind.wrap .i64 (i.int + 1)))∧k (Ex.exit 2) (St.mk [(6,.own 892)] [(892,.arr 47 (X ++ [U.l [U.i 3,i,U.i 0]] ++ flCnts sz.int Q.list (IntKind.wrap .i64 (i.int + 1)) (List.drop (Int.toNat (IntKind.wrap .i64 (i.int + 1))) L.list)))]) else False else False else bif Nat.blt (μ [vi (U.i (IntKind.wrap .i64 (i.int + 1))),vi n,.val (.sl false [.int .i64]) L,.own 892,.ptr 256 0,vi sz] [.arr 47 X,.box [vi c,vi z,.val .str s,.val (.sl false [.sl true EC]) T,.val (.sl true [.str,.int .i64,Ct.sl false [.sl true EC]]) Sh,.val (.sl true [.str,Ct.bool,Ct.sl true PPC]) M,.val (.sl false [.int .i64]) Q]]) N then ((U.i (IntKind.wrap .i64 (i.int + 1))=U.i (IntKind.wrap .i64 (i.int + 1))∧nat_lit 892=nat_lit 892∧nat_lit 256=nat_lit 256∧nat_lit 0=nat_lit 0∧nat_lit 47=nat_lit 47∧EC=EC∧[Ct.str,.int .i64,Ct.sl false [Ct.sl true EC]]=[.str,.int .i64,Ct.sl false [.sl true EC]]∧[Ct.str,Ct.bool,Ct.sl true PPC]=[.str,Ct.bool,Ct.sl true PPC])∧n.int=(L.list.length:Int)∧(0:Int)≤IntKind.wrap .i64 (i.int + 1)∧IntKind.wrap .i64 (i.int + 1)≤n.int∧List.length X + L.list.length≤(1073741823:Nat) + Int.toNat (IntKind.wrap .i64 (i.int + 1)))∧k (Ex.exit 2) (St.mk [(6,.own 892)] [(892,.arr 47 (X ++ flCnts sz.int Q.list (IntKind.wrap .i64 (i.int + 1)) (List.drop (Int.toNat (IntKind.wrap .i64 (i.int + 1))) L.list)))]) else False else False else k (Ex.exit 2) (St.mk [(6,.own 892)] [(892,.arr 47 X)])):=by kernel_rfl
theorem fa_tree (R:RF) (c z s T Sh M Q F:U):(run faC Try.f15 [[c,z,s,T,Sh,M,Q],[F]] R)=(bif !metaR c z s T Sh M Q then R [[U.l []]] else badP [[c,z,s,T,Sh,M,Q],[U.l (whU F)]]∧((PPC=PPC∧nat_lit 892=nat_lit 892∧nat_lit 256=nat_lit 256∧nat_lit 0=nat_lit 0∧PPC=PPC∧nat_lit 47=nat_lit 47∧EC=EC∧[Ct.str,.int .i64,Ct.sl false [Ct.sl true EC]]=[.str,.int .i64,Ct.sl false [.sl true EC]]∧[Ct.str,Ct.bool,Ct.sl true PPC]=[.str,Ct.bool,Ct.sl true PPC])∧(↑(List.length (bdU c z s T Sh M Q F)):Int)=(↑(List.length (bdU c z s T Sh M Q F)):Int)∧(0:Int)≤0∧(0:Int)≤(↑(List.length (bdU c z s T Sh M Q F)):Int)∧(0:Nat) + List.length (bdU c z s T Sh M Q F)≤(1073741823:Nat) + Int.toNat 0)∧((EC=EC∧[Ct.str,.int .i64,Ct.sl false [Ct.sl true EC]]=[.str,.int .i64,Ct.sl false [.sl true EC]]∧[Ct.str,Ct.bool,Ct.sl true PPC]=[.str,Ct.bool,Ct.sl true PPC]∧PPC=PPC)∧List.length (bdU c z s T Sh M Q F)≤(1073741824:Nat)∧woOk T.list Sh.list (bdU c z s T Sh M Q F))∧ofP [[c,z,s,U.l (Prod.fst (woU c z s T Sh M Q F)),U.l (Prod.snd (woU c z s T Sh M Q F)),M,Q],[U.i (bif decide (szU F < (Q.list.length:Int)) then (Q.list.length:Int) else szU F)]]∧((U.i (0:Int)=U.i 0∧nat_lit 892=nat_lit 892∧nat_lit 256=nat_lit 256∧nat_lit 0=nat_lit 0∧nat_lit 47=nat_lit 47∧EC=EC∧[Ct.str,.int .i64,Ct.sl false [Ct.sl true EC]]=[.str,.int .i64,Ct.sl false [.sl true EC]]∧[Ct.str,Ct.bool,Ct.sl true PPC]=[.str,Ct.bool,Ct.sl true PPC])∧(↑(List.length (bif decide ((bif decide (szU F < (Q.list.length:Int)) then (Q.list.length:Int) else szU F) < 0) then [] else bif decide ((65536:Int) < bif decide (szU F < (Q.list.length:Int)) then (Q.list.length:Int) else szU F) then [] else ofV (linesM [[c,z,s,U.l (Prod.fst (woU c z s T Sh M Q F)),U.l (Prod.snd (woU c z s T Sh M Q F)),M,Q],[U.i (bif decide (szU F < (Q.list.length:Int)) then (Q.list.length:Int) else szU F)]]) (Int.toNat (bif decide (szU F < (Q.list.length:Int)) then (Q.list.length:Int) else szU F)))):Int)=(↑(List.length (bif decide ((bif decide (szU F < (Q.list.length:Int)) then (Q.list.length:Int) else szU F) < 0) then [] else bif decide ((65536:Int) < bif decide (szU F < (Q.list.length:Int)) then (Q.list.length:Int) else szU F) then [] else ofV (linesM [[c,z,s,U.l (Prod.fst (woU c z s T Sh M Q F)),U.l (Prod.snd (woU c z s T Sh M Q F)),M,Q],[U.i (bif decide (szU F < (Q.list.length:Int)) then (Q.list.length:Int) else szU F)]]) (Int.toNat (bif decide (szU F < (Q.list.length:Int)) then (Q.list.length:Int) else szU F)))):Int)∧(0:Int)≤0∧(0:Int)≤(↑(List.length (bif decide ((bif decide (szU F < (Q.list.length:Int)) then (Q.list.length:Int) else szU F) < 0) then [] else bif decide ((65536:Int) < bif decide (szU F < (Q.list.length:Int)) then (Q.list.length:Int) else szU F) then [] else ofV (linesM [[c,z,s,U.l (Prod.fst (woU c z s T Sh M Q F)),U.l (Prod.snd (woU c z s T Sh M Q F)),M,Q],[U.i (bif decide (szU F < (Q.list.length:Int)) then (Q.list.length:Int) else szU F)]]) (Int.toNat (bif decide (szU F < (Q.list.length:Int)) then (Q.list.length:Int) else szU F)))):Int)∧List.length ([] ++ List.map flBad (List.drop (Int.toNat 0) (bdU c z s T Sh M Q F))) + List.length (bif decide ((bif decide (szU F < (Q.list.length:Int)) then (Q.list.length:Int) else szU F) < 0) then [] else bif decide ((65536:Int) < bif decide (szU F < (Q.list.length:Int)) then (Q.list.length:Int) else szU F) then [] else ofV (linesM [[c,z,s,U.l (Prod.fst (woU c z s T Sh M Q F)),U.l (Prod.snd (woU c z s T Sh M Q F)),M,Q],[U.i (bif decide (szU F < (Q.list.length:Int)) then (Q.list.length:Int) else szU F)]]) (Int.toNat (bif decide (szU F < (Q.list.length:Int)) then (Q.list.length:Int) else szU F)))≤(1073741823:Nat) + Int.toNat 0)∧R [[U.l ([] ++ List.map flBad (List.drop (Int.toNat 0) (bdU c z s T Sh M Q F)) ++ flCnts (szU F) Q.list 0 (List.drop (Int.toNat 0) (bif decide ((bif decide (szU F < (Q.list.length:Int)) then (Q.list.length:Int) else szU F) < 0) then [] else bif decide ((65536:Int) < bif decide (szU F < (Q.list.length:Int)) then (Q.list.length:Int) else szU F) then [] else ofV (linesM [[c,z,s,U.l (Prod.fst (woU c z s T Sh M Q F)),U.l (Prod.snd (woU c z s T Sh M Q F)),M,Q],[U.i (bif decide (szU F < (Q.list.length:Int)) then (Q.list.length:Int) else szU F)]]) (Int.toNat (bif decide (szU F < (Q.list.length:Int)) then (Q.list.length:Int) else szU F)))))]]):=by kernel_rfl
end Go.Mat

namespace Go.Mat
open Go Go.Den Go.Proofs
set_option maxRecDepth 100000
theorem fa_loop0:LoopOk faC 0 (loopBody Try.f15 0):=by
 refine loopOk_of (F:=faLoop0) (ts:=[24,23,22,6,2,1,5]) (os:=[892,256]) rfl (fun svs _=>match svs with | .val _ i :: .val _ n :: _=>(n.int - i.int).toNat | _=>0) ?_
 intro pan svs os k ho1 ho2 h
 unfold faLoop0 at h
 split at h
 ·rename_i i n x0 L o p q F x4 L5 t X c z s x1 T x3 Sh x2 M Q
  obtain ⟨⟨⟨rfl,rfl,rfl,rfl,rfl,rfl,rfl,rfl,rfl⟩,hn,h0,hin,hX⟩,hk⟩:=h
  refine .eq (fa_round0 pan _ _ k i n L F L5 c z s T Sh M Q X) ?_
  refine bd (fun hlt=>?_) (fun hlt=>?_)
  ·have hi:i.int.toNat < L.list.length:=by omega
   have hwi:IntKind.wrap .i64 (i.int + 1)=i.int + 1:=i64_in (by omega) (by have:L.list.length≤maxLen:=ho1.2.2.1.1;unfold maxLen at this;omega)
   have hc:(i.int + 1).toNat=i.int.toNat + 1:=by omega
   rw [drop_cons_at hi,List.map_cons] at hk
   refine dt ⟨h0,by omega⟩ (broom (by unfold room;omega) rfl ?_)
   rw [hwi,hc]
   exact blt (by simp only [U.int_i];omega) ⟨⟨⟨by trivial,by trivial,by trivial,by trivial,by trivial,by trivial,by trivial,by trivial,by trivial⟩,hn,by omega,by omega,by rw [List.length_append,List.length_singleton];omega⟩,by rw [List.append_assoc];exact hk⟩
  ·have hd:L.list.drop i.int.toNat=[]:=List.drop_eq_nil_of_le (by omega)
   rw [hd,List.map_nil,List.append_nil] at hk
   exact hk
 ·exact h.elim
theorem fa_loop2:LoopOk faC 2 (loopBody Try.f15 1):=by
 refine loopOk_of (F:=faLoop2) (ts:=[52,51,50,6,2,9]) (os:=[892,256]) rfl (fun svs _=>match svs with | .val _ i :: .val _ n :: _=>(n.int - i.int).toNat | _=>0) ?_
 intro pan svs os k ho1 ho2 h
 unfold faLoop2 at h
 split at h
 ·rename_i i n L o p q sz t X c z s x1 T x3 Sh x2 M Q
  obtain ⟨⟨⟨hii,rfl,rfl,rfl,rfl,rfl,rfl,rfl⟩,hn,h0,hin,hX⟩,hk⟩:=h
  refine .eq (fa_round2 pan _ _ k i n L sz c z s T Sh M Q X) ?_
  refine bd (fun hlt=>?_) (fun hlt=>?_)
  ·have hi:i.int.toNat < L.list.length:=by omega
   have hwi:IntKind.wrap .i64 (i.int + 1)=i.int + 1:=i64_in (by omega) (by have:L.list.length≤maxLen:=ho1.2.2.1.1;unfold maxLen at this;omega)
   have hc:(i.int + 1).toNat=i.int.toNat + 1:=by omega
   have hcn:flCnts sz.int Q.list i.int (U.at L.list i.int.toNat :: L.list.drop (i.int.toNat + 1))=flCnt sz.int Q.list i.int (U.at L.list i.int.toNat) ++ flCnts sz.int Q.list (i.int + 1) (L.list.drop (i.int.toNat + 1)):=rfl
   rw [drop_cons_at hi,hcn] at hk
   rw [hwi,hc]
   have hxe:nth (.i 0) L.list i.int.toNat=U.at L.list i.int.toNat:=rfl
   have hqe:nth (.i 0) Q.list i.int.toNat=U.at Q.list i.int.toNat:=rfl
   have hie:∀ k:Int,U.l [U.i k,i,U.i 0]=U.l [U.i k,.i i.int,U.i 0]:=fun k=>by rw [← hii]
   rw [hxe,hqe,hie 2,hie 3]
   generalize hx:U.at L.list i.int.toNat=x at hk
   have hr:X.length + 1≤room:=by unfold room;omega
   refine dt ⟨h0,by omega⟩ ?_
   refine bd (fun hs=>?_) (fun hs=>?_)
   ·refine bd (fun hq=>dt ⟨h0,hq⟩ ?_) (fun hq=>?_)
    ·refine bd (fun ha=>broom hr rfl ?_) (fun ha=>bd (fun hb=>broom hr rfl ?_) (fun hb=>?_))
     ·exact blt (by simp only [U.int_i];omega) ⟨⟨⟨by trivial,by trivial,by trivial,by trivial,by trivial,by trivial,by trivial,by trivial⟩,hn,by omega,by omega,by rw [List.length_append,List.length_singleton];omega⟩,by have hY:=(by unfold flCnt;rw [decide_eq_true hs,decide_eq_true hq,cond_true,cond_true,decide_eq_true ha];rfl:flCnt sz.int Q.list i.int x=[.l [.i 2,.i i.int,.i 0]]);rw [hY] at hk;rw [List.append_assoc];exact hk⟩
     ·exact blt (by simp only [U.int_i];omega) ⟨⟨⟨by trivial,by trivial,by trivial,by trivial,by trivial,by trivial,by trivial,by trivial⟩,hn,by omega,by omega,by rw [List.length_append,List.length_singleton];omega⟩,by have hY:=(by unfold flCnt;rw [decide_eq_true hs,decide_eq_true hq,cond_true,cond_true,decide_eq_false ha,decide_eq_true hb];rfl:flCnt sz.int Q.list i.int x=[.l [.i 3,.i i.int,.i 0]]);rw [hY] at hk;rw [List.append_assoc];exact hk⟩
     ·exact blt (by simp only [U.int_i];omega) ⟨⟨⟨by trivial,by trivial,by trivial,by trivial,by trivial,by trivial,by trivial,by trivial⟩,hn,by omega,by omega,by omega⟩,by have hY:=(by unfold flCnt;rw [decide_eq_true hs,decide_eq_true hq,cond_true,cond_true,decide_eq_false ha,decide_eq_false hb];rfl:flCnt sz.int Q.list i.int x=[]);rw [hY] at hk;rw [List.nil_append] at hk;exact hk⟩
    ·exact blt (by simp only [U.int_i];omega) ⟨⟨⟨by trivial,by trivial,by trivial,by trivial,by trivial,by trivial,by trivial,by trivial⟩,hn,by omega,by omega,by omega⟩,by have hY:=(by unfold flCnt;rw [decide_eq_true hs,decide_eq_false hq,cond_true,cond_false];rfl:flCnt sz.int Q.list i.int x=[]);rw [hY] at hk;rw [List.nil_append] at hk;exact hk⟩
   ·refine bd (fun hq=>dt ⟨h0,hq⟩ ?_) (fun hq=>?_)
    ·refine bd (fun ha=>broom hr rfl ?_) (fun ha=>bd (fun hb=>broom hr rfl ?_) (fun hb=>?_))
     ·exact blt (by simp only [U.int_i];omega) ⟨⟨⟨by trivial,by trivial,by trivial,by trivial,by trivial,by trivial,by trivial,by trivial⟩,hn,by omega,by omega,by rw [List.length_append,List.length_singleton];omega⟩,by have hY:=(by unfold flCnt;rw [decide_eq_false hs,decide_eq_true hq,cond_true,cond_false,decide_eq_true ha];rfl:flCnt sz.int Q.list i.int x=[.l [.i 2,.i i.int,.i 0]]);rw [hY] at hk;rw [List.append_assoc];exact hk⟩
     ·exact blt (by simp only [U.int_i];omega) ⟨⟨⟨by trivial,by trivial,by trivial,by trivial,by trivial,by trivial,by trivial,by trivial⟩,hn,by omega,by omega,by rw [List.length_append,List.length_singleton];omega⟩,by have hY:=(by unfold flCnt;rw [decide_eq_false hs,decide_eq_true hq,cond_true,cond_false,decide_eq_false ha,decide_eq_true hb];rfl:flCnt sz.int Q.list i.int x=[.l [.i 3,.i i.int,.i 0]]);rw [hY] at hk;rw [List.append_assoc];exact hk⟩
     ·exact blt (by simp only [U.int_i];omega) ⟨⟨⟨by trivial,by trivial,by trivial,by trivial,by trivial,by trivial,by trivial,by trivial⟩,hn,by omega,by omega,by omega⟩,by have hY:=(by unfold flCnt;rw [decide_eq_false hs,decide_eq_true hq,cond_true,cond_false,decide_eq_false ha,decide_eq_false hb];rfl:flCnt sz.int Q.list i.int x=[]);rw [hY] at hk;rw [List.nil_append] at hk;exact hk⟩
    ·refine bd (fun ha=>broom hr rfl ?_) (fun ha=>bd (fun hb=>broom hr rfl ?_) (fun hb=>?_))
     ·exact blt (by simp only [U.int_i];omega) ⟨⟨⟨by trivial,by trivial,by trivial,by trivial,by trivial,by trivial,by trivial,by trivial⟩,hn,by omega,by omega,by rw [List.length_append,List.length_singleton];omega⟩,by have hY:=(by unfold flCnt;rw [decide_eq_false hs,decide_eq_false hq,cond_false,cond_false,decide_eq_true ha];rfl:flCnt sz.int Q.list i.int x=[.l [.i 2,.i i.int,.i 0]]);rw [hY] at hk;rw [List.append_assoc];exact hk⟩
     ·exact blt (by simp only [U.int_i];omega) ⟨⟨⟨by trivial,by trivial,by trivial,by trivial,by trivial,by trivial,by trivial,by trivial⟩,hn,by omega,by omega,by rw [List.length_append,List.length_singleton];omega⟩,by have hY:=(by unfold flCnt;rw [decide_eq_false hs,decide_eq_false hq,cond_false,cond_false,decide_eq_false ha,decide_eq_true hb];rfl:flCnt sz.int Q.list i.int x=[.l [.i 3,.i i.int,.i 0]]);rw [hY] at hk;rw [List.append_assoc];exact hk⟩
     ·exact blt (by simp only [U.int_i];omega) ⟨⟨⟨by trivial,by trivial,by trivial,by trivial,by trivial,by trivial,by trivial,by trivial⟩,hn,by omega,by omega,by omega⟩,by have hY:=(by unfold flCnt;rw [decide_eq_false hs,decide_eq_false hq,cond_false,cond_false,decide_eq_false ha,decide_eq_false hb];rfl:flCnt sz.int Q.list i.int x=[]);rw [hY] at hk;rw [List.nil_append] at hk;exact hk⟩
  ·have hd:L.list.drop i.int.toNat=[]:=List.drop_eq_nil_of_le (by omega)
   have h1:flCnts sz.int Q.list i.int []=[]:=rfl
   rw [hd,h1,List.append_nil] at hk
   exact hk
 ·exact h.elim
def nU (F Q:U):Int:=bif decide (szU F < (Q.list.length:Int)) then (Q.list.length:Int) else szU F
def okM (c z s T Sh M Q F:U):List U:=linesOf (.i (-1)) (woU c z s T Sh M Q F).1 ++ shotLines 0 (woU c z s T Sh M Q F).2
def faV (c z s T Sh M Q F:U):List U:=(bdU c z s T Sh M Q F).map flBad ++ flCnts (szU F) Q.list 0 (ofV (okM c z s T Sh M Q F) (nU F Q).toNat)
def faS:List (List U)→List (List U):=fun us=>match us with
 | [[c,z,s,T,Sh,M,Q],[F]]=>[[.l (bif metaR c z s T Sh M Q then faV c z s T Sh M Q F else [])]]
 | _=>[]
def mgP (T Sh:U):Prop:=T.list.length≤1099511627776∧∀ x,x ∈ Sh.list→(shT x).list.length≤1099511627776
def faP:List (List U)→Prop:=fun us=>mgP (nth (.i 0) (nth [] us 0) 3) (nth (.i 0) (nth [] us 0) 4)
theorem whU_len (F:U):(whU F).length≤1048576:=by unfold whU;rw [List.length_take];omega
theorem szU_in (F:U):0≤szU F∧szU F≤65536:=by
 have h:=whU_len F
 have e:szU F=((whU F).length:Int) / 16:=by
  unfold szU
  rw [Int.tdiv_eq_ediv_of_nonneg (by omega)]
  exact i64_in (by omega) (by omega)
 omega
theorem nU_in {F Q:U} (h:Q.list.length≤65536):0≤nU F Q∧nU F Q≤65536:=by
 have:=szU_in F
 unfold nU
 by_cases h1:szU F < (Q.list.length:Int)
 ·rw [decide_eq_true h1,cond_true];omega
 ·rw [decide_eq_false h1,cond_false];omega
theorem ofV_len (L:List U) (n:Nat):(ofV L n).length=n:=by unfold ofV;rw [List.length_map,List.length_range]
theorem fa_ok:SpecFP PR 15 faP faS:=fun fn us hfn hpre=>by
 have hf:PR.funcs[(15:Nat)]? = some Try.f15:=by kernel_rfl
 rw [hf] at hfn;cases hfn
 refine fn_okH (C:=faC) (mkC_ok eqs0_ok mixed_ok (.cons meta_ok (.cons whole_ok (.consP bad_ok (.consP of_ok .nil)))) (.cons wo_ok .nil)) hf (by kernel_rfl) (loops_two (by kernel_rfl) fa_loop0 fa_loop2) fun hok=>?_
 have hp:Try.f15.params.toList=[41,25]:=by kernel_rfl
 rw [hp] at hok
 obtain ⟨u,u2,rfl,h1,h2⟩:=shape2 (by kernel_rfl:Cs PR 41=some (true,[.int .i64,.int .i64,.str,.sl false [.sl true EC],.sl true SC,.sl true BC,.sl false [.int .i64]])) (by kernel_rfl:Cs PR 25=some (false,[.sl false [.int .u8]])) hok.1
 obtain ⟨c,z,s,T,Sh,M,Q,rfl⟩:∃ a b c d e f g,u=[a,b,c,d,e,f,g]:=match u,h1 with | [a,b,c,d,e,f,g],_=>⟨a,b,c,d,e,f,g,rfl⟩
 obtain ⟨F,rfl⟩:=len1 h2
 clear hok h1 h2
 have hpre:mgP T Sh:=hpre
 refine .eq (fa_tree _ c z s T Sh M Q F) ?_
 rw [show faS [[c,z,s,T,Sh,M,Q],[F]]=[[.l (bif metaR c z s T Sh M Q then faV c z s T Sh M Q F else [])]] from rfl]
 refine bi (fun hr=>by rw [nt hr];rfl) (fun hr=>?_)
 rw [nf hr,cond_true]
 obtain ⟨hG,hQ,_⟩:=GM.of_right (nf hr) hpre.1 hpre.2
 obtain ⟨b1,b2⟩:=GM.bad (F:=whU F) (c:=c.int) hG
 have hbe:bdU c z s T Sh M Q F=(badL (whU F) c.int (linesOf (.i (-1)) T.list ++ shotLines 0 Sh.list)).1:=rfl
 rw [← hbe] at b1 b2
 have i0:inFit (U.i 0).int:=⟨by decide,by decide⟩
 obtain ⟨hW,hWl⟩:=GM.wo (a:=.i 1) (e:=.i 0) (g:=.i 0) i0 i0 hG b2
 have hwe:woU c z s T Sh M Q F=woOf (.i 1) (.i 0) (.i 0) (.i 0) (.i 0) T.list Sh.list (bdU c z s T Sh M Q F):=rfl
 rw [← hwe] at hW hWl
 obtain ⟨n0,n1⟩:=nU_in (F:=F) hQ
 have hne:(bif decide (szU F < (Q.list.length:Int)) then (Q.list.length:Int) else szU F)=nU F Q:=rfl
 have hlm:linesM [[c,z,s,.l (woU c z s T Sh M Q F).1,.l (woU c z s T Sh M Q F).2,M,Q],[.i (nU F Q)]]=okM c z s T Sh M Q F:=rfl
 rw [hne,hlm,decide_eq_false (by omega:¬ nU F Q < 0),decide_eq_false (by omega:¬ 65536 < nU F Q)]
 simp only [cond_false,ofV_len,Int.toNat_zero,List.drop_zero,List.nil_append,List.length_map]
 refine ⟨⟨hG.each.1,?_⟩,⟨⟨by trivial,by trivial,by trivial,by trivial,by trivial,by trivial,by trivial,by trivial,by trivial⟩,by trivial,by omega,by omega,by omega⟩,⟨⟨by trivial,by trivial,by trivial,by trivial⟩,by omega,hG.ok b2⟩,⟨hW.each.1,hW.fit⟩,⟨⟨by trivial,by trivial,by trivial,by trivial,by trivial,by trivial,by trivial,by trivial⟩,by trivial,by omega,by omega,by omega⟩,rfl⟩
 have:=hG.each.2
 show (linesOf (.i (-1)) T.list ++ shotLines 0 Sh.list).length≤536870912
 omega
end Go.Mat

namespace Go.Mat
open Go Go.Den Go.Proofs
theorem ofT_tree (R:RT) (c z s T S M Q n:U):(runD ofC Try.f40 [.agg [vi c,vi z,vs s,.val TRC T,vt SC S,vt BC M,vl (.int .i64) Q],vi n] [] R)=(bif decide (n.int < 0) then R (Out.ret [.own 2097152]) [(2097152,.arr 3 [])] else bif decide (n.int > 65536) then R (Out.ret [.own 2097152]) [(2097152,.arr 3 [])] else bif decide ((0:Int)≤n.int∧n.int≤n.int∧n.int≤(↑room:Int)) then (2558=nat_lit 2558∧nat_lit 3=nat_lit 3∧EC=EC∧[Ct.str,.int .i64,Ct.sl false [Ct.sl true EC]]=[.str,.int .i64,Ct.sl false [.sl true EC]]∧[Ct.str,Ct.bool,Ct.sl true [.int .i64,.int .i64]]=[.str,Ct.bool,Ct.sl true [.int .i64,.int .i64]]∧nat_lit 256=nat_lit 256∧nat_lit 0=nat_lit 0∧(0:Int)≤0∧(bif decide ((2:Int) < n.int) then (2:Int) else n.int)≤(↑(List.length (List.replicate (Int.toNat n.int) (U.i 0))):Int)∧List.length (List.replicate (Int.toNat n.int) (U.i 0))≤(65536:Nat)∧nrmR (List.replicate (Int.toNat n.int) (U.i 0))∧bndR 1000 (List.drop (Int.toNat 0) (List.replicate (Int.toNat n.int) (U.i 0)))=true)∧eachP [[c,z,s,T,S,M,Q]]∧(2558=nat_lit 2558∧nat_lit 3=nat_lit 3∧LNC=LNC∧(↑(List.length (linesOf (U.i (-1:Int)) T.list ++ shotLines 0 S.list)):Int)=(↑(List.length (linesOf (U.i (-1:Int)) T.list ++ shotLines 0 S.list)):Int)∧(0:Int)≤0∧(0:Int)≤(↑(List.length (linesOf (U.i (-1:Int)) T.list ++ shotLines 0 S.list)):Int)∧List.length (linesOf (U.i (-1:Int)) T.list ++ shotLines 0 S.list)≤(1073741824:Nat)∧n.int=(↑(List.length (addR (inI 0 (bif decide ((2:Int) < n.int) then (2:Int) else n.int)) (0:Nat) (List.replicate (Int.toNat n.int) (U.i 0)))):Int)∧List.length (addR (inI 0 (bif decide ((2:Int) < n.int) then (2:Int) else n.int)) (0:Nat) (List.replicate (Int.toNat n.int) (U.i 0)))≤(65536:Nat)∧nrmR (addR (inI 0 (bif decide ((2:Int) < n.int) then (2:Int) else n.int)) (0:Nat) (List.replicate (Int.toNat n.int) (U.i 0)))∧fitL (List.drop (Int.toNat 0) (linesOf (U.i (-1:Int)) T.list ++ shotLines 0 S.list))=true∧bndR ((1:Int) + 0) (addR (inI 0 (bif decide ((2:Int) < n.int) then (2:Int) else n.int)) (0:Nat) (List.replicate (Int.toNat n.int) (U.i 0)))=true)∧R (Out.ret [.own 2097152]) [(2097152,.arr 3 (addR (coverR (List.drop (Int.toNat 0) (linesOf (U.i (-1:Int)) T.list ++ shotLines 0 S.list))) (0:Nat) (addR (inI 0 (bif decide ((2:Int) < n.int) then (2:Int) else n.int)) (0:Nat) (List.replicate (Int.toNat n.int) (U.i 0)))))] else False):=by kernel_rfl
noncomputable def ofF:Tr:=fun args objs k=>match args,objs with
 | [.agg [.val (.int .i64) c,.val (.int .i64) z,.val .str s,.val (.sl false [.sl true x1]) T,.val (.sl true x3) S,.val (.sl true x2) M,.val (.sl false [.int .i64]) Q],.val (.int .i64) n],[]=>
  ((x1=EC∧x3=SC∧x2=BC)∧(0≤n.int∧n.int≤65536)∧ofP [[c,z,s,T,S,M,Q],[n]])∧
  k (.ret [.own 2097152]) [(2097152,.arr 3 (ofV (linesM [[c,z,s,T,S,M,Q],[n]]) n.int.toNat))]
 | _,_=>False
end Go.Mat

namespace Go.Mat
open Go Go.Den Go.Proofs
set_option maxRecDepth 100000
theorem of_val (L:List U) (m:Nat):addR (coverR L) 0 (addR (inI 0 (bif decide ((2:Int) < (m:Int)) then (2:Int) else (m:Int))) 0 (List.replicate m (.i 0)))=ofV L m:=by
 rw [addR_add,addR_rep]
 unfold ofV
 rw [List.range_eq_range']
 refine List.map_congr_left fun k hk=>?_
 have hk:k < m:=by
  have:=List.mem_range'_1.1 hk
  omega
 congr 2
 unfold inI
 rw [decide_eq_true (by omega:(0:Int)≤(k:Int))]
 by_cases h2:(2:Int) < m
 ·rw [decide_eq_true h2]
  simp only [cond_true,Bool.true_and]
  by_cases h:k < 2
  ·rw [if_pos h,decide_eq_true (by omega:(k:Int) < 2)];rfl
  ·rw [if_neg h,decide_eq_false (by omega:¬ (k:Int) < 2)];rfl
 ·rw [decide_eq_false h2]
  simp only [cond_false,Bool.true_and]
  rw [if_pos (by omega),decide_eq_true (by omega:(k:Int) < (m:Int))];rfl
theorem ofT_ok:SpecT PR 40 ofF:=fun fn hfn=>by
 have hf:PR.funcs[(40:Nat)]? = some Try.f40:=by kernel_rfl
 rw [hf] at hfn;cases hfn
 refine fnT_okH (C:=ofC) (mkC_ok eqs0_ok mixed_ok (.consP each_ok .nil) .nil) hf (by kernel_rfl) (loops_three (by kernel_rfl) of_loop0 of_loop2 of_loop4) fun vs objs R h1 h2 h=>?_
 clear h1 h2
 unfold ofF at h
 split at h
 ·rename_i c sz bk x1 T x3 S x2 M Q n
  obtain ⟨⟨⟨rfl,rfl,rfl⟩,⟨hn0,hn1⟩,hpre⟩,hk⟩:=h
  obtain ⟨hE,hfit⟩:=hpre
  obtain ⟨e1,e2,e3⟩:T.list.length≤65536∧S.list.length≤1000∧shotsFit S.list=true:=hE
  have hfit:fitL (linesOf (.i (-1)) T.list ++ shotLines 0 S.list)=true:=hfit
  have hlen:(linesOf (.i (-1)) T.list ++ shotLines 0 S.list).length≤1073741824:=by
   have h1:=linesOf_len (.i (-1)) T.list
   have h2:=shotLines_len 0 S.list e3
   rw [List.length_append]
   omega
  refine .eq (ofT_tree _ c sz bk T S M Q n) ?_
  have hle:linesM [[c,sz,bk,T,S,M,Q],[n]]=linesOf (.i (-1)) T.list ++ shotLines 0 S.list:=rfl
  rw [hle] at hk
  generalize linesOf (.i (-1)) T.list ++ shotLines 0 S.list=L at hfit hlen hk
  refine bd (fun h1=>absurd h1 (by omega)) (fun h1=>bd (fun h2=>absurd h2 (by omega)) (fun h2=>?_))
  obtain ⟨m,hm⟩:∃ m:Nat,n.int=(m:Int):=⟨n.int.toNat,by omega⟩
  rw [hm,Int.toNat_natCast] at hk
  simp only [Int.toNat_zero,List.drop_zero,hm,Int.toNat_natCast,List.length_replicate,addR_len]
  refine dt ⟨by omega,by omega,by unfold room;omega⟩ ⟨⟨by trivial,by trivial,by trivial,by trivial,by trivial,by trivial,by trivial,by omega,?_,by omega,?_,?_⟩,⟨e1,e2,e3⟩,⟨by trivial,by trivial,by trivial,by trivial,by omega,by omega,hlen,by trivial,by omega,nrm_add _ _,hfit,?_⟩,?_⟩
  ·by_cases h:(2:Int) < m
   ·rw [decide_eq_true h];simp only [cond_true];omega
   ·rw [decide_eq_false h];simp only [cond_false];omega
  ·unfold nrmR
   rw [addR_rep,List.map_const',List.length_range']
  ·refine List.all_eq_true.2 fun x hx=>?_
   rw [(List.mem_replicate.1 hx).2]
   rfl
  ·rw [Int.add_zero,show (1:Int)=0 + 1 from rfl]
   refine bnd_add 0 _ (List.all_eq_true.2 fun x hx=>?_) fun j=>inI_01 _ _ j
   rw [(List.mem_replicate.1 hx).2]
   rfl
  ·rw [of_val];exact hk
 ·exact h.elim
end Go.Mat

namespace Go.Mat
open Go Go.Den Go.Proofs
def mpSet (x:U):U:=.l (patchU x.list 2 [.l (nth (.i 0) x.list.tail.tail 0).list])
def mpL (x:U):List U:=(nth (.i 0) x.list.tail.tail 0).list
noncomputable def mdLoop0:LoopF:=fun _ svs os k=>match svs,os with
 | [.val (.int .i64) i,.val (.int .i64) n,.ptr p q,.val (.sl false [.int .u8]) F,.ptr p4 q4],[.box [.val (.int .i64) c,.val (.int .i64) z,.val .str s,.val (.sl false [.sl true x1]) T,.own o,.val (.sl true x2) M,.val (.sl false [.int .i64]) Q],.arr t X,
   .box [.val (.int .i64) r1,.val (.int .i64) r2,.val .str r3,.own o1,.own o2,.own o3,.own o4],.arr t4 [],.arr t3 [],.arr t2 [],.arr t1 []]=>
  ((p=256∧q=0∧p4=512∧q4=0∧x1=EC∧o=2448∧x2=BC∧t=73)∧(o1=520∧o2=522∧o3=524∧o4=526∧t4=3∧t3=77∧t2=73∧t1=64)∧
    n.int=(X.length:Int)∧0≤i.int∧i.int≤n.int∧X.length≤1073741824∧∀ x,x ∈ X.drop i.int.toNat→tabP (shT x).list)∧
  k (.exit 0) ⟨[(2,.ptr 256 0),(1,.val (.sl false [.int .u8]) F),(4,.ptr 512 0)],[(256,.box [vi c,vi z,vs s,.val TRC T,.own 2448,vt BC M,vl (.int .i64) Q]),(2448,.arr 73 (X.take i.int.toNat ++ (X.drop i.int.toNat).map fun x=>shSet x (shT x).list)),
   (512,.box [vi r1,vi r2,vs r3,.own 520,.own 522,.own 524,.own 526]),(526,.arr 3 []),(524,.arr 77 []),(522,.arr 73 []),(520,.arr 64 [])]⟩
 | _,_=>False
noncomputable def mdLoop2:LoopF:=fun _ svs os k=>match svs,os with
 | [.val (.int .i64) i,.val (.int .i64) n,.ptr p q,.val (.sl false [.int .u8]) F,.ptr p4 q4],[.box [.val (.int .i64) c,.val (.int .i64) z,.val .str s,.val (.sl false [.sl true x1]) T,.own o,.own o5,.val (.sl false [.int .i64]) Q],.arr t X,.arr t5 Y,
   .box [.val (.int .i64) r1,.val (.int .i64) r2,.val .str r3,.own o1,.own o2,.own o3,.own o4],.arr t4 [],.arr t3 [],.arr t2 [],.arr t1 []]=>
  ((p=256∧q=0∧p4=512∧q4=0∧x1=EC∧o=2448∧o5=5264∧t=73∧t5=77)∧(o1=520∧o2=522∧o3=524∧o4=526∧t4=3∧t3=77∧t2=73∧t1=64)∧
    n.int=(Y.length:Int)∧0≤i.int∧i.int≤n.int∧Y.length≤1073741824∧∀ x,x ∈ Y.drop i.int.toNat→(mpL x).length≤1073741824)∧
  k (.exit 2) ⟨[(2,.ptr 256 0),(1,.val (.sl false [.int .u8]) F),(4,.ptr 512 0)],[(256,.box [vi c,vi z,vs s,.val TRC T,.own 2448,.own 5264,vl (.int .i64) Q]),(2448,.arr 73 X),(5264,.arr 77 (Y.take i.int.toNat ++ (Y.drop i.int.toNat).map mpSet)),
   (512,.box [vi r1,vi r2,vs r3,.own 520,.own 522,.own 524,.own 526]),(526,.arr 3 []),(524,.arr 77 []),(522,.arr 73 []),(520,.arr 64 [])]⟩
 | _,_=>False
noncomputable def mdC:Ctx:=mkC PR eqs0 (fnsCons 37 metaS (fnsCons 38 wholeS (fnsConsP 39 badP badS (fnsConsP 42 cutP copyS fnsNil))))
 (trsCons 41 [] woF (trsCons 43 [] (cloneF BC 77) (trsCons 44 [] (frzT PR [2097152] (cloneF [.int .i64,.int .i64] 81)) (trsCons 40 [] ofF trsNil))))
 (loopCons 0 [23,22,2,1,4] [256,2448,512,526,524,522,520] mdLoop0 (loopCons 2 [46,45,2,1,4] [256,2448,5264,512,526,524,522,520] mdLoop2 noLoops)) (outCons 0 [2,1,4] [256,2448,512,526,524,522,520] (outCons 2 [2,1,4] [256,2448,5264,512,526,524,522,520] noOut)) noOut
theorem md_round0 (pan:KP) (μ:Mu) (N:Nat) (k:KE) (i n F c z s T M Q r1 r2 r3:U) (X:List U):(exec (mdC.panics pan) (loopBody Try.f16 0) 0 ⟨[(23,vi i),(22,vi n),(2,.ptr 256 0),(1,.val (.sl false [.int .u8]) F),(4,.ptr 512 0)],[(256,.box [vi c,vi z,vs s,.val TRC T,.own 2448,vt BC M,vl (.int .i64) Q]),(2448,.arr 73 X),(512,.box [vi r1,vi r2,vs r3,.own 520,.own 522,.own 524,.own 526]),(526,.arr 3 []),(524,.arr 77 []),(522,.arr 73 []),(520,.arr 64 [])]⟩ (again PR (some ([2,1,4],[256,2448,512,526,524,522,520])) none pan [23,22,2,1,4] [256,2448,512,526,524,522,520] mdLoop0 μ N k))=(bif decide (i.int < n.int) then Alt (bif decide ((0:Int)≤i.int∧i.int < (X.length:Int)) then bif Nat.blt (Int.toNat i.int) (List.length X) then cutP [[nth (U.i 0) (List.tail (List.tail (U.list (nth (U.i 0) X (Int.toNat i.int))))) (0:Nat)],[U.i 4096]]∧bif decide ((0:Int)≤i.int∧i.int < (X.length:Int)) then bif Nat.blt (Int.toNat i.int) (List.length X) then bif Nat.blt (μ [vi (U.i (IntKind.wrap .i64 (i.int + 1))),vi n,.ptr 256 0,.val (.sl false [.int .u8]) F,.ptr 512 0] [.box [vi c,vi z,.val .str s,.val (.sl false [.sl true EC]) T,.own 2448,.val (.sl true [.str,Ct.bool,Ct.sl true PPC]) M,.val (.sl false [.int .i64]) Q],.arr 73 (List.set X (Int.toNat i.int) (U.l (patchU (U.list (nth (U.i 0) X (Int.toNat i.int))) 2 [U.l (U.list (nth (U.i 0) (List.tail (List.tail (U.list (nth (U.i 0) X (Int.toNat i.int))))) (0:Nat)))]))),.box [vi r1,vi r2,.val .str r3,.own 520,.own 522,.own 524,.own 526],.arr 3 [],.arr 77 [],.arr 73 [],.arr 64 []]) N then ((256=nat_lit 256∧nat_lit 0=nat_lit 0∧nat_lit 512=nat_lit 512∧nat_lit 0=nat_lit 0∧EC=EC∧nat_lit 2448=nat_lit 2448∧[Ct.str,Ct.bool,Ct.sl true PPC]=[.str,Ct.bool,Ct.sl true PPC]∧nat_lit 73=nat_lit 73)∧(520=nat_lit 520∧nat_lit 522=nat_lit 522∧nat_lit 524=nat_lit 524∧nat_lit 526=nat_lit 526∧nat_lit 3=nat_lit 3∧nat_lit 77=nat_lit 77∧nat_lit 73=nat_lit 73∧nat_lit 64=nat_lit 64)∧n.int=(↑(List.length (List.set X (Int.toNat i.int) (U.l (patchU (U.list (nth (U.i 0) X (Int.toNat i.int))) 2 [U.l (U.list (nth (U.i 0) (List.tail (List.tail (U.list (nth (U.i 0) X (Int.toNat i.int))))) (0:Nat)))])))):Int)∧(0:Int)≤IntKind.wrap .i64 (i.int + 1)∧IntKind.wrap .i64 (i.int + 1)≤n.int∧List.length (List.set X (Int.toNat i.int) (U.l (patchU (U.list (nth (U.i 0) X (Int.toNat i.int))) 2 [U.l (U.list (nth (U.i 0) (List.tail (List.tail (U.list (nth (U.i 0) X (Int.toNat i.int))))) (0:Nat)))])))≤(1073741824:Nat)∧∀ (x:U),x ∈ List.drop (Int.toNat (IntKind.wrap .i64 (i.int + 1))) (List.set X (Int.toNat i.int) (U.l (patchU (U.list (nth (U.i 0) X (Int.toNat i.int))) 2 [U.l (U.list (nth (U.i 0) (List.tail (List.tail (U.list (nth (U.i 0) X (Int.toNat i.int))))) (0:Nat)))])))→tabP (U.list (shT x)))∧k (Ex.exit 0) (St.mk [(2,.ptr 256 0),(1,.val (.sl false [.int .u8]) F),(4,.ptr 512 0)] [(256,.box [vi c,vi z,.val .str s,.val (.sl false [.sl true EC]) T,.own 2448,.val (.sl true [.str,Ct.bool,Ct.sl true PPC]) M,.val (.sl false [.int .i64]) Q]),(2448,.arr 73 (List.take (Int.toNat (IntKind.wrap .i64 (i.int + 1))) (List.set X (Int.toNat i.int) (U.l (patchU (U.list (nth (U.i 0) X (Int.toNat i.int))) 2 [U.l (U.list (nth (U.i 0) (List.tail (List.tail (U.list (nth (U.i 0) X (Int.toNat i.int))))) (0:Nat)))]))) ++ List.map (fun x=>shSet x (U.list (shT x))) (List.drop (Int.toNat (IntKind.wrap .i64 (i.int + 1))) (List.set X (Int.toNat i.int) (U.l (patchU (U.list (nth (U.i 0) X (Int.toNat i.int))) 2 [U.l (U.list (nth (U.i 0) (List.tail (List.tail (U.list (nth (U.i 0) X (Int.toNat i.int))))) (0:Nat)))])))))),(512,.box [vi r1,vi r2,.val .str r3,.own 520,.own 522,.own 524,.own 526]),(526,.arr 3 []),(524,.arr 77 []),(522,.arr 73 []),(520,.arr 64 [])]) else False else False else False else False else False) (bif decide ((0:Int)≤i.int∧i.int < (X.length:Int)) then Alt (bif Nat.blt (Int.toNat i.int) (List.length X) then cutP [[nth (U.i 0) (List.tail (List.tail (U.list (nth (U.i 0) X (Int.toNat i.int))))) (0:Nat)],[U.i 4096]]∧bif decide ((0:Int)≤i.int∧i.int < (X.length:Int)) then bif Nat.blt (Int.toNat i.int) (List.length X) then bif Nat.blt (μ [vi (U.i (IntKind.wrap .i64 (i.int + 1))),vi n,.ptr 256 0,.val (.sl false [.int .u8]) F,.ptr 512 0] [.box [vi c,vi z,.val .str s,.val (.sl false [.sl true EC]) T,.own 2448,.val (.sl true [.str,Ct.bool,Ct.sl true PPC]) M,.val (.sl false [.int .i64]) Q],.arr 73 (List.set X (Int.toNat i.int) (U.l (patchU (U.list (nth (U.i 0) X (Int.toNat i.int))) 2 [U.l (U.list (nth (U.i 0) (List.tail (List.tail (U.list (nth (U.i 0) X (Int.toNat i.int))))) (0:Nat)))]))),.box [vi r1,vi r2,.val .str r3,.own 520,.own 522,.own 524,.own 526],.arr 3 [],.arr 77 [],.arr 73 [],.arr 64 []]) N then ((256=nat_lit 256∧nat_lit 0=nat_lit 0∧nat_lit 512=nat_lit 512∧nat_lit 0=nat_lit 0∧EC=EC∧nat_lit 2448=nat_lit 2448∧[Ct.str,Ct.bool,Ct.sl true PPC]=[.str,Ct.bool,Ct.sl true PPC]∧nat_lit 73=nat_lit 73)∧(520=nat_lit 520∧nat_lit 522=nat_lit 522∧nat_lit 524=nat_lit 524∧nat_lit 526=nat_lit 526∧nat_lit 3=nat_lit 3∧nat_lit 77=nat_lit 77∧nat_lit 73=nat_lit 73∧nat_lit 64=nat_lit 64)∧n.int=(↑(List.length (List.set X (Int.toNat i.int) (U.l (patchU (U.list (nth (U.i 0) X (Int.toNat i.int))) 2 [U.l (U.list (nth (U.i 0) (List.tail (List.tail (U.list (nth (U.i 0) X (Int.toNat i.int))))) (0:Nat)))])))):Int)∧(0:Int)≤IntKind.wrap .i64 (i.int + 1)∧IntKind.wrap .i64 (i.int + 1)≤n.int∧List.length (List.set X (Int.toNat i.int) (U.l (patchU (U.list (nth (U.i 0) X (Int.toNat i.int))) 2 [U.l (U.list (nth (U.i 0) (List.tail (List.tail (U.list (nth (U.i 0) X (Int.toNat i.int))))) (0:Nat)))])))≤(1073741824:Nat)∧∀ (x:U),x ∈ List.drop (Int.toNat (IntKind.wrap .i64 (i.int + 1))) (List.set X (Int.toNat i.int) (U.l (patchU (U.list (nth (U.i 0) X (Int.toNat i.int))) 2 [U.l (U.list (nth (U.i 0) (List.tail (List.tail (U.list (nth (U.i 0) X (Int.toNat i.int))))) (0:Nat)))])))→tabP (U.list (shT x)))∧k (Ex.exit 0) (St.mk [(2,.ptr 256 0),(1,.val (.sl false [.int .u8]) F),(4,.ptr 512 0)] [(256,.box [vi c,vi z,.val .str s,.val (.sl false [.sl true EC]) T,.own 2448,.val (.sl true [.str,Ct.bool,Ct.sl true PPC]) M,.val (.sl false [.int .i64]) Q]),(2448,.arr 73 (List.take (Int.toNat (IntKind.wrap .i64 (i.int + 1))) (List.set X (Int.toNat i.int) (U.l (patchU (U.list (nth (U.i 0) X (Int.toNat i.int))) 2 [U.l (U.list (nth (U.i 0) (List.tail (List.tail (U.list (nth (U.i 0) X (Int.toNat i.int))))) (0:Nat)))]))) ++ List.map (fun x=>shSet x (U.list (shT x))) (List.drop (Int.toNat (IntKind.wrap .i64 (i.int + 1))) (List.set X (Int.toNat i.int) (U.l (patchU (U.list (nth (U.i 0) X (Int.toNat i.int))) 2 [U.l (U.list (nth (U.i 0) (List.tail (List.tail (U.list (nth (U.i 0) X (Int.toNat i.int))))) (0:Nat)))])))))),(512,.box [vi r1,vi r2,.val .str r3,.own 520,.own 522,.own 524,.own 526]),(526,.arr 3 []),(524,.arr 77 []),(522,.arr 73 []),(520,.arr 64 [])]) else False else False else False else False) (bif Nat.blt (Int.toNat i.int) (List.length X) then (fun T=>Alt T T) (cutP [[nth (U.i 0) (List.tail (List.tail (U.list (nth (U.i 0) X (Int.toNat i.int))))) (0:Nat)],[U.i 4096]]∧bif decide ((0:Int)≤i.int∧i.int < (X.length:Int)) then bif Nat.blt (Int.toNat i.int) (List.length X) then bif Nat.blt (μ [vi (U.i (IntKind.wrap .i64 (i.int + 1))),vi n,.ptr 256 0,.val (.sl false [.int .u8]) F,.ptr 512 0] [.box [vi c,vi z,.val .str s,.val (.sl false [.sl true EC]) T,.own 2448,.val (.sl true [.str,Ct.bool,Ct.sl true PPC]) M,.val (.sl false [.int .i64]) Q],.arr 73 (List.set X (Int.toNat i.int) (U.l (patchU (U.list (nth (U.i 0) X (Int.toNat i.int))) 2 [U.l (U.list (nth (U.i 0) (List.tail (List.tail (U.list (nth (U.i 0) X (Int.toNat i.int))))) (0:Nat)))]))),.box [vi r1,vi r2,.val .str r3,.own 520,.own 522,.own 524,.own 526],.arr 3 [],.arr 77 [],.arr 73 [],.arr 64 []]) N then ((256=nat_lit 256∧nat_lit 0=nat_lit 0∧nat_lit 512=nat_lit 512∧nat_lit 0=nat_lit 0∧EC=EC∧nat_lit 2448=nat_lit 2448∧[Ct.str,Ct.bool,Ct.sl true PPC]=[.str,Ct.bool,Ct.sl true PPC]∧nat_lit 73=nat_lit 73)∧(520=nat_lit 520∧nat_lit 522=nat_lit 522∧nat_lit 524=nat_lit 524∧nat_lit 526=nat_lit 526∧nat_lit 3=nat_lit 3∧nat_lit 77=nat_lit 77∧nat_lit 73=nat_lit 73∧nat_lit 64=nat_lit 64)∧n.int=(↑(List.length (List.set X (Int.toNat i.int) (U.l (patchU (U.list (nth (U.i 0) X (Int.toNat i.int))) 2 [U.l (U.list (nth (U.i 0) (List.tail (List.tail (U.list (nth (U.i 0) X (Int.toNat i.int))))) (0:Nat)))])))):Int)∧(0:Int)≤IntKind.wrap .i64 (i.int + 1)∧IntKind.wrap .i64 (i.int + 1)≤n.int∧List.length (List.set X (Int.toNat i.int) (U.l (patchU (U.list (nth (U.i 0) X (Int.toNat i.int))) 2 [U.l (U.list (nth (U.i 0) (List.tail (List.tail (U.list (nth (U.i 0) X (Int.toNat i.int))))) (0:Nat)))])))≤(1073741824:Nat)∧∀ (x:U),x ∈ List.drop (Int.toNat (IntKind.wrap .i64 (i.int + 1))) (List.set X (Int.toNat i.int) (U.l (patchU (U.list (nth (U.i 0) X (Int.toNat i.int))) 2 [U.l (U.list (nth (U.i 0) (List.tail (List.tail (U.list (nth (U.i 0) X (Int.toNat i.int))))) (0:Nat)))])))→tabP (U.list (shT x)))∧k (Ex.exit 0) (St.mk [(2,.ptr 256 0),(1,.val (.sl false [.int .u8]) F),(4,.ptr 512 0)] [(256,.box [vi c,vi z,.val .str s,.val (.sl false [.sl true EC]) T,.own 2448,.val (.sl true [.str,Ct.bool,Ct.sl true PPC]) M,.val (.sl false [.int .i64]) Q]),(2448,.arr 73 (List.take (Int.toNat (IntKind.wrap .i64 (i.int + 1))) (List.set X (Int.toNat i.int) (U.l (patchU (U.list (nth (U.i 0) X (Int.toNat i.int))) 2 [U.l (U.list (nth (U.i 0) (List.tail (List.tail (U.list (nth (U.i 0) X (Int.toNat i.int))))) (0:Nat)))]))) ++ List.map (fun x=>shSet x (U.list (shT x))) (List.drop (Int.toNat (IntKind.wrap .i64 (i.int + 1))) (List.set X (Int.toNat i.int) (U.l (patchU (U.list (nth (U.i 0) X (Int.toNat i.int))) 2 [U.l (U.list (nth (U.i 0) (List.tail (List.tail (U.list (nth (U.i 0) X (Int.toNat i.int))))) (0:Nat)))])))))),(512,.box [vi r1,vi r2,.val .str r3,.own 520,.own 522,.own 524,.own 526]),(526,.arr 3 []),(524,.arr 77 []),(522,.arr 73 []),(520,.arr 64 [])]) else False else False else False) else False) else False) else k (Ex.exit 0) (St.mk [(2,.ptr 256 0),(1,.val (.sl false [.int .u8]) F),(4,.ptr 512 0)] [(256,.box [vi c,vi z,.val .str s,.val (.sl false [.sl true EC]) T,.own 2448,.val (.sl true [.str,Ct.bool,Ct.sl true PPC]) M,.val (.sl false [.int .i64]) Q]),(2448,.arr 73 X),(512,.box [vi r1,vi r2,.val .str r3,.own 520,.own 522,.own 524,.own 526]),(526,.arr 3 []),(524,.arr 77 []),(522,.arr 73 []),(520,.arr 64 [])])):=by kernel_rfl
theorem md_round2 (pan:KP) (μ:Mu) (N:Nat) (k:KE) (i n F c z s T Q r1 r2 r3:U) (X Y:List U):(exec (mdC.panics pan) (loopBody Try.f16 1) 2 ⟨[(46,vi i),(45,vi n),(2,.ptr 256 0),(1,.val (.sl false [.int .u8]) F),(4,.ptr 512 0)],[(256,.box [vi c,vi z,vs s,.val TRC T,.own 2448,.own 5264,vl (.int .i64) Q]),(2448,.arr 73 X),(5264,.arr 77 Y),(512,.box [vi r1,vi r2,vs r3,.own 520,.own 522,.own 524,.own 526]),(526,.arr 3 []),(524,.arr 77 []),(522,.arr 73 []),(520,.arr 64 [])]⟩ (again PR (some ([2,1,4],[256,2448,5264,512,526,524,522,520])) none pan [46,45,2,1,4] [256,2448,5264,512,526,524,522,520] mdLoop2 μ N k))=(bif decide (i.int < n.int) then Alt (bif decide ((0:Int)≤i.int∧i.int < (Y.length:Int)) then bif Nat.blt (Int.toNat i.int) (List.length Y) then (PPC=PPC∧List.length (U.list (nth (U.i 0) (List.tail (List.tail (U.list (nth (U.i 0) Y (Int.toNat i.int))))) (0:Nat)))≤(1073741824:Nat))∧bif decide ((0:Int)≤i.int∧i.int < (Y.length:Int)) then bif Nat.blt (Int.toNat i.int) (List.length Y) then bif Nat.blt (μ [vi (U.i (IntKind.wrap .i64 (i.int + 1))),vi n,.ptr 256 0,.val (.sl false [.int .u8]) F,.ptr 512 0] [.box [vi c,vi z,.val .str s,.val (.sl false [.sl true EC]) T,.own 2448,.own 5264,.val (.sl false [.int .i64]) Q],.arr 73 X,.arr 77 (List.set Y (Int.toNat i.int) (U.l (patchU (U.list (nth (U.i 0) Y (Int.toNat i.int))) 2 [U.l (U.list (nth (U.i 0) (List.tail (List.tail (U.list (nth (U.i 0) Y (Int.toNat i.int))))) (0:Nat)))]))),.box [vi r1,vi r2,.val .str r3,.own 520,.own 522,.own 524,.own 526],.arr 3 [],.arr 77 [],.arr 73 [],.arr 64 []]) N then ((256=nat_lit 256∧nat_lit 0=nat_lit 0∧nat_lit 512=nat_lit 512∧nat_lit 0=nat_lit 0∧EC=EC∧nat_lit 2448=nat_lit 2448∧nat_lit 5264=nat_lit 5264∧nat_lit 73=nat_lit 73∧nat_lit 77=nat_lit 77)∧(520=nat_lit 520∧nat_lit 522=nat_lit 522∧nat_lit 524=nat_lit 524∧nat_lit 526=nat_lit 526∧nat_lit 3=nat_lit 3∧nat_lit 77=nat_lit 77∧nat_lit 73=nat_lit 73∧nat_lit 64=nat_lit 64)∧n.int=(↑(List.length (List.set Y (Int.toNat i.int) (U.l (patchU (U.list (nth (U.i 0) Y (Int.toNat i.int))) 2 [U.l (U.list (nth (U.i 0) (List.tail (List.tail (U.list (nth (U.i 0) Y (Int.toNat i.int))))) (0:Nat)))])))):Int)∧(0:Int)≤IntKind.wrap .i64 (i.int + 1)∧IntKind.wrap .i64 (i.int + 1)≤n.int∧List.length (List.set Y (Int.toNat i.int) (U.l (patchU (U.list (nth (U.i 0) Y (Int.toNat i.int))) 2 [U.l (U.list (nth (U.i 0) (List.tail (List.tail (U.list (nth (U.i 0) Y (Int.toNat i.int))))) (0:Nat)))])))≤(1073741824:Nat)∧∀ (x:U),x ∈ List.drop (Int.toNat (IntKind.wrap .i64 (i.int + 1))) (List.set Y (Int.toNat i.int) (U.l (patchU (U.list (nth (U.i 0) Y (Int.toNat i.int))) 2 [U.l (U.list (nth (U.i 0) (List.tail (List.tail (U.list (nth (U.i 0) Y (Int.toNat i.int))))) (0:Nat)))])))→List.length (mpL x)≤(1073741824:Nat))∧k (Ex.exit 2) (St.mk [(2,.ptr 256 0),(1,.val (.sl false [.int .u8]) F),(4,.ptr 512 0)] [(256,.box [vi c,vi z,.val .str s,.val (.sl false [.sl true EC]) T,.own 2448,.own 5264,.val (.sl false [.int .i64]) Q]),(2448,.arr 73 X),(5264,.arr 77 (List.take (Int.toNat (IntKind.wrap .i64 (i.int + 1))) (List.set Y (Int.toNat i.int) (U.l (patchU (U.list (nth (U.i 0) Y (Int.toNat i.int))) 2 [U.l (U.list (nth (U.i 0) (List.tail (List.tail (U.list (nth (U.i 0) Y (Int.toNat i.int))))) (0:Nat)))]))) ++ List.map mpSet (List.drop (Int.toNat (IntKind.wrap .i64 (i.int + 1))) (List.set Y (Int.toNat i.int) (U.l (patchU (U.list (nth (U.i 0) Y (Int.toNat i.int))) 2 [U.l (U.list (nth (U.i 0) (List.tail (List.tail (U.list (nth (U.i 0) Y (Int.toNat i.int))))) (0:Nat)))])))))),(512,.box [vi r1,vi r2,.val .str r3,.own 520,.own 522,.own 524,.own 526]),(526,.arr 3 []),(524,.arr 77 []),(522,.arr 73 []),(520,.arr 64 [])]) else False else False else False else False else False) (bif decide ((0:Int)≤i.int∧i.int < (Y.length:Int)) then Alt (bif Nat.blt (Int.toNat i.int) (List.length Y) then (PPC=PPC∧List.length (U.list (nth (U.i 0) (List.tail (List.tail (U.list (nth (U.i 0) Y (Int.toNat i.int))))) (0:Nat)))≤(1073741824:Nat))∧bif decide ((0:Int)≤i.int∧i.int < (Y.length:Int)) then bif Nat.blt (Int.toNat i.int) (List.length Y) then bif Nat.blt (μ [vi (U.i (IntKind.wrap .i64 (i.int + 1))),vi n,.ptr 256 0,.val (.sl false [.int .u8]) F,.ptr 512 0] [.box [vi c,vi z,.val .str s,.val (.sl false [.sl true EC]) T,.own 2448,.own 5264,.val (.sl false [.int .i64]) Q],.arr 73 X,.arr 77 (List.set Y (Int.toNat i.int) (U.l (patchU (U.list (nth (U.i 0) Y (Int.toNat i.int))) 2 [U.l (U.list (nth (U.i 0) (List.tail (List.tail (U.list (nth (U.i 0) Y (Int.toNat i.int))))) (0:Nat)))]))),.box [vi r1,vi r2,.val .str r3,.own 520,.own 522,.own 524,.own 526],.arr 3 [],.arr 77 [],.arr 73 [],.arr 64 []]) N then ((256=nat_lit 256∧nat_lit 0=nat_lit 0∧nat_lit 512=nat_lit 512∧nat_lit 0=nat_lit 0∧EC=EC∧nat_lit 2448=nat_lit 2448∧nat_lit 5264=nat_lit 5264∧nat_lit 73=nat_lit 73∧nat_lit 77=nat_lit 77)∧(520=nat_lit 520∧nat_lit 522=nat_lit 522∧nat_lit 524=nat_lit 524∧nat_lit 526=nat_lit 526∧nat_lit 3=nat_lit 3∧nat_lit 77=nat_lit 77∧nat_lit 73=nat_lit 73∧nat_lit 64=nat_lit 64)∧n.int=(↑(List.length (List.set Y (Int.toNat i.int) (U.l (patchU (U.list (nth (U.i 0) Y (Int.toNat i.int))) 2 [U.l (U.list (nth (U.i 0) (List.tail (List.tail (U.list (nth (U.i 0) Y (Int.toNat i.int))))) (0:Nat)))])))):Int)∧(0:Int)≤IntKind.wrap .i64 (i.int + 1)∧IntKind.wrap .i64 (i.int + 1)≤n.int∧List.length (List.set Y (Int.toNat i.int) (U.l (patchU (U.list (nth (U.i 0) Y (Int.toNat i.int))) 2 [U.l (U.list (nth (U.i 0) (List.tail (List.tail (U.list (nth (U.i 0) Y (Int.toNat i.int))))) (0:Nat)))])))≤(1073741824:Nat)∧∀ (x:U),x ∈ List.drop (Int.toNat (IntKind.wrap .i64 (i.int + 1))) (List.set Y (Int.toNat i.int) (U.l (patchU (U.list (nth (U.i 0) Y (Int.toNat i.int))) 2 [U.l (U.list (nth (U.i 0) (List.tail (List.tail (U.list (nth (U.i 0) Y (Int.toNat i.int))))) (0:Nat)))])))→List.length (mpL x)≤(1073741824:Nat))∧k (Ex.exit 2) (St.mk [(2,.ptr 256 0),(1,.val (.sl false [.int .u8]) F),(4,.ptr 512 0)] [(256,.box [vi c,vi z,.val .str s,.val (.sl false [.sl true EC]) T,.own 2448,.own 5264,.val (.sl false [.int .i64]) Q]),(2448,.arr 73 X),(5264,.arr 77 (List.take (Int.toNat (IntKind.wrap .i64 (i.int + 1))) (List.set Y (Int.toNat i.int) (U.l (patchU (U.list (nth (U.i 0) Y (Int.toNat i.int))) 2 [U.l (U.list (nth (U.i 0) (List.tail (List.tail (U.list (nth (U.i 0) Y (Int.toNat i.int))))) (0:Nat)))]))) ++ List.map mpSet (List.drop (Int.toNat (IntKind.wrap .i64 (i.int + 1))) (List.set Y (Int.toNat i.int) (U.l (patchU (U.list (nth (U.i 0) Y (Int.toNat i.int))) 2 [U.l (U.list (nth (U.i 0) (List.tail (List.tail (U.list (nth (U.i 0) Y (Int.toNat i.int))))) (0:Nat)))])))))),(512,.box [vi r1,vi r2,.val .str r3,.own 520,.own 522,.own 524,.own 526]),(526,.arr 3 []),(524,.arr 77 []),(522,.arr 73 []),(520,.arr 64 [])]) else False else False else False else False) (bif Nat.blt (Int.toNat i.int) (List.length Y) then (fun T=>Alt T T) ((PPC=PPC∧List.length (U.list (nth (U.i 0) (List.tail (List.tail (U.list (nth (U.i 0) Y (Int.toNat i.int))))) (0:Nat)))≤(1073741824:Nat))∧bif decide ((0:Int)≤i.int∧i.int < (Y.length:Int)) then bif Nat.blt (Int.toNat i.int) (List.length Y) then bif Nat.blt (μ [vi (U.i (IntKind.wrap .i64 (i.int + 1))),vi n,.ptr 256 0,.val (.sl false [.int .u8]) F,.ptr 512 0] [.box [vi c,vi z,.val .str s,.val (.sl false [.sl true EC]) T,.own 2448,.own 5264,.val (.sl false [.int .i64]) Q],.arr 73 X,.arr 77 (List.set Y (Int.toNat i.int) (U.l (patchU (U.list (nth (U.i 0) Y (Int.toNat i.int))) 2 [U.l (U.list (nth (U.i 0) (List.tail (List.tail (U.list (nth (U.i 0) Y (Int.toNat i.int))))) (0:Nat)))]))),.box [vi r1,vi r2,.val .str r3,.own 520,.own 522,.own 524,.own 526],.arr 3 [],.arr 77 [],.arr 73 [],.arr 64 []]) N then ((256=nat_lit 256∧nat_lit 0=nat_lit 0∧nat_lit 512=nat_lit 512∧nat_lit 0=nat_lit 0∧EC=EC∧nat_lit 2448=nat_lit 2448∧nat_lit 5264=nat_lit 5264∧nat_lit 73=nat_lit 73∧nat_lit 77=nat_lit 77)∧(520=nat_lit 520∧nat_lit 522=nat_lit 522∧nat_lit 524=nat_lit 524∧nat_lit 526=nat_lit 526∧nat_lit 3=nat_lit 3∧nat_lit 77=nat_lit 77∧nat_lit 73=nat_lit 73∧nat_lit 64=nat_lit 64)∧n.int=(↑(List.length (List.set Y (Int.toNat i.int) (U.l (patchU (U.list (nth (U.i 0) Y (Int.toNat i.int))) 2 [U.l (U.list (nth (U.i 0) (List.tail (List.tail (U.list (nth (U.i 0) Y (Int.toNat i.int))))) (0:Nat)))])))):Int)∧(0:Int)≤IntKind.wrap .i64 (i.int + 1)∧IntKind.wrap .i64 (i.int + 1)≤n.int∧List.length (List.set Y (Int.toNat i.int) (U.l (patchU (U.list (nth (U.i 0) Y (Int.toNat i.int))) 2 [U.l (U.list (nth (U.i 0) (List.tail (List.tail (U.list (nth (U.i 0) Y (Int.toNat i.int))))) (0:Nat)))])))≤(1073741824:Nat)∧∀ (x:U),x ∈ List.drop (Int.toNat (IntKind.wrap .i64 (i.int + 1))) (List.set Y (Int.toNat i.int) (U.l (patchU (U.list (nth (U.i 0) Y (Int.toNat i.int))) 2 [U.l (U.list (nth (U.i 0) (List.tail (List.tail (U.list (nth (U.i 0) Y (Int.toNat i.int))))) (0:Nat)))])))→List.length (mpL x)≤(1073741824:Nat))∧k (Ex.exit 2) (St.mk [(2,.ptr 256 0),(1,.val (.sl false [.int .u8]) F),(4,.ptr 512 0)] [(256,.box [vi c,vi z,.val .str s,.val (.sl false [.sl true EC]) T,.own 2448,.own 5264,.val (.sl false [.int .i64]) Q]),(2448,.arr 73 X),(5264,.arr 77 (List.take (Int.toNat (IntKind.wrap .i64 (i.int + 1))) (List.set Y (Int.toNat i.int) (U.l (patchU (U.list (nth (U.i 0) Y (Int.toNat i.int))) 2 [U.l (U.list (nth (U.i 0) (List.tail (List.tail (U.list (nth (U.i 0) Y (Int.toNat i.int))))) (0:Nat)))]))) ++ List.map mpSet (List.drop (Int.toNat (IntKind.wrap .i64 (i.int + 1))) (List.set Y (Int.toNat i.int) (U.l (patchU (U.list (nth (U.i 0) Y (Int.toNat i.int))) 2 [U.l (U.list (nth (U.i 0) (List.tail (List.tail (U.list (nth (U.i 0) Y (Int.toNat i.int))))) (0:Nat)))])))))),(512,.box [vi r1,vi r2,.val .str r3,.own 520,.own 522,.own 524,.own 526]),(526,.arr 3 []),(524,.arr 77 []),(522,.arr 73 []),(520,.arr 64 [])]) else False else False else False) else False) else False) else k (Ex.exit 2) (St.mk [(2,.ptr 256 0),(1,.val (.sl false [.int .u8]) F),(4,.ptr 512 0)] [(256,.box [vi c,vi z,.val .str s,.val (.sl false [.sl true EC]) T,.own 2448,.own 5264,.val (.sl false [.int .i64]) Q]),(2448,.arr 73 X),(5264,.arr 77 Y),(512,.box [vi r1,vi r2,.val .str r3,.own 520,.own 522,.own 524,.own 526]),(526,.arr 3 []),(524,.arr 77 []),(522,.arr 73 []),(520,.arr 64 [])])):=by kernel_rfl
theorem md_tree (R:RF) (c z s T Sh M Q F:U):(run mdC Try.f16 [[c,z,s,T,Sh,M,Q],[F]] R)=(bif !metaR c z s T Sh M Q then R [[U.i 0,U.i 0,U.s ⟨#[]⟩,U.l [],U.l [],U.l [],U.l []],[U.i 1]] else (fun T=>Alt T (Alt T T)) (badP [[c,z,s,T,Sh,M,Q],[U.l (whU F)]]∧((EC=EC∧[Ct.str,.int .i64,Ct.sl false [Ct.sl true EC]]=[.str,.int .i64,Ct.sl false [.sl true EC]]∧[Ct.str,Ct.bool,Ct.sl true PPC]=[.str,Ct.bool,Ct.sl true PPC]∧PPC=PPC)∧List.length (bdU c z s T Sh M Q F)≤(1073741824:Nat)∧woOk T.list Sh.list (bdU c z s T Sh M Q F))∧((256=nat_lit 256∧nat_lit 0=nat_lit 0∧nat_lit 512=nat_lit 512∧nat_lit 0=nat_lit 0∧EC=EC∧nat_lit 2448=nat_lit 2448∧[Ct.str,Ct.bool,Ct.sl true PPC]=[.str,Ct.bool,Ct.sl true PPC]∧nat_lit 73=nat_lit 73)∧(520=nat_lit 520∧nat_lit 522=nat_lit 522∧nat_lit 524=nat_lit 524∧nat_lit 526=nat_lit 526∧nat_lit 3=nat_lit 3∧nat_lit 77=nat_lit 77∧nat_lit 73=nat_lit 73∧nat_lit 64=nat_lit 64)∧(↑(List.length (Prod.snd (woU c z s T Sh M Q F))):Int)=(↑(List.length (Prod.snd (woU c z s T Sh M Q F))):Int)∧(0:Int)≤0∧(0:Int)≤(↑(List.length (Prod.snd (woU c z s T Sh M Q F))):Int)∧List.length (Prod.snd (woU c z s T Sh M Q F))≤(1073741824:Nat)∧∀ (x:U),x ∈ List.drop (Int.toNat 0) (Prod.snd (woU c z s T Sh M Q F))→tabP (U.list (shT x)))∧([Ct.str,Ct.bool,Ct.sl true PPC]=[.str,Ct.bool,Ct.sl true PPC]∧M.list.length≤(1073741824:Nat))∧((256=nat_lit 256∧nat_lit 0=nat_lit 0∧nat_lit 512=nat_lit 512∧nat_lit 0=nat_lit 0∧EC=EC∧nat_lit 2448=nat_lit 2448∧nat_lit 5264=nat_lit 5264∧nat_lit 73=nat_lit 73∧nat_lit 77=nat_lit 77)∧(520=nat_lit 520∧nat_lit 522=nat_lit 522∧nat_lit 524=nat_lit 524∧nat_lit 526=nat_lit 526∧nat_lit 3=nat_lit 3∧nat_lit 77=nat_lit 77∧nat_lit 73=nat_lit 73∧nat_lit 64=nat_lit 64)∧(M.list.length:Int)=(M.list.length:Int)∧(0:Int)≤0∧(0:Int)≤(M.list.length:Int)∧M.list.length≤(1073741824:Nat)∧∀ (x:U),x ∈ List.drop (Int.toNat 0) M.list→List.length (mpL x)≤(1073741824:Nat))∧((EC=EC∧[Ct.str,.int .i64,Ct.sl false [Ct.sl true EC]]=[.str,.int .i64,Ct.sl false [.sl true EC]]∧[Ct.str,Ct.bool,Ct.sl true PPC]=[.str,Ct.bool,Ct.sl true PPC])∧((0:Int)≤szU F∧szU F≤65536)∧ofP [[c,z,s,U.l (Prod.fst (woU c z s T Sh M Q F)),U.l (List.take (Int.toNat 0) (Prod.snd (woU c z s T Sh M Q F)) ++ List.map (fun x=>shSet x (U.list (shT x))) (List.drop (Int.toNat 0) (Prod.snd (woU c z s T Sh M Q F)))),U.l (List.take (Int.toNat 0) M.list ++ List.map mpSet (List.drop (Int.toNat 0) M.list)),Q],[U.i (szU F)]])∧R [[c,z,s,U.l (Prod.fst (woU c z s T Sh M Q F)),U.l (List.take (Int.toNat 0) (Prod.snd (woU c z s T Sh M Q F)) ++ List.map (fun x=>shSet x (U.list (shT x))) (List.drop (Int.toNat 0) (Prod.snd (woU c z s T Sh M Q F)))),U.l (List.take (Int.toNat 0) M.list ++ List.map mpSet (List.drop (Int.toNat 0) M.list)),U.l (ofV (linesM [[c,z,s,U.l (Prod.fst (woU c z s T Sh M Q F)),U.l (List.take (Int.toNat 0) (Prod.snd (woU c z s T Sh M Q F)) ++ List.map (fun x=>shSet x (U.list (shT x))) (List.drop (Int.toNat 0) (Prod.snd (woU c z s T Sh M Q F)))),U.l (List.take (Int.toNat 0) M.list ++ List.map mpSet (List.drop (Int.toNat 0) M.list)),Q],[U.i (szU F)]]) (Int.toNat (szU F)))],[U.i 0]])):=by kernel_rfl
theorem mdT_tree (R:RT) (c z s T Sh M Q F:U):(runD mdC Try.f16 [.agg [vi c,vi z,vs s,.val TRC T,vt SC Sh,vt BC M,vl (.int .i64) Q],vl (.int .u8) F] [] R)=(bif !metaR c z s T Sh M Q then R (Out.ret [.agg [vi (U.i 0),vi (U.i 0),.val .str (U.s ⟨#[]⟩),.own 2097152,.own 2097280,.own 2097408,.own 2097536],vi (U.i 1)]) [(2097152,.arr 64 []),(2097280,.arr 73 []),(2097408,.arr 77 []),(2097536,.arr 3 [])] else (fun T=>Alt T (Alt T T)) (badP [[c,z,s,T,Sh,M,Q],[U.l (whU F)]]∧((EC=EC∧[Ct.str,.int .i64,Ct.sl false [Ct.sl true EC]]=[.str,.int .i64,Ct.sl false [.sl true EC]]∧[Ct.str,Ct.bool,Ct.sl true PPC]=[.str,Ct.bool,Ct.sl true PPC]∧PPC=PPC)∧List.length (bdU c z s T Sh M Q F)≤(1073741824:Nat)∧woOk T.list Sh.list (bdU c z s T Sh M Q F))∧((256=nat_lit 256∧nat_lit 0=nat_lit 0∧nat_lit 512=nat_lit 512∧nat_lit 0=nat_lit 0∧EC=EC∧nat_lit 2448=nat_lit 2448∧[Ct.str,Ct.bool,Ct.sl true PPC]=[.str,Ct.bool,Ct.sl true PPC]∧nat_lit 73=nat_lit 73)∧(520=nat_lit 520∧nat_lit 522=nat_lit 522∧nat_lit 524=nat_lit 524∧nat_lit 526=nat_lit 526∧nat_lit 3=nat_lit 3∧nat_lit 77=nat_lit 77∧nat_lit 73=nat_lit 73∧nat_lit 64=nat_lit 64)∧(↑(List.length (Prod.snd (woU c z s T Sh M Q F))):Int)=(↑(List.length (Prod.snd (woU c z s T Sh M Q F))):Int)∧(0:Int)≤0∧(0:Int)≤(↑(List.length (Prod.snd (woU c z s T Sh M Q F))):Int)∧List.length (Prod.snd (woU c z s T Sh M Q F))≤(1073741824:Nat)∧∀ (x:U),x ∈ List.drop (Int.toNat 0) (Prod.snd (woU c z s T Sh M Q F))→tabP (U.list (shT x)))∧([Ct.str,Ct.bool,Ct.sl true PPC]=[.str,Ct.bool,Ct.sl true PPC]∧M.list.length≤(1073741824:Nat))∧((256=nat_lit 256∧nat_lit 0=nat_lit 0∧nat_lit 512=nat_lit 512∧nat_lit 0=nat_lit 0∧EC=EC∧nat_lit 2448=nat_lit 2448∧nat_lit 5264=nat_lit 5264∧nat_lit 73=nat_lit 73∧nat_lit 77=nat_lit 77)∧(520=nat_lit 520∧nat_lit 522=nat_lit 522∧nat_lit 524=nat_lit 524∧nat_lit 526=nat_lit 526∧nat_lit 3=nat_lit 3∧nat_lit 77=nat_lit 77∧nat_lit 73=nat_lit 73∧nat_lit 64=nat_lit 64)∧(M.list.length:Int)=(M.list.length:Int)∧(0:Int)≤0∧(0:Int)≤(M.list.length:Int)∧M.list.length≤(1073741824:Nat)∧∀ (x:U),x ∈ List.drop (Int.toNat 0) M.list→List.length (mpL x)≤(1073741824:Nat))∧((EC=EC∧[Ct.str,.int .i64,Ct.sl false [Ct.sl true EC]]=[.str,.int .i64,Ct.sl false [.sl true EC]]∧[Ct.str,Ct.bool,Ct.sl true PPC]=[.str,Ct.bool,Ct.sl true PPC])∧((0:Int)≤szU F∧szU F≤65536)∧ofP [[c,z,s,U.l (Prod.fst (woU c z s T Sh M Q F)),U.l (List.take (Int.toNat 0) (Prod.snd (woU c z s T Sh M Q F)) ++ List.map (fun x=>shSet x (U.list (shT x))) (List.drop (Int.toNat 0) (Prod.snd (woU c z s T Sh M Q F)))),U.l (List.take (Int.toNat 0) M.list ++ List.map mpSet (List.drop (Int.toNat 0) M.list)),Q],[U.i (szU F)]])∧R (Out.ret [.agg [vi c,vi z,.val .str s,.val (.sl false [.sl true EC]) (U.l (Prod.fst (woU c z s T Sh M Q F))),.val (.sl true [.str,.int .i64,Ct.sl false [.sl true EC]]) (U.l (List.take (Int.toNat 0) (Prod.snd (woU c z s T Sh M Q F)) ++ List.map (fun x=>shSet x (U.list (shT x))) (List.drop (Int.toNat 0) (Prod.snd (woU c z s T Sh M Q F))))),.val (.sl true [.str,Ct.bool,Ct.sl true PPC]) (U.l (List.take (Int.toNat 0) M.list ++ List.map mpSet (List.drop (Int.toNat 0) M.list))),.own 2097152],vi (U.i 0)]) [(2097152,.arr 3 (ofV (linesM [[c,z,s,U.l (Prod.fst (woU c z s T Sh M Q F)),U.l (List.take (Int.toNat 0) (Prod.snd (woU c z s T Sh M Q F)) ++ List.map (fun x=>shSet x (U.list (shT x))) (List.drop (Int.toNat 0) (Prod.snd (woU c z s T Sh M Q F)))),U.l (List.take (Int.toNat 0) M.list ++ List.map mpSet (List.drop (Int.toNat 0) M.list)),Q],[U.i (szU F)]]) (Int.toNat (szU F))))])):=by kernel_rfl
end Go.Mat

namespace Go.Mat
open Go Go.Den Go.Proofs
set_option maxRecDepth 100000
abbrev cutSh (x:U):U:=shSet x (shT x).list
theorem map_step {f:U→U} {X:List U} {i:Nat} (hi:i < X.length):(X.set i (f (U.at X i))).take (i + 1) ++ ((X.set i (f (U.at X i))).drop (i + 1)).map f=X.take i ++ (X.drop i).map f:=by
 rw [drop_cons_at hi,List.map_cons]
 have h1:(X.set i (f (U.at X i))).drop (i + 1)=X.drop (i + 1):=by rw [List.drop_set_of_lt (by omega)]
 have h2:(X.set i (f (U.at X i))).take (i + 1)=X.take i ++ [f (U.at X i)]:=by
  rw [List.take_succ_eq_append_getElem (by rw [List.length_set];exact hi),List.getElem_set_self,List.take_set_of_le (by omega)]
 rw [h1,h2,List.append_assoc]
 rfl
theorem drop_set_in {X:List U} {i:Nat} {y x:U} (h:x ∈ (X.set i y).drop (i + 1)):x ∈ X.drop i:=by
 rw [List.drop_set_of_lt (by omega)] at h
 exact List.drop_subset_drop_left X (by omega:i≤i + 1) h
theorem md_loop0:LoopOk mdC 0 (loopBody Try.f16 0):=by
 refine loopOk_of (F:=mdLoop0) (ts:=[23,22,2,1,4]) (os:=[256,2448,512,526,524,522,520]) rfl (fun svs _=>match svs with | .val _ i :: .val _ n :: _=>(n.int - i.int).toNat | _=>0) ?_
 intro pan svs os k ho1 ho2 h
 unfold mdLoop0 at h
 split at h
 ·rename_i i n p q F p4 q4 c z s x1 T o x2 M Q t X r1 r2 r3 o1 o2 o3 o4 t4 t3 t2 t1
  obtain ⟨⟨⟨rfl,rfl,rfl,rfl,rfl,rfl,rfl,rfl⟩,⟨rfl,rfl,rfl,rfl,rfl,rfl,rfl,rfl⟩,hn,h0,hin,hX,hT⟩,hk⟩:=h
  refine .eq (md_round0 pan _ _ k i n F c z s T M Q r1 r2 r3 X) ?_
  refine bd (fun hlt=>?_) (fun hlt=>?_)
  ·have hi:i.int.toNat < X.length:=by omega
   have hwi:IntKind.wrap .i64 (i.int + 1)=i.int + 1:=i64_in (by omega) (by omega)
   have hc:(i.int + 1).toNat=i.int.toNat + 1:=by omega
   have e1:decide ((0:Int)≤i.int∧i.int < (X.length:Int))=true:=decide_eq_true ⟨h0,by omega⟩
   have e2:Nat.blt i.int.toNat X.length=true:=by simpa [Nat.blt_eq] using hi
   have hm:U.at X i.int.toNat ∈ X.drop i.int.toNat:=by rw [drop_cons_at hi];exact List.mem_cons_self ..
   have hs:=map_step (f:=cutSh) hi
   have hfe:U.l (patchU (U.list (nth (U.i 0) X (Int.toNat i.int))) 2 [U.l (U.list (nth (U.i 0) (List.tail (List.tail (U.list (nth (U.i 0) X (Int.toNat i.int))))) (0:Nat)))])=cutSh (U.at X i.int.toNat):=rfl
   simp only [e1,e2,cond_true,Alt_self]
   rw [hwi,hc,hfe,hs]
   refine ⟨⟨hT _ hm,rfl⟩,blt (by simp only [U.int_i];omega) ⟨⟨⟨by trivial,by trivial,by trivial,by trivial,by trivial,by trivial,by trivial,by trivial⟩,⟨by trivial,by trivial,by trivial,by trivial,by trivial,by trivial,by trivial,by trivial⟩,by rw [List.length_set];exact hn,by omega,by omega,by rw [List.length_set];exact hX,fun x hx=>hT x (drop_set_in hx)⟩,hk⟩⟩
  ·have hd:X.drop i.int.toNat=[]:=List.drop_eq_nil_of_le (by omega)
   have ht:X.take i.int.toNat=X:=List.take_of_length_le (by omega)
   rw [hd,ht,List.map_nil,List.append_nil] at hk
   exact hk
 ·exact h.elim
theorem md_loop2:LoopOk mdC 2 (loopBody Try.f16 1):=by
 refine loopOk_of (F:=mdLoop2) (ts:=[46,45,2,1,4]) (os:=[256,2448,5264,512,526,524,522,520]) rfl (fun svs _=>match svs with | .val _ i :: .val _ n :: _=>(n.int - i.int).toNat | _=>0) ?_
 intro pan svs os k ho1 ho2 h
 unfold mdLoop2 at h
 split at h
 ·rename_i i n p q F p4 q4 c z s x1 T o o5 Q t X t5 Y r1 r2 r3 o1 o2 o3 o4 t4 t3 t2 t1
  obtain ⟨⟨⟨rfl,rfl,rfl,rfl,rfl,rfl,rfl,rfl,rfl⟩,⟨rfl,rfl,rfl,rfl,rfl,rfl,rfl,rfl⟩,hn,h0,hin,hX,hT⟩,hk⟩:=h
  refine .eq (md_round2 pan _ _ k i n F c z s T Q r1 r2 r3 X Y) ?_
  refine bd (fun hlt=>?_) (fun hlt=>?_)
  ·have hi:i.int.toNat < Y.length:=by omega
   have hwi:IntKind.wrap .i64 (i.int + 1)=i.int + 1:=i64_in (by omega) (by omega)
   have hc:(i.int + 1).toNat=i.int.toNat + 1:=by omega
   have e1:decide ((0:Int)≤i.int∧i.int < (Y.length:Int))=true:=decide_eq_true ⟨h0,by omega⟩
   have e2:Nat.blt i.int.toNat Y.length=true:=by simpa [Nat.blt_eq] using hi
   have hm:U.at Y i.int.toNat ∈ Y.drop i.int.toNat:=by rw [drop_cons_at hi];exact List.mem_cons_self ..
   have hs:=map_step (f:=mpSet) hi
   have hfe:U.l (patchU (U.list (nth (U.i 0) Y (Int.toNat i.int))) 2 [U.l (U.list (nth (U.i 0) (List.tail (List.tail (U.list (nth (U.i 0) Y (Int.toNat i.int))))) (0:Nat)))])=mpSet (U.at Y i.int.toNat):=rfl
   simp only [e1,e2,cond_true,Alt_self]
   rw [hwi,hc,hfe,hs]
   refine ⟨⟨by trivial,hT _ hm⟩,blt (by simp only [U.int_i];omega) ⟨⟨⟨by trivial,by trivial,by trivial,by trivial,by trivial,by trivial,by trivial,by trivial,by trivial⟩,⟨by trivial,by trivial,by trivial,by trivial,by trivial,by trivial,by trivial,by trivial⟩,by rw [List.length_set];exact hn,by omega,by omega,by rw [List.length_set];exact hX,fun x hx=>hT x (drop_set_in hx)⟩,hk⟩⟩
  ·have hd:Y.drop i.int.toNat=[]:=List.drop_eq_nil_of_le (by omega)
   have ht:Y.take i.int.toNat=Y:=List.take_of_length_le (by omega)
   rw [hd,ht,List.map_nil,List.append_nil] at hk
   exact hk
 ·exact h.elim
theorem shotLines_cut:∀ (i:Int) (X:List U),shotLines i (X.map cutSh)=shotLines i X
 | _,[]=>rfl
 | i,x :: r=>by
  rw [List.map_cons,shotLines,shotLines,shotLines_cut (i + 1) r]
  have e:shT x=nth (.i 0) x.list 2:=by show nth _ x.list.tail.tail 0=_;rw [nth_tail,nth_tail]
  have e':shT (cutSh x)=nth (.i 0) (cutSh x).list 2:=by show nth _ (cutSh x).list.tail.tail 0=_;rw [nth_tail,nth_tail]
  rw [← e,← e',shT_shSet]
  rfl
def mdS:List (List U)→List (List U):=fun us=>match us with
 | [[c,z,s,T,Sh,M,Q],[F]]=>[[bif metaR c z s T Sh M Q then c else .i 0,bif metaR c z s T Sh M Q then z else .i 0,bif metaR c z s T Sh M Q then s else .s (ByteArray.mk #[]),.l (bif metaR c z s T Sh M Q then (woU c z s T Sh M Q F).1 else []),
   .l (bif metaR c z s T Sh M Q then (woU c z s T Sh M Q F).2.map cutSh else []),.l (bif metaR c z s T Sh M Q then M.list.map mpSet else []),.l (bif metaR c z s T Sh M Q then ofV (okM c z s T Sh M Q F) (szU F).toNat else [])],[.i (bif metaR c z s T Sh M Q then 0 else 1)]]
 | _=>[]
def mdP:List (List U)→Prop:=fun us=>mgP (nth (.i 0) (nth [] us 0) 3) (nth (.i 0) (nth [] us 0) 4)∧∀ x,x ∈ (nth (.i 0) (nth [] us 0) 5).list→(mpL x).length≤1073741824
theorem md_conds {c z s T Sh M Q F:U} (hr:metaR c z s T Sh M Q=true) (hpre:mgP T Sh):GM T.list Sh.list∧((bdU c z s T Sh M Q F).length≤36864∧∀ p,p ∈ bdU c z s T Sh M Q F→(U.at p.list 0).int < (Sh.list.length:Int))∧
  GM (woU c z s T Sh M Q F).1 (woU c z s T Sh M Q F).2∧M.list.length≤8∧(∀ X Y,linesM [[c,z,s,.l (woU c z s T Sh M Q F).1,.l ((woU c z s T Sh M Q F).2.map fun x=>shSet x (U.list (shT x))),X,Y],[.i (szU F)]]=okM c z s T Sh M Q F)∧
  GM (woU c z s T Sh M Q F).1 ((woU c z s T Sh M Q F).2.map cutSh):=by
 obtain ⟨hG,hQ,hML⟩:=GM.of_right hr hpre.1 hpre.2
 obtain ⟨b1,b2⟩:=GM.bad (F:=whU F) (c:=c.int) hG
 have hbe:bdU c z s T Sh M Q F=(badL (whU F) c.int (linesOf (.i (-1)) T.list ++ shotLines 0 Sh.list)).1:=rfl
 rw [← hbe] at b1 b2
 have i0:inFit (U.i 0).int:=⟨by decide,by decide⟩
 obtain ⟨hW,hWl⟩:=GM.wo (a:=.i 1) (e:=.i 0) (g:=.i 0) i0 i0 hG b2
 have hwe:woU c z s T Sh M Q F=woOf (.i 1) (.i 0) (.i 0) (.i 0) (.i 0) T.list Sh.list (bdU c z s T Sh M Q F):=rfl
 rw [← hwe] at hW hWl
 have hws:=hW.s
 have hlm:∀ X Y,linesM [[c,z,s,.l (woU c z s T Sh M Q F).1,.l ((woU c z s T Sh M Q F).2.map fun x=>shSet x (U.list (shT x))),X,Y],[.i (szU F)]]=okM c z s T Sh M Q F:=fun X Y=>by
  show linesOf (.i (-1)) (woU c z s T Sh M Q F).1 ++ shotLines 0 ((woU c z s T Sh M Q F).2.map cutSh)=_
  rw [shotLines_cut];rfl
 have hWc:GM (woU c z s T Sh M Q F).1 ((woU c z s T Sh M Q F).2.map cutSh):=⟨hW.t,by rw [List.length_map];exact hW.s,fun x hx=>by
  obtain ⟨y,hy,rfl⟩:=List.mem_map.1 hx
  rw [shT_shSet];exact hW.st y hy⟩
 exact ⟨hG,⟨b1,b2⟩,hW,hML,hlm,hWc⟩
theorem md_ok:SpecFP PR 16 mdP mdS:=fun fn us hfn hpre=>by
 have hf:PR.funcs[(16:Nat)]? = some Try.f16:=by kernel_rfl
 rw [hf] at hfn;cases hfn
 refine fn_okH (C:=mdC) (mkC_ok eqs0_ok mixed_ok (.cons meta_ok (.cons whole_ok (.consP bad_ok (.consP cut_ok .nil)))) (.cons wo_ok (.cons clb_ok (.cons (clp_ok.frz [2097152]) (.cons ofT_ok .nil))))) hf (by kernel_rfl) (loops_two (by kernel_rfl) md_loop0 md_loop2) fun hok=>?_
 have hp:Try.f16.params.toList=[41,25]:=by kernel_rfl
 rw [hp] at hok
 obtain ⟨u,u2,rfl,h1,h2⟩:=shape2 (by kernel_rfl:Cs PR 41=some (true,[.int .i64,.int .i64,.str,.sl false [.sl true EC],.sl true SC,.sl true BC,.sl false [.int .i64]])) (by kernel_rfl:Cs PR 25=some (false,[.sl false [.int .u8]])) hok.1
 obtain ⟨c,z,s,T,Sh,M,Q,rfl⟩:∃ a b c d e f g,u=[a,b,c,d,e,f,g]:=match u,h1 with | [a,b,c,d,e,f,g],_=>⟨a,b,c,d,e,f,g,rfl⟩
 obtain ⟨F,rfl⟩:=len1 h2
 clear hok h1 h2
 obtain ⟨hpre,hM⟩:mgP T Sh∧∀ x,x ∈ M.list→(mpL x).length≤1073741824:=hpre
 refine .eq (md_tree _ c z s T Sh M Q F) ?_
 refine bi (fun hr=>by simp only [mdS,nt hr,cond_false]) (fun hr=>?_)
 simp only [mdS,nf hr,cond_true]
 obtain ⟨hG,⟨b1,b2⟩,hW,hML,hlm,hWc⟩:=md_conds (F:=F) (nf hr) hpre
 have hws:=hW.s
 obtain ⟨n0,n1⟩:=szU_in F
 simp only [Int.toNat_zero,List.drop_zero,List.take_zero,List.nil_append,hlm,Alt_self]
 refine ⟨⟨hG.each.1,?_⟩,⟨⟨by trivial,by trivial,by trivial,by trivial⟩,by omega,hG.ok b2⟩,⟨⟨by trivial,by trivial,by trivial,by trivial,by trivial,by trivial,by trivial,by trivial⟩,⟨by trivial,by trivial,by trivial,by trivial,by trivial,by trivial,by trivial,by trivial⟩,by trivial,by omega,by omega,by omega,fun x hx=>(hW.st x hx).tab⟩,⟨by trivial,by omega⟩,⟨⟨by trivial,by trivial,by trivial,by trivial,by trivial,by trivial,by trivial,by trivial,by trivial⟩,⟨by trivial,by trivial,by trivial,by trivial,by trivial,by trivial,by trivial,by trivial⟩,by trivial,by omega,by omega,by omega,hM⟩,⟨⟨by trivial,by trivial,by trivial⟩,⟨n0,n1⟩,hWc.each.1,?_⟩,by trivial⟩
 ·have:=hG.each.2
  show (linesOf (.i (-1)) T.list ++ shotLines 0 Sh.list).length≤536870912
  omega
 ·rw [hlm];exact hW.fit
noncomputable def mdF:Tr:=fun args objs k=>match args,objs with
 | [.agg [.val (.int .i64) c,.val (.int .i64) z,.val .str s,.val (.sl false [.sl true x1]) T,.val (.sl true x3) Sh,.val (.sl true x2) M,.val (.sl false [.int .i64]) Q],.val (.sl false [.int .u8]) F],[]=>
  ((x1=EC∧x3=SC∧x2=BC)∧metaR c z s T Sh M Q=true∧mdP [[c,z,s,T,Sh,M,Q],[F]])∧
  k (.ret [.agg [vi c,vi z,vs s,.val TRC (.l (woU c z s T Sh M Q F).1),vt SC (.l ((woU c z s T Sh M Q F).2.map cutSh)),vt BC (.l (M.list.map mpSet)),.own 2097152],vi (.i 0)]) [(2097152,.arr 3 (ofV (okM c z s T Sh M Q F) (szU F).toNat))]
 | _,_=>False
theorem mdT_ok:SpecT PR 16 mdF:=fun fn hfn=>by
 have hf:PR.funcs[(16:Nat)]? = some Try.f16:=by kernel_rfl
 rw [hf] at hfn;cases hfn
 refine fnT_okH (C:=mdC) (mkC_ok eqs0_ok mixed_ok (.cons meta_ok (.cons whole_ok (.consP bad_ok (.consP cut_ok .nil)))) (.cons wo_ok (.cons clb_ok (.cons (clp_ok.frz [2097152]) (.cons ofT_ok .nil))))) hf (by kernel_rfl) (loops_two (by kernel_rfl) md_loop0 md_loop2) fun vs objs R h1 h2 h=>?_
 clear h1 h2
 unfold mdF at h
 split at h
 ·rename_i c z s x1 T x3 Sh x2 M Q F
  obtain ⟨⟨⟨rfl,rfl,rfl⟩,hr,hpre,hM⟩,hk⟩:=h
  have hpre:mgP T Sh:=hpre
  refine .eq (mdT_tree _ c z s T Sh M Q F) ?_
  rw [hr]
  show (fun T=>Alt T (Alt T T)) _
  obtain ⟨hG,⟨b1,b2⟩,hW,hML,hlm,hWc⟩:=md_conds (F:=F) hr hpre
  have hws:=hW.s
  obtain ⟨n0,n1⟩:=szU_in F
  simp only [Int.toNat_zero,List.drop_zero,List.take_zero,List.nil_append,hlm,Alt_self]
  refine ⟨⟨hG.each.1,?_⟩,⟨⟨by trivial,by trivial,by trivial,by trivial⟩,by omega,hG.ok b2⟩,⟨⟨by trivial,by trivial,by trivial,by trivial,by trivial,by trivial,by trivial,by trivial⟩,⟨by trivial,by trivial,by trivial,by trivial,by trivial,by trivial,by trivial,by trivial⟩,by trivial,by omega,by omega,by omega,fun x hx=>(hW.st x hx).tab⟩,⟨by trivial,by omega⟩,⟨⟨by trivial,by trivial,by trivial,by trivial,by trivial,by trivial,by trivial,by trivial,by trivial⟩,⟨by trivial,by trivial,by trivial,by trivial,by trivial,by trivial,by trivial,by trivial⟩,by trivial,by omega,by omega,by omega,hM⟩,⟨⟨by trivial,by trivial,by trivial⟩,⟨n0,n1⟩,hWc.each.1,?_⟩,hk⟩
  ·have:=hG.each.2
   show (linesOf (.i (-1)) T.list ++ shotLines 0 Sh.list).length≤536870912
   omega
  ·rw [hlm];exact hW.fit
 ·exact h.elim
end Go.Mat

namespace Go.Mat
open Go Go.Den Go.Proofs
noncomputable def eqsF (t:TypeId):Option (List IntKind):=bif Nat.beq t 47 then some [.i64,.i64,.i64] else eqs0 t
def tA15:List (List U)→List (List U):=fun _=>[[.b true]]
def nA15:List (List U)→List (List U):=fun us=>[[nth (.i 0) (nth [] us 0) 0]]
theorem numA_tree (R:RF) (n:U):(run K0 Try.f12 [[n]] R)=(R [[n]]):=by kernel_rfl
noncomputable def awC:Ctx:=mkC PR eqsF (fnsCons 12 nA15 (fnsCons 22 getS (fnsConsP 15 faP faS (fnsConsP 16 mdP mdS fnsNil)))) trsNil noLoops noOut noOut
theorem aw_tree (R:RF):(run awC Try.f9 [] R)=(faP [[U.i 0,U.i 1,U.s ⟨#[]⟩,U.l [U.l (List.set (List.set (List.set (List.set (List.set (List.set (List.set (List.set (List.replicate (8:Nat) (U.l [U.i 0,U.i 0,U.i 0,U.i 0,U.i 0])) (0:Nat) (U.l [U.i 2,U.i 9,U.i 1,U.i 0,U.i 0])) (1:Nat) (U.l [U.i 0,U.i 0,U.i 0,U.i 0,U.i 0])) (2:Nat) (U.l [U.i 0,U.i 0,U.i 0,U.i 0,U.i 0])) (3:Nat) (U.l [U.i 0,U.i 0,U.i 0,U.i 0,U.i 0])) (4:Nat) (U.l [U.i 0,U.i 0,U.i 0,U.i 0,U.i 0])) (5:Nat) (U.l [U.i 0,U.i 0,U.i 0,U.i 0,U.i 0])) (6:Nat) (U.l [U.i 0,U.i 0,U.i 0,U.i 0,U.i 0])) (7:Nat) (U.l [U.i 0,U.i 0,U.i 0,U.i 0,U.i 0]))],U.l [],U.l [],U.l []],[U.l (List.replicate (Int.toNat 64) (U.i 0))]]∧(fun T=>Alt (Alt (Alt T T) T) (Alt (Alt (Alt T T) T) (Alt T T))) (mdP [[U.i 0,U.i 1,U.s ⟨#[]⟩,U.l [U.l (List.set (List.set (List.set (List.set (List.set (List.set (List.set (List.set (List.replicate (8:Nat) (U.l [U.i 0,U.i 0,U.i 0,U.i 0,U.i 0])) (0:Nat) (U.l [U.i 2,U.i 9,U.i 1,U.i 0,U.i 0])) (1:Nat) (U.l [U.i 0,U.i 0,U.i 0,U.i 0,U.i 0])) (2:Nat) (U.l [U.i 0,U.i 0,U.i 0,U.i 0,U.i 0])) (3:Nat) (U.l [U.i 0,U.i 0,U.i 0,U.i 0,U.i 0])) (4:Nat) (U.l [U.i 0,U.i 0,U.i 0,U.i 0,U.i 0])) (5:Nat) (U.l [U.i 0,U.i 0,U.i 0,U.i 0,U.i 0])) (6:Nat) (U.l [U.i 0,U.i 0,U.i 0,U.i 0,U.i 0])) (7:Nat) (U.l [U.i 0,U.i 0,U.i 0,U.i 0,U.i 0]))],U.l [],U.l [],U.l []],[U.l (List.replicate (Int.toNat 64) (U.i 0))]]∧R [[U.b (U.int (entF (0:Nat) (bif metaR (U.i 0) (U.i 1) (U.s ⟨#[]⟩) (U.l [U.l (List.set (List.set (List.set (List.set (List.set (List.set (List.set (List.set (List.replicate (8:Nat) (U.l [U.i 0,U.i 0,U.i 0,U.i 0,U.i 0])) (0:Nat) (U.l [U.i 2,U.i 9,U.i 1,U.i 0,U.i 0])) (1:Nat) (U.l [U.i 0,U.i 0,U.i 0,U.i 0,U.i 0])) (2:Nat) (U.l [U.i 0,U.i 0,U.i 0,U.i 0,U.i 0])) (3:Nat) (U.l [U.i 0,U.i 0,U.i 0,U.i 0,U.i 0])) (4:Nat) (U.l [U.i 0,U.i 0,U.i 0,U.i 0,U.i 0])) (5:Nat) (U.l [U.i 0,U.i 0,U.i 0,U.i 0,U.i 0])) (6:Nat) (U.l [U.i 0,U.i 0,U.i 0,U.i 0,U.i 0])) (7:Nat) (U.l [U.i 0,U.i 0,U.i 0,U.i 0,U.i 0]))]) (U.l []) (U.l []) (U.l []) then Prod.fst (woU (U.i 0) (U.i 1) (U.s ⟨#[]⟩) (U.l [U.l (List.set (List.set (List.set (List.set (List.set (List.set (List.set (List.set (List.replicate (8:Nat) (U.l [U.i 0,U.i 0,U.i 0,U.i 0,U.i 0])) (0:Nat) (U.l [U.i 2,U.i 9,U.i 1,U.i 0,U.i 0])) (1:Nat) (U.l [U.i 0,U.i 0,U.i 0,U.i 0,U.i 0])) (2:Nat) (U.l [U.i 0,U.i 0,U.i 0,U.i 0,U.i 0])) (3:Nat) (U.l [U.i 0,U.i 0,U.i 0,U.i 0,U.i 0])) (4:Nat) (U.l [U.i 0,U.i 0,U.i 0,U.i 0,U.i 0])) (5:Nat) (U.l [U.i 0,U.i 0,U.i 0,U.i 0,U.i 0])) (6:Nat) (U.l [U.i 0,U.i 0,U.i 0,U.i 0,U.i 0])) (7:Nat) (U.l [U.i 0,U.i 0,U.i 0,U.i 0,U.i 0]))]) (U.l []) (U.l []) (U.l []) (U.l (List.replicate (Int.toNat 64) (U.i 0)))) else []) 0) == 1)]])):=by kernel_rfl
end Go.Mat

namespace Go.Mat
open Go Go.Den Go.Proofs
set_option maxRecDepth 100000
theorem eqsF_ok:∀ t ks,eqsF t=some ks→EqOk PR t ks:=by
 intro t ks h
 unfold eqsF at h
 cases hb:Nat.beq t 47 with
 | true=>
  rw [hb] at h
  have:=Nat.eq_of_beq_eq_true hb
  subst this
  injection h with h
  subst h
  exact eq_ok (by kernel_rfl)
 | false=>rw [hb] at h;exact eqs0_ok t ks h
theorem numA_ok:SpecF PR 12 nA15:=fun fn us hfn=>by
 have hf:PR.funcs[(12:Nat)]? = some Try.f12:=by kernel_rfl
 rw [hf] at hfn;cases hfn
 refine fn_okH (C:=K0) (mkC_ok eqs0_ok mixed_ok .nil .nil) hf (by kernel_rfl) (loops_none (by kernel_rfl)) fun hok=>?_
 have hp:Try.f12.params.toList=[27]:=by kernel_rfl
 rw [hp] at hok
 obtain ⟨u,rfl,h1⟩:=shape1 (by kernel_rfl:Cs PR 27=some (false,[.int .i64])) hok.1
 obtain ⟨n,rfl⟩:=len1 h1
 exact .eq (numA_tree _ n) rfl
theorem aw_ok:SpecF PR 9 tA15:=fun fn us hfn=>by
 have hf:PR.funcs[(9:Nat)]? = some Try.f9:=by kernel_rfl
 rw [hf] at hfn;cases hfn
 refine fn_okH (C:=awC) (mkC_ok eqsF_ok mixed_ok (.cons numA_ok (.cons at_ok (.consP fa_ok (.consP md_ok .nil)))) .nil) hf (by kernel_rfl) (loops_none (by kernel_rfl)) fun hok=>?_
 have hp:Try.f9.params.toList=[]:=by kernel_rfl
 rw [hp] at hok
 have hus:us=[]:=hok.1
 subst hus
 refine .eq (aw_tree _) ?_
 have hg:∀ T:U,T.list.length≤1099511627776→mgP T (.l []):=fun T hT=>⟨hT,fun x hx=>by cases hx⟩
 simp only [Alt_self]
 refine ⟨hg _ (by decide),⟨hg _ (by decide),fun x hx=>by cases hx⟩,?_⟩
 kernel_rfl
end Go.Mat

namespace Go.Den
open Go Go.RowKit
def takeC:Nat→Code→Code
 | 0,.seq a _=>.seq a .skip
 | n + 1,.seq a b=>.seq a (takeC n b)
 | _,c=>c
def dropC:Nat→Code→Code
 | 0,c=>c
 | n + 1,.seq _ b=>dropC n b
 | _,c=>c
def joinC:Code→Code→Code
 | .seq a b,r=>.seq a (joinC b r)
 | _,r=>r
def rowC:Code→Bool
 | .seq _ b=>rowC b
 | .skip=>true
 | _=>false
def seenS (ts os:List Nat) (k:Ex→St→Prop):Ex→St→Prop:=fun e σ=>k e (mask σ (some (ts,os)))
section
variable {C:Ctx} {Θ:Anc} {n:Nat}
theorem exec_join (hC:C.Ok) (hkb:Θ.kb=false) (hka:Θ.ka=false) (hN:∀ b,¬ Θ.N b) {rest:Code} {Q:Exit→Act→World→Prop} (hp:Pans C Θ n Q) (hQ:∀ c a w d v,Q (.panic c) (a.put d v) w→Q (.panic c) a w) :
  ∀ (code:Code) (c:Nat) {σ:St} {a:Act} {w:World} {Z:Nat→Prop} {G:Nat→Value} {k:Ex→St→Prop},rowC code=true→codeOk n code=true→LoopsOk C code c→Sim C.P Θ n σ a w Z G→
  exec C code c σ k→(∀ e σ' a' w' Z' G',k e σ'→Sim C.P Θ n σ' a' w' Z' G'→Exit.then (rest.wp C.P Q) Q (toExit e) a' w')→(joinC code rest).wp C.P Q a w
 | .seq x y,c,σ,a,w,Z,G,k,hr,hok,hl,S,h,hk=>by
  unfold codeOk at hok
  split at hok
  ·rename_i hx
   refine wp_seq (exec_sound hC hkb hka hN x c hx hl.1 S h ?_ hp (fun _=>hQ))
   intro e σ' a' w' Z' G' he S'
   cases e with
   | normal=>exact exec_join hC hkb hka hN hp hQ y c hr hok hl.2 S' he hk
   | ret=>exact hk .ret _ _ _ _ _ he S'
   | exit m=>exact hk (.exit m) _ _ _ _ _ he S'
  ·cases hok
 | .skip,c,σ,a,w,Z,G,k,hr,hok,hl,S,h,hk=>hk .normal σ a w Z G h S
end
theorem piece_on {C:Ctx} {Θ:Anc} {n:Nat} (hC:C.Ok) (hkb:Θ.kb=false) (hka:Θ.ka=false) (hN:∀ b,¬ Θ.N b) {B p rest:Code} {Q:Exit→Act→World→Prop} (hp:Pans C Θ n Q) (hQ:∀ c a w d v,Q (.panic c) (a.put d v) w→Q (.panic c) a w)
  (hB:B=joinC p rest) (hr:rowC p=true) (hok:codeOk n p=true) (hl:∀ q ∈ loopsOf p 0,LoopOk C q.1 q.2) {σ τ:St} {a:Act} {w:World} {Z:Nat→Prop} {G:Nat→Value} (S:Sim C.P Θ n σ a w Z G) {ts os:List Nat}
  (h:Holds (exec C p 0 σ (seenS ts os fun e σ'=>e = .normal∧σ' = τ))) (hk:∀ a w Z G,Sim C.P Θ n τ a w Z G→rest.wp C.P Q a w):B.wp C.P Q a w:=by
 rw [hB]
 refine exec_join hC hkb hka hN hp hQ p 0 hr hok (loopsOk_of hl) S h.out ?_
 rintro e σ' a' w' Z' G' ⟨rfl,hτ⟩ S'
 have S2:=mask_sim (x:=some (ts,os)) S'
 rw [hτ] at S2
 exact hk a' w' Z' G' S2
theorem piece_end {C:Ctx} {Θ:Anc} {n:Nat} (hC:C.Ok) (hkb:Θ.kb=false) (hka:Θ.ka=false) (hN:∀ b,¬ Θ.N b) {B:Code} {Q:Exit→Act→World→Prop} (hp:Pans C Θ n Q) (hQ:∀ c a w d v,Q (.panic c) (a.put d v) w→Q (.panic c) a w)
  (hok:codeOk n B=true) (hl:∀ q ∈ loopsOf B 0,LoopOk C q.1 q.2) {σ τ:St} {a:Act} {w:World} {Z:Nat→Prop} {G:Nat→Value} (S:Sim C.P Θ n σ a w Z G) {ts os:List Nat}
  (h:Holds (exec C B 0 σ (seenS ts os fun e σ'=>e = .ret∧σ' = τ))) (hk:∀ a w Z G,Sim C.P Θ n τ a w Z G→Q .ret a w):B.wp C.P Q a w:=by
 refine exec_sound hC hkb hka hN B 0 hok (loopsOk_of hl) S h.out ?_ hp (fun _=>hQ)
 rintro e σ' a' w' Z' G' ⟨rfl,hτ⟩ S'
 have S2:=mask_sim (x:=some (ts,os)) S'
 rw [hτ] at S2
 exact hk a' w' Z' G' S2
end Go.Den

namespace Go.Mat
open Go Go.Den Go.Proofs
abbrev FLC:List Ct:=[.int .i64,.int .i64,.int .i64]
def stP (x:U):Int:=IntKind.wrap IntKind.i64 ((2:Int) + Int.tmod (IntKind.wrap IntKind.i64 x.int) 30)
def lawF:List U:=secsR (Int.toNat 40) 0
abbrev mBox (c z s T Sh M Q:U):Den.Obj:=.box [vi c,vi z,vs s,.val TRC T,vt SC Sh,vt BC M,vl (.int .i64) Q]
abbrev vf (F:U):SV:=.val (.sl false [.int .u8]) F
end Go.Mat

namespace Go.Mat
open Go Go.Den Go.Proofs
set_option maxRecDepth 100000
theorem rfits_at {T:List U} {a b d e g c:Int} (ht:rtableR T 4096 c=true) (hm:mayR a b d e g c=true):∀ (n:Nat) (c0:Int),c0≤c→c < c0 + n→rfitsFrom T a b d e g n c0=true
 | 0,c0,h1,h2=>by omega
 | n + 1,c0,h1,h2=>by
  rw [rfitsFrom]
  by_cases he:c0=c
  ·subst he;rw [ht,hm];rfl
  ·have ih:=rfits_at ht hm n (c0 + 1) (by omega) (by omega)
   rw [ih]
   cases rtableR T 4096 c0<;>cases mayR a b d e g c0<;>rfl
theorem fits_at {T:List U} {a b d e g c:Int} (ht:tableR T 4096 c=true) (hm:mayR a b d e g c=true):∀ (n:Nat) (c0:Int),c0≤c→c < c0 + n→fitsFrom T a b d e g n c0=true
 | 0,c0,h1,h2=>by omega
 | n + 1,c0,h1,h2=>by
  rw [fitsFrom]
  by_cases he:c0=c
  ·subst he;rw [ht,hm];rfl
  ·have ih:=fits_at ht hm n (c0 + 1) (by omega) (by omega)
   rw [ih]
   cases tableR T 4096 c0<;>cases mayR a b d e g c0<;>rfl
theorem setY_in {T:List U} {i:Int} {a b d e g:U} {c:Int} (h0:0≤i) (h1:i < 4096) (hc0:0≤c) (hc6:c≤6) (ht:rtableR T 4096 c=true) (hm:mayR a.int b.int d.int e.int g.int c=true) (ha:(a.int == 0)=false) :
  setY T i a b d e g=setZ T i.toNat [a,b,d,e,g]:=by
 unfold setY
 rw [rfits_at ht hm 7 0 hc0 (by omega),decide_eq_false (by omega),decide_eq_false (by omega),ha]
 rfl
theorem setX_in {T:List U} {i:Int} {a b d e g:U} {c:Int} (h0:0≤i) (h1:i < 4096) (hc0:0≤c) (hc6:c≤6) (ht:tableR T 4096 c=true) (hm:mayR a.int b.int d.int e.int g.int c=true) :
  setX T i a b d e g=setR T i.toNat [a,b,d,e,g]:=by
 unfold setX
 rw [fits_at ht hm 7 0 hc0 (by omega),decide_eq_false (by omega),decide_eq_false (by omega)]
 rfl
theorem pow_in:∀ c:Nat,c≤6→(1:Int)≤2 ^ c∧(2:Int) ^ c≤64:=by
 intro c hc
 match c,hc with
 | 0,_=>decide
 | 1,_=>decide
 | 2,_=>decide
 | 3,_=>decide
 | 4,_=>decide
 | 5,_=>decide
 | 6,_=>decide
 | c + 7,h=>omega
theorem may_raw {x k s:Int} {c:Nat} (hc:c≤6) (hk:k=2 ^ c) (h2:2≤x) (h3:x≤1000):mayR 2 x k 0 s c=true:=by
 subst hk
 have hp:=pow_in c hc
 unfold mayR placeR
 rw [if_neg (by omega),if_neg (by decide),if_pos rfl,Int.toNat_natCast]
 generalize (2:Int) ^ c=k at *
 rw [decide_eq_true ⟨rfl,rfl⟩,decide_eq_true h2,decide_eq_true (by omega),decide_eq_true (by omega),decide_eq_true (by omega)]
 rfl
theorem secsR_len:∀ (n:Nat) (i:Int),(secsR n i).length=16 * n
 | 0,_=>rfl
 | n + 1,i=>by rw [secsR,List.length_append,List.length_replicate,secsR_len n (i + 1)];omega
theorem whU_all {F:List U} (h:F.length % 16=0) (h2:F.length≤1048576):whU (.l F)=F:=by
 unfold whU
 rw [U.list_l,List.take_of_length_le]
 omega
theorem szU_all {F:List U} (h:F.length % 16=0) (h2:F.length≤1048576):szU (.l F)=(F.length / 16:Nat):=by
 unfold szU
 rw [whU_all h h2,Int.tdiv_eq_ediv_of_nonneg (by omega)]
 exact (i64_in (by omega) (by omega)).trans (by omega)
end Go.Mat

namespace Go.Mat
open Go Go.Den Go.Proofs
set_option maxRecDepth 100000
def zE:U:=.l [.i 0,.i 0,.i 0,.i 0,.i 0]
def rE (x k s:Int):U:=.l [.i 2,.i x,.i k,.i 0,.i s]
def tb1 (x k s:Int):List U:=[.l [rE x k s,zE,zE,zE,zE,zE,zE,zE]]
theorem may_zE:mayR 0 0 0 0 0 2=true:=by decide
theorem wrap_at:IntKind.i64.wrap (IntKind.i64.wrap 0)=0∧IntKind.i64.wrap (IntKind.i64.wrap 0 + 1)=1:=by decide
theorem rtab1 {x s:Int} (hm:mayR 2 x 4 0 s 2=true):rtableR (tb1 x 4 s) 4096 2=true:=by
 simp [rtableR,lastOk,rleavesR,rleafR,rentsR,rentOk,rsomeR,tb1,zE,rE,hm,may_zE,e0,e1,e2,e3,e4,nth_zero,nth_succ,U.list,U.int,wrap_at]
theorem tab1 {x s n:Int} (hm:mayR 2 x 4 0 s 2=true) (h0:1≤n) (h1:n≤4096):tableR (tb1 x 4 s) n 2=true:=by
 simp [tableR,leavesR,leafR,entsR,entOk,someR,noneR,tb1,zE,rE,hm,may_zE,e0,e1,e2,e3,e4,nth_zero,nth_succ,U.list,U.int,wrap_at]
 omega
theorem set0 {x s:Int} (hm:mayR 2 x 4 0 s 2=true):setY [] 0 (.i 2) (.i x) (.i 4) (.i 0) (.i s)=tb1 x 4 s:=by
 refine (setY_in (a:=.i 2) (b:=.i x) (d:=.i 4) (e:=.i 0) (g:=.i s) (c:=2) (by decide) (by decide) (by decide) (by decide) (by decide) hm (by decide)).trans ?_
 kernel_rfl
end Go.Mat

namespace Go.Mat
open Go Go.Den Go.Proofs
set_option maxRecDepth 100000
theorem lawF_len:lawF.length=640:=secsR_len 40 0
theorem lawF_whole:whU (.l lawF)=lawF:=whU_all (by rw [lawF_len]) (by rw [lawF_len];decide)
theorem stP_in {x:U} (h:0≤x.int∧x.int≤255):2≤stP x∧stP x≤31:=by
 unfold stP
 rw [i64_in (x:=x.int) (by omega) (by omega),Int.tmod_eq_emod_of_nonneg h.1,i64_in (by omega) (by omega)]
 omega
def sumAt (F:List U) (x k:Int):Int:=sumI 0 ((F.take ((x + k) * 16).toNat).drop (x * 16).toNat)
theorem results_at {fn:Func} {tmps:Array Value} {x:Nat} {w:World} (hr:fn.results = #[.tmp x]):(results fn tmps).run PR w = .ok (tmps.getD x undef) w:=by
 rw [results_of,hr]
 simp [resOf]
abbrev Th0 (w:World) (Z:Nat→Prop):Anc:=⟨w,fun _=>False,fun _=>False,Z,false,false,fun _=>.pointer none,[]⟩
theorem noloops {C:Ctx} {c:Code} (h:loopsOf c 0=[]):∀ q ∈ loopsOf c 0,LoopOk C q.1 q.2:=loops_none h
end Go.Mat

namespace Go.Mat
open Go Go.Den Go.Proofs
set_option maxRecDepth 100000
def plI (l:U):Int × Int:=((lnU l 0).int,(lnU l 1).int)
def plU (l:U):U:=.l [lnU l 0,lnU l 1]
def badT (F:List U) (c:Int) (all:List PK) (l:U):Bool:=wrongB F c l || all.any (meetP (pkOf l))
def allS (all:List PK) (l:U):List PK:=bif decide (pkOf l ∈ all) then all else all ++ [pkOf l]
def keepL (F:List U) (c:Int):List PK→List U→List U
 | _,[]=>[]
 | all,l :: r=>bif badT F c all l then keepL F c all r else l :: keepL F c (allS all l) r
def outL (F:List U) (c:Int):List PK→List U→List U
 | _,[]=>[]
 | all,l :: r=>bif badT F c all l then l :: outL F c all r else outL F c (allS all l) r
section
variable {F:List U} {c:Int}
theorem fold_out:∀ (ls o:List U) (all:List PK),(ls.foldl (badStep F c) (o,all)).1=o ++ (outL F c all ls).map plU
 | [],o,all=>(List.append_nil o).symm
 | l :: r,o,all=>by
  have e:badStep F c (o,all) l=bif badT F c all l then (o ++ [plU l],all) else (o,allS all l):=rfl
  rw [List.foldl_cons,outL,e]
  cases badT F c all l with
  | true=>rw [cond_true,cond_true,fold_out r,List.map_cons,List.append_assoc];rfl
  | false=>rw [cond_false,cond_false,fold_out r]
theorem out_keep:∀ (ls:List U) (all:List PK),outL F c all (keepL F c all ls)=[]
 | [],_=>rfl
 | l :: r,all=>by
  rw [keepL]
  cases h:badT F c all l with
  | true=>rw [cond_true,out_keep r]
  | false=>rw [cond_false,outL,h,cond_false,out_keep r]
theorem out_sub:∀ {ls:List U} {all:List PK} {x:U},x ∈ outL F c all ls→x ∈ ls
 | [],_,_,h=>by cases h
 | l :: r,all,x,h=>by
  rw [outL] at h
  cases hb:badT F c all l with
  | true=>
   rw [hb,cond_true] at h
   rcases List.mem_cons.1 h with rfl | h
   ·exact List.mem_cons_self ..
   ·exact List.mem_cons_of_mem _ (out_sub h)
  | false=>rw [hb,cond_false] at h;exact List.mem_cons_of_mem _ (out_sub h)
theorem out_nodup:∀ (ls:List U) (all:List PK),(ls.map plI).Nodup→((outL F c all ls).map plI).Nodup
 | [],_,_=>List.nodup_nil
 | l :: r,all,h=>by
  obtain ⟨h1,h2⟩:=List.nodup_cons.1 h
  rw [outL]
  cases badT F c all l with
  | true=>
   rw [cond_true]
   refine List.nodup_cons.2 ⟨fun hm=>h1 ?_,out_nodup r all h2⟩
   obtain ⟨x,hx,e⟩:=List.mem_map.1 hm
   exact List.mem_map.2 ⟨x,out_sub hx,e⟩
  | false=>rw [cond_false];exact out_nodup r _ h2
theorem keep_filter:∀ (ls:List U) (all:List PK),(ls.map plI).Nodup→ls.filter (fun l=>!decide (plI l ∈ (outL F c all ls).map plI))=keepL F c all ls
 | [],_,_=>rfl
 | l :: r,all,h=>by
  obtain ⟨h1,h2⟩:=List.nodup_cons.1 h
  rw [keepL,outL]
  cases badT F c all l with
  | true=>
   rw [cond_true,cond_true,List.filter_cons_of_neg (by simp),← keep_filter r all h2]
   refine List.filter_congr fun x hx=>?_
   have hn:plI x≠plI l:=fun e=>h1 (List.mem_map.2 ⟨x,hx,e⟩)
   simp [hn]
  | false=>
   have hn:plI l ∉ (outL F c (allS all l) r).map plI:=fun hm=>by
    obtain ⟨x,hx,e⟩:=List.mem_map.1 hm
    exact h1 (List.mem_map.2 ⟨x,out_sub hx,e⟩)
   rw [cond_false,cond_false,List.filter_cons_of_pos (by simpa using hn),keep_filter r _ h2]
end
theorem rents_at {n c i:Int}:∀ (l:List U) (k:Int),rentsR n c i k l=true↔∀ j,j < l.length→rentOk n c i (k + j) (U.at l j)=true
 | [],k=>⟨fun _ j hj=>absurd hj (Nat.not_lt_zero _),fun _=>rfl⟩
 | e :: r,k=>by
  rw [rentsR,Bool.and_eq_true,rents_at r]
  constructor
  ·rintro ⟨h1,h2⟩ j hj
   cases j with
   | zero=>rw [show k + ((0:Nat):Int)=k by omega];exact h1
   | succ j=>rw [show k + ((j + 1:Nat):Int)=k + 1 + j by omega];exact h2 j (by simpa using hj)
  ·intro h
   refine ⟨?_,fun j hj=>?_⟩
   ·have:=h 0 (by simp);rw [show k + ((0:Nat):Int)=k by omega] at this;exact this
   ·have:=h (j + 1) (by simpa using hj);rw [show k + ((j + 1:Nat):Int)=k + 1 + j by omega] at this;exact this
theorem rsome_at:∀ (l:List U),rsomeR l=true↔∃ j,j < l.length∧(e0 (U.at l j)).int≠0
 | []=>⟨fun h=>(by cases h),fun ⟨j,hj,_⟩=>absurd hj (Nat.not_lt_zero _)⟩
 | e :: r=>by
  have ih:=rsome_at r
  unfold rsomeR at ih ⊢
  rw [List.any_cons,Bool.or_eq_true,ih,decide_eq_true_eq]
  constructor
  ·rintro (h | ⟨j,hj,h⟩)
   ·exact ⟨0,by simp,h⟩
   ·exact ⟨j + 1,by simpa using hj,h⟩
  ·rintro ⟨j,hj,h⟩
   cases j with
   | zero=>exact .inl h
   | succ j=>exact .inr ⟨j,by simpa using hj,h⟩
theorem rleaves_at {n c:Int}:∀ (L:List U) (i:Int),rleavesR n c i L=true↔∀ j,j < L.length→(U.at L j).list=[]∨rleafR n c (i + j) (U.at L j).list=true
 | [],i=>⟨fun _ j hj=>absurd hj (Nat.not_lt_zero _),fun _=>rfl⟩
 | l :: r,i=>by
  rw [rleavesR]
  have key:(if l.list=[] then rleavesR n c (i + 1) r else rleafR n c i l.list && rleavesR n c (i + 1) r)=true↔(l.list=[]∨rleafR n c i l.list=true)∧rleavesR n c (i + 1) r=true:=by
   by_cases h:l.list=[]
   ·simp [h]
   ·simp [h]
  rw [key,rleaves_at r]
  constructor
  ·rintro ⟨h1,h2⟩ j hj
   cases j with
   | zero=>rw [show i + ((0:Nat):Int)=i by omega];exact h1
   | succ j=>rw [show i + ((j + 1:Nat):Int)=i + 1 + j by omega];exact h2 j (by simpa using hj)
  ·intro h
   refine ⟨?_,fun j hj=>?_⟩
   ·have:=h 0 (by simp);rw [show i + ((0:Nat):Int)=i by omega] at this;exact this
   ·have:=h (j + 1) (by simpa using hj);rw [show i + ((j + 1:Nat):Int)=i + 1 + j by omega] at this;exact this
def zapE:List U:=[.i 1,.i 0,.i 0,.i 0,.i 0]
def zapT (T:List U) (k:Nat):List U:=T.set (k / 8) (.l (pokeR (U.at T (k / 8)).list (k % 8) zapE))
structure TR (T:List U) (n c:Int):Prop where
 n0:0≤n
 n1:n≤4096
 c0:0≤c
 c1:c≤6
 last:lastOk T=true
 row:∀ j:Nat,j < T.length→(U.at T j).list=[]∨rleafR n c j (U.at T j).list=true
theorem TR.iff {T:List U} {n c:Int}:tableR T n c=true↔TR T n c:=by
 unfold tableR
 by_cases h:n < 0∨4096 < n∨c < 0∨6 < c
 ·rw [if_pos h]
  exact ⟨fun h=>by (cases h),fun g=>by have:=g.n0;have:=g.n1;have:=g.c0;have:=g.c1;omega⟩
 ·rw [if_neg h,leavesR_eq,Bool.and_eq_true,rleaves_at]
  constructor
  ·rintro ⟨h1,h2⟩
   exact ⟨by omega,by omega,by omega,by omega,h1,fun j hj=>by have:=h2 j hj;rw [Int.zero_add] at this;exact this⟩
  ·intro g
   exact ⟨g.last,fun j hj=>by have:=g.row j hj;rw [Int.zero_add];exact this⟩
theorem may_zap {c:Int} (h0:0≤c) (h1:c≤6):mayR 1 0 0 0 0 c=true:=by
 unfold mayR
 rw [if_neg (by omega),if_pos (.inr rfl)]
 decide
theorem TR.hit {T:List U} {n c:Int} (g:TR T n c) {k:Nat} (h:hitR T k=true):k / 8 < T.length∧(U.at T (k / 8)).list.length=8∧(e0 (entU T k)).int≠0∧rleafR n c (k / 8:Nat) (U.at T (k / 8)).list=true:=by
 have he:entF 0 T (k:Int)=e0 (entU T k):=by
  unfold entF
  rw [decide_eq_false (by omega:¬ (k:Int) < 0),cond_false]
  rfl
 have h0:(e0 (entU T k)).int≠0:=by
  intro e
  unfold hitR at h
  rw [he,e] at h
  cases h
 have h1:k / 8 < T.length:=by
  by_cases h1:k / 8 < T.length
  ·exact h1
  ·refine absurd ?_ h0
   unfold entU
   have:nth (.i 0) T (k / 8) = .i 0:=at_over (by omega)
   rw [this];rfl
 have h2:=g.row _ h1
 rcases h2 with h2 | h2
 ·refine absurd ?_ h0
  unfold entU
  have e:(nth (.i 0) T (k / 8)).list=[]:=h2
  rw [e];rfl
 ·refine ⟨h1,?_,h0,h2⟩
  unfold rleafR at h2
  simp only [Bool.and_eq_true,decide_eq_true_eq] at h2
  exact h2.1.1
section
variable {T:List U} {n c:Int} {k:Nat}
theorem ent_zap (h1:k / 8 < T.length) (h2:(U.at T (k / 8)).list.length=8) (j:Nat):entU (zapT T k) j=if j=k then .l (patchU (entU T k).list 0 zapE) else entU T j:=by
 have e:U.at (zapT T k) (j / 8)=if j / 8=k / 8 then .l (pokeR (U.at T (k / 8)).list (k % 8) zapE) else U.at T (j / 8):=at_set h1
 show U.at (U.at (zapT T k) (j / 8)).list (j % 8)=_
 rw [e]
 by_cases hd:j / 8=k / 8
 ·rw [if_pos hd]
  show U.at (pokeR (U.at T (k / 8)).list (k % 8) zapE) (j % 8)=_
  unfold pokeR
  rw [at_set (by omega)]
  by_cases hm:j % 8=k % 8
  ·rw [if_pos hm,if_pos (by omega)];rfl
  ·rw [if_neg hm,if_neg (by omega),← hd];rfl
 ·rw [if_neg hd,if_neg (fun e=>hd (by rw [e]))];rfl
theorem hit_zap (h1:k / 8 < T.length) (h2:(U.at T (k / 8)).list.length=8) (j:Nat):hitR (zapT T k) j=(!decide (j=k) && hitR T j):=by
 have he:∀ T:List U,entF 0 T (j:Int)=e0 (entU T j):=fun T=>by
  unfold entF
  rw [decide_eq_false (by omega:¬ (j:Int) < 0),cond_false]
  rfl
 unfold hitR
 rw [he,he,ent_zap h1 h2]
 by_cases h:j=k
 ·rw [if_pos h,decide_eq_true h];rfl
 ·rw [if_neg h,decide_eq_false h];rfl
theorem line_zap (h1:k / 8 < T.length) (h2:(U.at T (k / 8)).list.length=8) {j:Nat} (h:j≠k) (s:U):lineU s (zapT T k) j=lineU s T j:=by
 have he:∀ i,entF i (zapT T k) (j:Int)=entF i T (j:Int):=fun i=>by
  unfold entF
  rw [decide_eq_false (by omega:¬ (j:Int) < 0),cond_false,cond_false,Int.toNat_natCast,ent_zap h1 h2,if_neg h]
 unfold lineU
 rw [he,he,he,he,he]
theorem lines_zap (h1:k / 8 < T.length) (h2:(U.at T (k / 8)).list.length=8) (s:U):linesOf s (zapT T k)=(linesOf s T).filter fun l=>!decide ((lnU l 1).int=k):=by
 have hl:(zapT T k).length=T.length:=List.length_set ..
 unfold linesOf linesTo
 rw [hl,List.filter_map,List.filter_map,List.filter_filter]
 congr 1
 have e:(List.range (8 * T.length)).filter (hitR (zapT T k))=(List.range (8 * T.length)).filter fun a=>(((fun l=>!decide ((lnU l 1).int=(k:Int))) ∘ U.l) ∘ lineU s T) a && hitR T a:=by
  refine List.filter_congr fun a _=>?_
  rw [hit_zap h1 h2]
  congr 2
  show decide (a=k)=decide ((a:Int)=(k:Int))
  rw [decide_eq_decide];omega
 rw [e]
 refine List.map_congr_left fun a ha=>line_zap h1 h2 (fun e=>?_) s
 have:=(List.mem_filter.1 ha).2
 rw [Bool.and_eq_true] at this
 have h9:(!decide ((a:Int)=(k:Int)))=true:=this.1
 rw [decide_eq_true (by omega)] at h9
 cases h9
theorem TR.zap (g:TR T n c) (h:hitR T k=true):TR (zapT T k) n c:=by
 obtain ⟨h1,h2,h3,h4⟩:=g.hit h
 have hl:(zapT T k).length=T.length:=List.length_set ..
 unfold rleafR at h4
 simp only [Bool.and_eq_true,decide_eq_true_eq] at h4
 have hm:k % 8 < (U.at T (k / 8)).list.length:=by omega
 have hrow:rleafR n c (k / 8:Nat) (pokeR (U.at T (k / 8)).list (k % 8) zapE)=true:=by
  unfold rleafR
  have hpl:(pokeR (U.at T (k / 8)).list (k % 8) zapE).length=8:=by unfold pokeR;rw [List.length_set];exact h2
  rw [decide_eq_true hpl,Bool.true_and,Bool.and_eq_true]
  refine ⟨(rents_at _ _).2 fun j hj=>?_,(rsome_at _).2 ⟨k % 8,by omega,?_⟩⟩
  ·have hj':j < (U.at T (k / 8)).list.length:=by rw [hpl] at hj;omega
   have ho:=(rents_at _ _).1 h4.1.2 j hj'
   unfold pokeR
   rw [at_set hm]
   split
   ·rename_i e
    subst e
    unfold rentOk at ho ⊢
    rw [Bool.and_eq_true,Bool.or_eq_true] at ho
    have hi:=ho.2.resolve_left (by rw [decide_eq_true_eq];exact h3)
    rw [hi,Bool.or_true,Bool.and_true]
    exact may_zap g.c0 g.c1
   ·exact ho
  ·unfold pokeR
   rw [at_set hm,if_pos rfl]
   show (1:Int)≠0
   decide
 refine ⟨g.n0,g.n1,g.c0,g.c1,?_,fun j hj=>?_⟩
 ·have hne:T≠[]:=fun e=>by rw [e] at h1;simp at h1
  have hlast:=g.last
  unfold lastOk at hlast ⊢
  rw [decide_eq_false hne,Bool.false_or] at hlast
  rw [decide_eq_false (fun e=>hne (List.length_eq_zero_iff.1 (by rw [← hl,e];rfl))),Bool.false_or,hl]
  have e:nth (.i 0) (zapT T k) (T.length - 1)=if T.length - 1=k / 8 then .l (pokeR (U.at T (k / 8)).list (k % 8) zapE) else U.at T (T.length - 1):=at_set h1
  rw [e]
  split
  ·rw [decide_eq_false];rfl
   intro hc
   have:(pokeR (U.at T (k / 8)).list (k % 8) zapE).length=8:=by unfold pokeR;rw [List.length_set];exact h2
   have hc:pokeR (U.at T (k / 8)).list (k % 8) zapE=[]:=hc
   rw [hc] at this
   cases this
  ·exact hlast
 ·rw [hl] at hj
  have e:U.at (zapT T k) j=if j=k / 8 then .l (pokeR (U.at T (k / 8)).list (k % 8) zapE) else U.at T j:=at_set h1
  rw [e]
  split
  ·rename_i e;subst e;exact .inr hrow
  ·exact g.row j hj
theorem TR.mono (g:TR T n c):TR T 4096 c:=by
 refine ⟨by decide,by decide,g.c0,g.c1,g.last,fun j hj=>(g.row j hj).imp_right fun h=>?_⟩
 unfold rleafR at h ⊢
 simp only [Bool.and_eq_true] at h ⊢
 refine ⟨⟨h.1.1,(rents_at _ _).2 fun i hi=>?_⟩,h.2⟩
 have ho:=(rents_at _ _).1 h.1.2 i hi
 unfold rentOk at ho ⊢
 rw [Bool.and_eq_true,Bool.or_eq_true,decide_eq_true_eq,decide_eq_true_eq] at ho ⊢
 have:=g.n1
 exact ⟨ho.1,ho.2.imp_right fun h=>by omega⟩
theorem trim_last {xs:List U} (h:lastOk xs=true):trimN xs.length xs=xs:=by
 cases hl:xs.length with
 | zero=>rfl
 | succ m=>
  unfold lastOk at h
  rw [decide_eq_false (fun e=>by rw [e] at hl;cases hl),Bool.false_or,hl,Nat.add_sub_cancel] at h
  have h:(nth (.i 0) xs m).list≠[]:=by simpa using h
  rw [trimN]
  have hn:(((U.at xs m).list.length:Int) == 0)=false:=by
   rw [beq_eq_false_iff_ne]
   intro e
   exact h (List.length_eq_zero_iff.1 (Int.ofNat.inj e))
  rw [hn];rfl
theorem set_zap (g:TR T n c) (h:hitR T k=true) (hT:T.length≤512):setX T k (.i 1) (.i 0) (.i 0) (.i 0) (.i 0)=zapT T k:=by
 obtain ⟨h1,h2,h3,h4⟩:=g.hit h
 rw [setX_in (a:=.i 1) (b:=.i 0) (d:=.i 0) (e:=.i 0) (g:=.i 0) (c:=c) (by omega) (by omega) g.c0 g.c1 (TR.iff.2 g.mono) (may_zap g.c0 g.c1),Int.toNat_natCast]
 unfold setR
 simp only
 have hp:padR T (k / 8 + 1 - T.length)=T:=by
  rw [show k / 8 + 1 - T.length=0 by omega]
  unfold padR
  rw [List.replicate_zero,List.append_nil]
 have hr:rowOf (U.at T (k / 8))=(U.at T (k / 8)).list:=by unfold rowOf;rw [h2];rfl
 rw [hp,hr]
 have hk:keepR (pokeR (U.at T (k / 8)).list (k % 8) zapE)=pokeR (U.at T (k / 8)).list (k % 8) zapE:=by
  have ha:∀ (l:List U) (j:Nat) (x:U),j < l.length→entNone x=false→anyNN (l.set j x)=true:=by
   intro l
   induction l with
   | nil=>intro j x hj;simp at hj
   | cons y r ih=>
    intro j x hj hx
    cases j with
    | zero=>rw [List.set_cons_zero,anyNN,hx];rfl
    | succ j=>
     rw [List.set_cons_succ,anyNN,ih j x (by simpa using hj) hx]
     cases entNone y<;>rfl
  unfold keepR
  have:anyNN (pokeR (U.at T (k / 8)).list (k % 8) zapE)=true:=by
   unfold pokeR
   exact ha _ _ _ (by omega) rfl
  rw [this];rfl
 have hz:T.set (k / 8) (.l (keepR (pokeR (U.at T (k / 8)).list (k % 8) [.i 1,.i 0,.i 0,.i 0,.i 0])))=zapT T k:=by unfold zapT;rw [← hk];rfl
 rw [hz]
 exact trim_last (g.zap h).last
end
def lnsM (st:List U × List U):List U:=linesOf (.i (-1)) st.1 ++ shotLines 0 st.2
theorem shot_mem:∀ {S:List U} {i:Int} {l:U},l ∈ shotLines i S→∃ j:Nat,j < S.length∧l ∈ linesOf (.i (i + j)) (shT (U.at S j)).list
 | [],_,_,h=>by cases h
 | x :: r,i,l,h=>by
  rw [shotLines,List.mem_append] at h
  rcases h with h | h
  ·refine ⟨0,by simp,?_⟩
   have e:shT x=nth (.i 0) x.list 2:=by show nth _ x.list.tail.tail 0=_;rw [nth_tail,nth_tail]
   rw [show i + ((0:Nat):Int)=i by omega]
   show l ∈ linesOf (.i i) (shT x).list
   rw [e];exact h
  ·obtain ⟨j,h1,h2⟩:=shot_mem h
   refine ⟨j + 1,by simpa using h1,?_⟩
   rw [show i + ((j + 1:Nat):Int)=i + 1 + j by omega]
   exact h2
theorem line_mem {s:U} {T:List U} {l:U} (h:l ∈ linesOf s T):∃ k,hitR T k=true∧l = .l (lineU s T k):=by
 unfold linesOf linesTo at h
 obtain ⟨x,hx,rfl⟩:=List.mem_map.1 h
 obtain ⟨i,hi,rfl⟩:=List.mem_map.1 hx
 exact ⟨i,(List.mem_filter.1 hi).2,rfl⟩
theorem plI_line (s:U) (T:List U) (k:Nat):plI (.l (lineU s T k))=(s.int,(k:Int)):=rfl
theorem lines_nodup (s:U) (T:List U):((linesOf s T).map plI).Nodup:=by
 unfold linesOf linesTo
 rw [List.map_map,List.map_map]
 refine List.Pairwise.map _ (R:=(·≠·)) (fun a b hab=>?_) (List.Pairwise.filter _ List.nodup_range)
 show (s.int,(a:Int))≠(s.int,(b:Int))
 intro e
 have:=congrArg Prod.snd e
 simp at this
 exact hab (by omega)
theorem shots_nodup:∀ (S:List U) (i:Int),((shotLines i S).map plI).Nodup
 | [],_=>List.nodup_nil
 | x :: r,i=>by
  rw [shotLines,List.map_append,List.nodup_append]
  refine ⟨lines_nodup _ _,shots_nodup r (i + 1),fun a ha b hb e=>?_⟩
  obtain ⟨l,hl,rfl⟩:=List.mem_map.1 ha
  obtain ⟨m,hm,rfl⟩:=List.mem_map.1 hb
  obtain ⟨k,_,rfl⟩:=line_mem hl
  obtain ⟨j,_,hm⟩:=shot_mem hm
  obtain ⟨k',_,rfl⟩:=line_mem hm
  rw [plI_line,plI_line] at e
  have:=congrArg Prod.fst e
  simp [U.int] at this
  omega
theorem lns_nodup (st:List U × List U):((lnsM st).map plI).Nodup:=by
 unfold lnsM
 rw [List.map_append,List.nodup_append]
 refine ⟨lines_nodup _ _,shots_nodup _ _,fun a ha b hb e=>?_⟩
 obtain ⟨l,hl,rfl⟩:=List.mem_map.1 ha
 obtain ⟨m,hm,rfl⟩:=List.mem_map.1 hb
 obtain ⟨k,_,rfl⟩:=line_mem hl
 obtain ⟨j,_,hm⟩:=shot_mem hm
 obtain ⟨k',_,rfl⟩:=line_mem hm
 rw [plI_line,plI_line] at e
 have:=congrArg Prod.fst e
 simp [U.int] at this
theorem filt_all {L:List U} {v:Int × Int} (h:∀ l,l ∈ L→(plI l).1≠v.1):L.filter (fun l=>!decide (plI l=v))=L:=by
 refine List.filter_eq_self.2 fun l hl=>?_
 rw [decide_eq_false fun e=>h l hl (congrArg Prod.fst e)];rfl
theorem lines_fst {s:U} {T:List U} {l:U} (h:l ∈ linesOf s T):(plI l).1=s.int:=by
 obtain ⟨k,_,rfl⟩:=line_mem h;rfl
theorem lines_zap2 {T:List U} {k:Nat} (h1:k / 8 < T.length) (h2:(U.at T (k / 8)).list.length=8) (s:U):linesOf s (zapT T k)=(linesOf s T).filter fun l=>!decide (plI l=(s.int,(k:Int))):=by
 rw [lines_zap h1 h2]
 refine List.filter_congr fun l hl=>?_
 have:=lines_fst hl
 congr 1
 rw [decide_eq_decide]
 show _↔plI l=_
 constructor
 ·intro h;exact Prod.ext this h
 ·intro h;exact congrArg Prod.snd h
theorem shot_zap:∀ {S:List U} {i:Int} {j k:Nat},j < S.length→(k / 8 < (shT (U.at S j)).list.length∧(U.at (shT (U.at S j)).list (k / 8)).list.length=8)→
  shotLines i (S.set j (shSet (U.at S j) (zapT (shT (U.at S j)).list k)))=(shotLines i S).filter fun l=>!decide (plI l=(i + j,(k:Int)))
 | [],_,_,_,h,_=>absurd h (Nat.not_lt_zero _)
 | x :: r,i,0,k,_,h=>by
  have h:k / 8 < (shT x).list.length∧(U.at (shT x).list (k / 8)).list.length=8:=h
  have e:shT x=nth (.i 0) x.list 2:=by show nth _ x.list.tail.tail 0=_;rw [nth_tail,nth_tail]
  show shotLines i (shSet x (zapT (shT x).list k) :: r)=_
  have e':nth (.i 0) (shSet x (zapT (shT x).list k)).list 2 = .l (zapT (shT x).list k):=by
   have:shT (shSet x (zapT (shT x).list k))=nth (.i 0) (shSet x (zapT (shT x).list k)).list 2:=by show nth _ (shSet x (zapT (shT x).list k)).list.tail.tail 0=_;rw [nth_tail,nth_tail]
   rw [← this];rfl
  rw [shotLines,shotLines,List.filter_append,e',← e,show i + ((0:Nat):Int)=i by omega]
  show linesOf (.i i) (zapT (shT x).list k) ++ _=_
  rw [lines_zap2 h.1 h.2]
  congr 1
  refine (filt_all fun l hl=>?_).symm
  obtain ⟨j,_,hm⟩:=shot_mem hl
  rw [lines_fst hm]
  show i + 1 + (j:Int)≠i
  omega
 | x :: r,i,j + 1,k,hj,h=>by
  have ih:=shot_zap (S:=r) (i:=i + 1) (j:=j) (k:=k) (by simpa using hj) h
  show shotLines i (x :: r.set j (shSet (U.at r j) (zapT (shT (U.at r j)).list k)))=_
  rw [shotLines,shotLines,List.filter_append,ih,show i + ((j + 1:Nat):Int)=i + 1 + j by omega]
  congr 1
  refine (filt_all fun l hl=>?_).symm
  rw [lines_fst hl]
  show i≠i + 1 + (j:Int)
  omega
structure MR (n c:Int) (T S:List U):Prop where
 t:TR T n c
 tl:T.length≤512
 s:shotsR c S=true
 sl:∀ x,x ∈ S→(shT x).list.length≤512
theorem shT_e2 (x:U):shT x=e2 x:=by show nth _ x.list.tail.tail 0=_;rw [nth_tail,nth_tail]
theorem shots_at {c:Int}:∀ (S:List U),shotsR c S=true↔∀ j,j < S.length→sizeR (e1 (U.at S j)).int c=true∧tableR (shT (U.at S j)).list ((e1 (U.at S j)).int / 2 ^ c.toNat) c=true
 | []=>⟨fun _ j hj=>absurd hj (Nat.not_lt_zero _),fun _=>rfl⟩
 | x :: r=>by
  rw [shotsR,Bool.and_eq_true,Bool.and_eq_true,shots_at r,← shT_e2]
  constructor
  ·rintro ⟨h1,h2⟩ j hj
   cases j with
   | zero=>exact h1
   | succ j=>exact h2 j (by simpa using hj)
  ·intro h
   exact ⟨h 0 (by simp),fun j hj=>h (j + 1) (by simpa using hj)⟩
theorem e1_shSet (x:U) (T:List U):e1 (shSet x T)=e1 x:=by
 show nth (.i 0) x.list.tail 0=nth (.i 0) x.list 1
 rw [nth_tail]
theorem MR.step {n c:Int} {T S:List U} (g:MR n c T S) {l:U} (hl:l ∈ lnsM (T,S)):MR n c (woStep (.i 1) (.i 0) (.i 0) (.i 0) (.i 0) (T,S) (plU l)).1 (woStep (.i 1) (.i 0) (.i 0) (.i 0) (.i 0) (T,S) (plU l)).2∧
  lnsM (woStep (.i 1) (.i 0) (.i 0) (.i 0) (.i 0) (T,S) (plU l))=(lnsM (T,S)).filter (fun x=>!decide (plI x=plI l))∧(woStep (.i 1) (.i 0) (.i 0) (.i 0) (.i 0) (T,S) (plU l)).2.map e0=S.map e0:=by
 unfold lnsM at hl
 rcases List.mem_append.1 hl with hl | hl
 ·obtain ⟨k,hk,rfl⟩:=line_mem hl
  have e:woStep (.i 1) (.i 0) (.i 0) (.i 0) (.i 0) (T,S) (plU (.l (lineU (.i (-1)) T k)))=(setX T k (.i 1) (.i 0) (.i 0) (.i 0) (.i 0),S):=rfl
  rw [e,set_zap g.t hk g.tl]
  obtain ⟨h1,h2,_,_⟩:=g.t.hit hk
  refine ⟨⟨g.t.zap hk,by show (zapT T k).length≤512;unfold zapT;rw [List.length_set];exact g.tl,g.s,g.sl⟩,?_,rfl⟩
  unfold lnsM
  rw [List.filter_append,plI_line]
  show linesOf (.i (-1)) (zapT T k) ++ shotLines 0 S=_
  rw [lines_zap2 h1 h2]
  congr 1
  refine (filt_all fun l hl=>?_).symm
  obtain ⟨j,_,hm⟩:=shot_mem hl
  rw [lines_fst hm]
  show 0 + (j:Int)≠-1
  omega
 ·obtain ⟨j,hj,hm⟩:=shot_mem hl
  obtain ⟨k,hk,rfl⟩:=line_mem hm
  have hs:=(shots_at S).1 g.s j hj
  have hin:U.at S j ∈ S:=by rw [at_get hj];exact List.getElem_mem hj
  have gt:=TR.iff.1 hs.2
  obtain ⟨h1,h2,_,_⟩:=gt.hit hk
  have hz:(0:Int) + (j:Int)=j:=Int.zero_add _
  have e:woStep (.i 1) (.i 0) (.i 0) (.i 0) (.i 0) (T,S) (plU (.l (lineU (.i (0 + (j:Int))) (shT (U.at S j)).list k)))=(T,S.set j (shSet (U.at S j) (setX (shT (U.at S j)).list k (.i 1) (.i 0) (.i 0) (.i 0) (.i 0)))):=by
   rw [hz]
   unfold woStep
   show (bif decide ((j:Int) < 0) then _ else (T,S.set (j:Int).toNat (shSet (U.at S (j:Int).toNat) (setX (shT (U.at S (j:Int).toNat)).list k _ _ _ _ _))))=_
   rw [decide_eq_false (by omega),cond_false,Int.toNat_natCast]
  rw [e,set_zap gt hk (g.sl _ hin)]
  refine ⟨⟨g.t,g.tl,(shots_at _).2 fun i hi=>?_,fun x hx=>?_⟩,?_,?_⟩
  ·rw [List.length_set] at hi
   show sizeR (e1 (U.at (S.set j _) i)).int c=true∧tableR (shT (U.at (S.set j _) i)).list ((e1 (U.at (S.set j _) i)).int / 2 ^ c.toNat) c=true
   rw [at_set hj]
   split
   ·rw [e1_shSet,shT_shSet]
    exact ⟨hs.1,TR.iff.2 (gt.zap hk)⟩
   ·exact (shots_at S).1 g.s i hi
  ·rcases List.mem_or_eq_of_mem_set hx with hx | rfl
   ·exact g.sl x hx
   ·rw [shT_shSet]
    show (zapT _ k).length≤512
    unfold zapT
    rw [List.length_set];exact g.sl _ hin
  ·unfold lnsM
   rw [List.filter_append,plI_line]
   show linesOf (.i (-1)) T ++ shotLines 0 (S.set j _)=_
   rw [shot_zap hj ⟨h1,h2⟩]
   congr 1
   refine (filt_all fun l hl=>?_).symm
   rw [lines_fst hl]
   show (-1:Int)≠0 + (j:Int)
   omega
  ·show (S.set j _).map e0=S.map e0
   rw [List.map_set]
   have:e0 (shSet (U.at S j) (zapT (shT (U.at S j)).list k))=e0 S[j]:=by rw [at_get hj];rfl
   rw [this,← List.map_set,List.set_getElem_self]
theorem MR.wo {n c:Int}:∀ (B T S:List U),MR n c T S→(∀ l,l ∈ B→l ∈ lnsM (T,S))→(B.map plI).Nodup→MR n c (woOf (.i 1) (.i 0) (.i 0) (.i 0) (.i 0) T S (B.map plU)).1 (woOf (.i 1) (.i 0) (.i 0) (.i 0) (.i 0) T S (B.map plU)).2∧
  lnsM (woOf (.i 1) (.i 0) (.i 0) (.i 0) (.i 0) T S (B.map plU))=(lnsM (T,S)).filter (fun x=>!decide (plI x ∈ B.map plI))∧(woOf (.i 1) (.i 0) (.i 0) (.i 0) (.i 0) T S (B.map plU)).2.map e0=S.map e0
 | [],T,S,g,_,_=>⟨g,by
  show lnsM (T,S)=_
  refine (List.filter_eq_self.2 fun l _=>?_).symm
  simp,rfl⟩
 | l :: r,T,S,g,hB,hN=>by
  obtain ⟨n1,n2⟩:=List.nodup_cons.1 hN
  obtain ⟨s1,s2,s3⟩:=g.step (hB l (List.mem_cons_self ..))
  have e:woOf (.i 1) (.i 0) (.i 0) (.i 0) (.i 0) T S ((l :: r).map plU)=woOf (.i 1) (.i 0) (.i 0) (.i 0) (.i 0) (woStep (.i 1) (.i 0) (.i 0) (.i 0) (.i 0) (T,S) (plU l)).1 (woStep (.i 1) (.i 0) (.i 0) (.i 0) (.i 0) (T,S) (plU l)).2 (r.map plU):=rfl
  rw [e]
  obtain ⟨i1,i2,i3⟩:=MR.wo r _ _ s1 (fun x hx=>by
   show x ∈ lnsM (woStep (.i 1) (.i 0) (.i 0) (.i 0) (.i 0) (T,S) (plU l))
   rw [s2]
   refine List.mem_filter.2 ⟨hB x (List.mem_cons_of_mem _ hx),?_⟩
   rw [decide_eq_false fun e=>n1 (List.mem_map.2 ⟨x,hx,e⟩)];rfl) n2
  refine ⟨i1,?_,i3.trans s3⟩
  rw [i2]
  show (lnsM (woStep (.i 1) (.i 0) (.i 0) (.i 0) (.i 0) (T,S) (plU l))).filter _=_
  rw [s2,List.filter_filter]
  refine List.filter_congr fun x _=>?_
  by_cases h1:plI x=plI l
  ·simp [h1]
  ·simp [h1]
theorem bd_out (c z s T Sh M Q F:U):bdU c z s T Sh M Q F=(outL (whU F) c.int [] (lnsM (T.list,Sh.list))).map plU:=by
 refine Eq.trans (show _=((lnsM (T.list,Sh.list)).foldl (badStep (whU F) c.int) ([],[])).1 from rfl) ?_
 rw [fold_out,List.nil_append]
section
variable {c z s T Sh M Q F:U}
theorem MR.of_right (h:metaR c z s T Sh M Q=true) (hpre:mgP T Sh):MR (z.int / 2 ^ c.int.toNat) c.int T.list Sh.list:=by
 obtain ⟨hG,_,_⟩:=GM.of_right h hpre.1 hpre.2
 unfold metaR at h
 simp only [Bool.and_eq_true] at h
 exact ⟨TR.iff.1 h.1.1.1.1.1.1.1.1.2,hG.t.len,h.1.1.1.1.2,fun x hx=>(hG.st x hx).len⟩
theorem mend_lines (h:metaR c z s T Sh M Q=true) (hpre:mgP T Sh):MR (z.int / 2 ^ c.int.toNat) c.int (woU c z s T Sh M Q F).1 (woU c z s T Sh M Q F).2∧lnsM (woU c z s T Sh M Q F)=keepL (whU F) c.int [] (lnsM (T.list,Sh.list))∧
  (woU c z s T Sh M Q F).2.map e0=Sh.list.map e0:=by
 unfold woU
 rw [bd_out]
 obtain ⟨h1,h2,h3⟩:=MR.wo (outL (whU F) c.int [] (lnsM (T.list,Sh.list))) _ _ (MR.of_right h hpre) (fun l hl=>out_sub hl) (out_nodup _ _ (lns_nodup _))
 refine ⟨h1,?_,h3⟩
 rw [h2,keep_filter _ _ (lns_nodup _)]
abbrev mT (c z s T Sh M Q F:U):U:=.l (woU c z s T Sh M Q F).1
abbrev mS (c z s T Sh M Q F:U):U:=.l ((woU c z s T Sh M Q F).2.map cutSh)
abbrev mM (M:U):U:=.l (M.list.map mpSet)
abbrev mQ (c z s T Sh M Q F:U):U:=.l (ofV (okM c z s T Sh M Q F) (szU F).toNat)
theorem mended_lns:lnsM ((mT c z s T Sh M Q F).list,(mS c z s T Sh M Q F).list)=lnsM (woU c z s T Sh M Q F):=by
 show linesOf _ _ ++ shotLines 0 (List.map cutSh _)=_
 rw [shotLines_cut];rfl
theorem mended_none (h:metaR c z s T Sh M Q=true) (hpre:mgP T Sh) (M' Q':U):bdU c z s (mT c z s T Sh M Q F) (mS c z s T Sh M Q F) M' Q' F=[]:=by
 rw [bd_out,mended_lns,(mend_lines h hpre).2.1,out_keep];rfl
theorem mended_ok (h:metaR c z s T Sh M Q=true) (hpre:mgP T Sh) (M' Q':U):okM c z s (mT c z s T Sh M Q F) (mS c z s T Sh M Q F) M' Q' F=okM c z s T Sh M Q F:=by
 unfold okM
 have e:woU c z s (mT c z s T Sh M Q F) (mS c z s T Sh M Q F) M' Q' F=((mT c z s T Sh M Q F).list,(mS c z s T Sh M Q F).list):=by
  unfold woU
  rw [mended_none h hpre];rfl
 rw [e]
 exact mended_lns
theorem cover_le (k:Nat):∀ L:List U,coverR L k≤(L.length:Int)
 | []=>Int.le_refl _
 | l :: r=>by
  have h1:=cover_le k r
  have h2:=(inI_01 (lnSt l).int ((lnSt l).int + (lnCt l).int) k).2
  rw [coverR,List.length_cons]
  omega
theorem counts_of:∀ {l:List U},(∀ x,x ∈ l→0≤x.int∧x.int≤65535)→countsR l=true
 | [],_=>rfl
 | x :: r,h=>by
  obtain ⟨h1,h2⟩:=h x (List.mem_cons_self ..)
  rw [countsR,counts_of fun y hy=>h y (List.mem_cons_of_mem _ hy),decide_eq_true h1,decide_eq_true h2];rfl
theorem maps_set:∀ M:List U,mapsR (M.map mpSet)=mapsR M
 | []=>rfl
 | b :: r=>by
  have e:(e2 (mpSet b)).list=(e2 b).list:=by
   show (nth (.i 0) b.list.tail.tail 0).list=(nth (.i 0) b.list 2).list
   rw [nth_tail,nth_tail]
  rw [List.map_cons,mapsR,mapsR,maps_set r,e]
theorem shots_cut (c:Int):∀ S:List U,shotsR c (S.map cutSh)=shotsR c S
 | []=>rfl
 | x :: r=>by
  have e:(e2 (cutSh x)).list=(e2 x).list:=by rw [← shT_e2,← shT_e2,shT_shSet];rfl
  rw [List.map_cons,shotsR,shotsR,shots_cut c r,e,e1_shSet]
theorem flCnts_self {sz:Int} {Q:List U} (hs:(Q.length:Int)≤sz):∀ (R:List U) (i:Nat),R=Q.drop i→flCnts sz Q i R=[]
 | [],_,_=>rfl
 | x :: r,i,h=>by
  have hi:i < Q.length:=by
   by_cases hi:i < Q.length
   ·exact hi
   ·rw [List.drop_eq_nil_of_le (by omega)] at h;cases h
  rw [drop_cons_at hi] at h
  injection h with h1 h2
  rw [flCnts,show (i:Int) + 1=((i + 1:Nat):Int) by omega,flCnts_self hs r (i + 1) h2,List.append_nil]
  unfold flCnt
  rw [decide_eq_true (by omega:(i:Int) < (Q.length:Int)),decide_eq_false (by omega:¬ (i:Int) ≥ sz),Int.toNat_natCast,cond_true,cond_false,h1,decide_eq_false (Int.lt_irrefl _)]
  rfl
theorem mended_len (c z s T Sh M Q F:U):(mQ c z s T Sh M Q F).list.length=(szU F).toNat:=ofV_len _ _
theorem mended_mg (h:metaR c z s T Sh M Q=true) (hpre:mgP T Sh):mgP (mT c z s T Sh M Q F) (mS c z s T Sh M Q F):=by
 obtain ⟨_,_,_,_,_,hG⟩:=md_conds (F:=F) h hpre
 exact ⟨by have:=hG.t.len;show (woU c z s T Sh M Q F).1.length≤_;omega,fun x hx=>by have:=(hG.st x hx).len;omega⟩
theorem ofV_in (h:metaR c z s T Sh M Q=true) (hpre:mgP T Sh) (n:Nat):∀ x,x ∈ ofV (okM c z s T Sh M Q F) n→0≤x.int∧x.int≤36866:=fun x hx=>by
 obtain ⟨_,_,hW,_,_,_⟩:=md_conds (F:=F) h hpre
 unfold ofV at hx
 obtain ⟨k,_,rfl⟩:=List.mem_map.1 hx
 have h1:=cover_nonneg k (okM c z s T Sh M Q F)
 have h2:=cover_le k (okM c z s T Sh M Q F)
 have h3:(okM c z s T Sh M Q F).length≤36864:=hW.each.2
 show 0≤(if k < 2 then (1:Int) else 0) + _∧(if k < 2 then (1:Int) else 0) + _≤36866
 split<;>omega
theorem mended_rightQ (h:metaR c z s T Sh M Q=true) (hpre:mgP T Sh) {Q':U} (hq:Q'.list.length≤65536) (hcn:countsR Q'.list=true):metaR c z s (mT c z s T Sh M Q F) (mS c z s T Sh M Q F) (mM M) Q' = true:=by
 obtain ⟨g,_,hn⟩:=mend_lines (F:=F) h hpre
 have hlen:(woU c z s T Sh M Q F).2.length=Sh.list.length:=by
  have:=congrArg List.length hn
  rw [List.length_map,List.length_map] at this;exact this
 unfold metaR at h ⊢
 simp only [Bool.and_eq_true,decide_eq_true_eq] at h ⊢
 obtain ⟨⟨⟨⟨⟨⟨⟨⟨⟨⟨⟨⟨h1,h2⟩,h3⟩,h4⟩,h5⟩,h6⟩,h7⟩,h8⟩,h9⟩,h10⟩,h11⟩,h12⟩,h13⟩:=h
 refine ⟨⟨⟨⟨⟨⟨⟨⟨⟨⟨⟨⟨h1,h2⟩,h3⟩,h4⟩,TR.iff.2 g.t⟩,?_⟩,?_⟩,?_⟩,?_⟩,?_⟩,hcn⟩,?_⟩,?_⟩
 ·show (List.map cutSh _).length≤8
  rw [List.length_map,hlen];exact h6
 ·show (List.map mpSet _).length≤8
  rw [List.length_map];exact h7
 ·exact hq
 ·show shotsR c.int (List.map cutSh _)=true
  rw [shots_cut];exact g.s
 ·show mapsR (List.map mpSet _)=true
  rw [maps_set];exact h10
 ·have e:(mS c z s T Sh M Q F).list.map e0=Sh.list.map e0:=by
   show (List.map cutSh _).map e0=_
   rw [List.map_map,← hn];rfl
  rw [e];exact h12
 ·have e:(mM M).list.map e0=M.list.map e0:=by
   show (List.map mpSet _).map e0=_
   rw [List.map_map];rfl
  rw [e];exact h13
theorem mended_right (h:metaR c z s T Sh M Q=true) (hpre:mgP T Sh):metaR c z s (mT c z s T Sh M Q F) (mS c z s T Sh M Q F) (mM M) (mQ c z s T Sh M Q F)=true:=
 mended_rightQ h hpre (by rw [mended_len];have:=szU_in F;omega) (counts_of fun x hx=>by have:=ofV_in h hpre _ x hx;omega)
theorem nU_mended (Q':U) (h:Q'.list.length=(szU F).toNat):nU F Q' = szU F:=by
 have:=szU_in F
 unfold nU
 rw [decide_eq_false (by omega)];rfl
theorem mended_fa (h:metaR c z s T Sh M Q=true) (hpre:mgP T Sh):faV c z s (mT c z s T Sh M Q F) (mS c z s T Sh M Q F) (mM M) (mQ c z s T Sh M Q F) F=[]:=by
 have:=szU_in F
 unfold faV
 rw [mended_none h hpre,mended_ok h hpre,nU_mended _ (mended_len ..),List.map_nil,List.nil_append]
 refine flCnts_self ?_ _ 0 rfl
 rw [mended_len];omega
end
end Go.Mat

namespace Go.Den
open Go Go.RowKit
section
variable {P:Program} {Θ:Anc} {n:Nat} {σ:St} {a:Act} {w w':World} {Z:Nat→Prop} {G:Nat→Value}
theorem Sim.kept (S:Sim P Θ n σ a w Z G) {a':Act} (F:Fut (fun _=>False) w w') (hs:a'.tmps.size=n) (hd:a'.defers=a.defers) (hk:∀ t,get σ.env t = .unk∨a'.tmps.getD t undef=a.tmps.getD t undef):Sim P Θ n σ a' w' Z G:=
 {S.other F (fun _ h=>h.elim) with
  size:=hs
  calm:=hd.trans S.calm
  slot:=fun t=>by
   rcases hk t with h | h
   ·rw [h];trivial
   ·rw [h];exact (S.other F (fun _ h=>h.elim)).slot t }
theorem Sim.iced (S:Sim P Θ n σ a w Z G) {id:Nat} {e:TypeId} {xs:List U} {m:Bool} {cs:List Ct} (hp:getO σ.objs id=some (.arr e xs)) (hcs:Cs P e=some (m,cs)):∃ Z',Sim P Θ n (σ.freeze id (.val (.sl m cs) (.l xs))) a w Z' G:=by
 obtain ⟨m2,cs2,vs,h1,h2,h3⟩:=S.obj id _ hp
 rw [hcs] at h1
 cases h1
 have hx:RepC w (fun b=>Z b∨blk (G id)=some b) (.sl m cs) (G id) (.l xs):=own_rep (fun _ hb=>Or.inl hb) (fun b hb=>Or.inr hb) h2 h3
 exact ⟨_,S.freeze (x:=.val (.sl m cs) (.l xs)) hp hx fun b hb=>arr_plain (S.obj id _ hp) hb⟩
end
def keepsE (ops:Array Oper):List (Nat × SV)→Bool
 | []=>true
 | (t,_) :: r=>ops.toList.all (fun o=>match o.dst with | some d=>!Nat.beq d t | none=>true) && keepsE ops r
theorem keepsE_get {ops:Array Oper}:∀ {env:List (Nat × SV)} (t:Nat),keepsE ops env=true→get env t = .unk∨∀ o ∈ ops.toList,o.dst≠some t
 | [],_,_=>.inl rfl
 | (k,s) :: r,t,h=>by
  unfold keepsE at h
  rw [Bool.and_eq_true] at h
  rw [get_cons]
  split
  ·rename_i e
   subst e
   refine .inr fun o ho hd=>?_
   have:=List.all_eq_true.1 h.1 o ho
   rw [hd] at this
   simp at this
  ·exact keepsE_get t h.2
theorem slots_in {w:World} {Z:Nat→Prop} {G:Nat→Value} {a:Act}:∀ {ex:List (Nat × SV)},(∀ p ∈ ex,RepSV w Z G p.2 (a.tmps.getD p.1 undef))→∀ t,RepSV w Z G (get ex t) (a.tmps.getD t undef)
 | [],_,_=>trivial
 | p :: r,h,t=>by
  rw [get_cons]
  split
  ·rename_i e;subst e;exact h p (List.mem_cons_self ..)
  ·exact slots_in (fun q hq=>h q (List.mem_cons_of_mem _ hq)) t
theorem peek {C:Ctx} (hC:C.Ok) (hpan:∀ s σ,¬ C.pan s σ) {Θ:Anc} {n id rid bid:Nat} {ops:Array Oper} (hdef:ops.toList.all (fun o=>!isDefer o)=true) (hok:opersOk n ops.toList=true) {Q:Exit→Act→World→Prop} {σ:St} {a:Act} {w:World} {Z:Nat→Prop} {G:Nat→Value}
  (S:Sim C.P Θ n σ a w Z G) {e:TypeId} {xs us:List U} {m:Bool} {cs cs2:List Ct} (hrow:getO σ.objs rid=some (.arr e xs)) (hcs:Cs C.P e=some (m,cs)) (hbox:getO (σ.freeze rid (.val (.sl m cs) (.l xs))).objs bid=some (.box (vals cs2 us)))
  {env:List (Nat × SV)} (henv:∀ p ∈ env,(p.2 = .rptr cs2 us∧get (σ.freeze rid (.val (.sl m cs) (.l xs))).env p.1 = .ptr bid 0)∨get ((σ.freeze rid (.val (.sl m cs) (.l xs))).freeze bid .unk).env p.1=p.2) (hkeep:keepsE ops σ.env=true)
  {k:St→Prop} (h:Holds (execOps C ops.toList ops.toList ⟨env,[]⟩ k)) (hQ:∀ σ' a' w' Z' G',k σ'→(∀ t,RepSV w' Z' G' (get σ'.env t) (a'.tmps.getD t undef))→Sim C.P Θ n σ a' w' Z G→Q .normal a' w'):(Code.region id ops false).wp C.P Q a w:=by
 obtain ⟨Z1,S1⟩:=S.iced hrow hcs
 obtain ⟨Z2,hZ,S2,hp⟩:=S1.shut hbox
 refine it_regionS hC hpan hdef hok S2.size (slots_in fun p hpe=>?_) S2.lt S2.flat h.out fun σ' a' w' Z' G' hk S' kp=>?_
 ·rcases henv p hpe with ⟨h1,h2⟩ | h1
  ·have:=S1.slot p.1
   rw [h2] at this
   rw [h1]
   exact hp _ this
  ·have:=S2.slot p.1
   rw [h1] at this
   exact this
 ·refine hQ σ' a' w' Z' G' hk S'.slot (S.kept S'.fut S'.size S'.calm fun t=>?_)
  exact (keepsE_get t hkeep).imp_right (kp t)
end Go.Den

namespace Go.Mat
open Go Go.Den Go.Proofs
noncomputable def ctC:Ctx:=(mkC PR eqsF (fnsCons 9 tA15 (fnsCons 12 nA15 (fnsCons 19 sumS (fnsConsP 21 setP setQ
 (fnsConsP 20 fileP fileS (fnsConsP 15 faP faS fnsNil)))))) (trsCons 16 [] mdF trsNil) noLoops noOut noOut).panics fun _ _=>False
def tkI (a:U):Int:=Int.tmod (IntKind.wrap IntKind.i64 a.int) 40
def nvI (Q:List U) (a b:U):Int:=bif decide ((0:Int) < IntKind.wrap IntKind.i64 (U.int (nth (U.i 0) Q (Int.toNat (tkI a))) + IntKind.wrap IntKind.i64 b.int)) then IntKind.wrap IntKind.i64 (U.int (nth (U.i 0) Q (Int.toNat (tkI a))) + IntKind.wrap IntKind.i64 b.int) else (0:Int)
def setI (Q:List U) (a b:U):List U:=Q.set (tkI a).toNat (.i (nvI Q a b))
noncomputable def ctB:Code:=bodyOf Try.f7
theorem ct_A (k:KE) (a b x:U):(exec ctC (takeC 4 ctB) 0 ⟨[(0,.val (.int .u8) a),(1,.val (.int .i8) b),(2,.val (.int .u8) x)],[]⟩ (seenS [0,1,7,9] [1152,8536074,8536076,8536078] k))=(fileP [[U.i 40]]∧bif decide ((0:Int)≤IntKind.wrap .i64 ((16:Int) * stP x)∧IntKind.wrap .i64 ((16:Int) * stP x)≤IntKind.wrap .i64 (IntKind.wrap .i64 ((16:Int) * stP x) + 64)∧IntKind.wrap .i64 (IntKind.wrap .i64 ((16:Int) * stP x) + 64)≤IntKind.wrap .i64 (IntKind.wrap .i64 ((16:Int) * stP x) + 64)∧IntKind.wrap .i64 (IntKind.wrap .i64 ((16:Int) * stP x) + 64)≤(lawF.length:Int)) && true then (fun T=>Alt T T) (setP [[U.l []],[U.i 0],[U.i 2,U.i (stP x),U.i 4,U.i 0,U.i (sumI 0 (List.drop (Int.toNat (IntKind.wrap .i64 ((16:Int) * stP x))) (List.take (Int.toNat (IntKind.wrap .i64 (IntKind.wrap .i64 ((16:Int) * stP x) + 64))) lawF)))]]∧k Ex.normal (St.mk [(0,.val (.int .u8) a),(1,.val (.int .i8) b),(7,.val (.sl false [.int .u8]) (U.l lawF)),(9,.ptr 1152 0)] [(1152,.box [vi (U.i 2),vi (U.i 4),.val .str (U.s ⟨#[]⟩),.val (.sl false [.sl true EC]) (U.l (setY [] 0 (U.i 2) (U.i (stP x)) (U.i 4) (U.i 0) (U.i (sumI 0 (List.drop (Int.toNat (IntKind.wrap .i64 ((16:Int) * stP x))) (List.take (Int.toNat (IntKind.wrap .i64 (IntKind.wrap .i64 ((16:Int) * stP x) + 64))) lawF)))))),.own 8536074,.own 8536076,.own 8536078]),(8536074,.arr 73 []),(8536076,.arr 77 []),(8536078,.arr 3 [])])) else False):=by kernel_rfl
theorem ct_B (k:KE) (a b F c z s T:U):(exec ctC (takeC 0 (dropC 5 ctB)) 0 ⟨[(0,.val (.int .u8) a),(1,.val (.int .i8) b),(7,vf F),(9,.ptr 1152 0)],[(1152,.box [vi c,vi z,vs s,.val TRC T,.own 8536074,.own 8536076,.own 8536078]),(8536074,.arr 73 []),(8536076,.arr 77 []),(8536078,.arr 3 [])]⟩
 (seenS [0,1,7,10,11] [1280,5008] k))=(((EC=EC∧[Ct.str,.int .i64,Ct.sl false [Ct.sl true EC]]=[Ct.str,.int .i64,Ct.sl false [Ct.sl true EC]]∧[Ct.str,Ct.bool,Ct.sl true [.int .i64,.int .i64]]=[Ct.str,Ct.bool,Ct.sl true [.int
 .i64,.int .i64]])∧metaR c z s T (U.l []) (U.l []) (U.l [])=true∧mdP [[c,z,s,T,U.l [],U.l [],U.l []],[F]])∧k Ex.normal (St.mk [(0,SV.val (.int .u8) a),(1,SV.val (.int .i8) b),(7,SV.val
 (Ct.sl false [.int .u8]) F),(10,SV.ptr 1280 0),(11,vi (U.i 0))] [(1280,Obj.box [vi c,vi z,SV.val Ct.str s,SV.val (Ct.sl false [Ct.sl true EC]) (U.l (Prod.fst (woU c z s T (U.l []) (U.l []) (U.l
 []) F))),SV.val (Ct.sl true [Ct.str,.int .i64,Ct.sl false [Ct.sl true EC]]) (U.l (List.map cutSh (Prod.snd (woU c z s T (U.l []) (U.l []) (U.l []) F)))),SV.val (Ct.sl true [Ct.str,Ct.bool,Ct.sl true
 [.int .i64,.int .i64]]) (U.l []),SV.own 5008]),(5008,Obj.arr 3 (ofV (okM c z s T (U.l []) (U.l []) (U.l []) F) (Int.toNat (szU F))))])):=by kernel_rfl
abbrev cBox (c z s T Sh M:U):Den.Obj:=.box [vi c,vi z,vs s,.val TRC T,vt SC Sh,vt BC M,.own 5008]
noncomputable def ct6:Array Oper:=regOps (piece ctB [1,1,1,1,1,1,0,0])
theorem ct_C (k:SV→Prop) (F er c z s T Sh M Q:U):(execOps ctC ct6.toList ct6.toList ⟨[(7,vf F),(10,.rptr MTC [c,z,s,T,Sh,M,Q]),(11,vi er)],[]⟩ (fun σ=>k (get σ.env 57)))=(bif er.int != 0 then k (SV.val Ct.bool (U.b true)) else bif (↑(List.length (U.list (nth (U.i 0) (List.drop (6:Nat) [c,z,s,T,Sh,M,Q]) (0:Nat)))):Int) != 40 then k (SV.val Ct.bool (U.b true))
 else faP [[c,z,s,T,Sh,M,Q],[F]]∧k (SV.val Ct.bool (U.b ((↑(List.length (bif metaR c z s T Sh M Q then faV c z s T Sh M Q F else [])):Int) != 0)))):=by kernel_rfl
theorem ct_D (k:KE) (a b F er c z s T Sh M:U) (Q:List U):(exec ctC (takeC 3 (dropC 7 ctB)) 0 ⟨[(0,.val (.int .u8) a),(1,.val (.int .i8) b),(7,vf F),(10,.ptr 1280 0),(11,vi er)],[(1280,cBox c z s T Sh M),(5008,.arr 3 Q)]⟩
 (seenS [10,12,13,14] [1280] k))=(bif decide ((0:Int)≤tkI a∧tkI a < (↑(List.length Q):Int)) then bif Nat.blt (Int.toNat (tkI a)) (List.length Q) then bif decide ((0:Int)≤tkI a∧tkI a < (↑(List.length Q):Int)) then bif Nat.blt
 (Int.toNat (tkI a)) (List.length Q) then faP [[c,z,s,T,Sh,M,U.l (setI Q a b)],[F]]∧k Ex.normal (St.mk [(10,SV.ptr 1280 0),(12,vi (U.i (tkI a))),(13,vi (nth (U.i 0) Q (Int.toNat (tkI a)))),
 (14,SV.val (Ct.sl true FLC) (U.l (bif metaR c z s T Sh M (U.l (setI Q a b)) then faV c z s T Sh M (U.l (setI Q a b)) F else [])))] [(1280,Obj.box [vi c,vi z,SV.val Ct.str s,SV.val (Ct.sl false [Ct.sl
 true EC]) T,SV.val (Ct.sl true [Ct.str,.int .i64,Ct.sl false [Ct.sl true EC]]) Sh,SV.val (Ct.sl true [Ct.str,Ct.bool,Ct.sl true [.int .i64,.int .i64]]) M,SV.val (Ct.sl false [.int .i64]) (U.l (setI
 Q a b))])]) else False else False else False else False):=by kernel_rfl
theorem ct_E (k:KE) (i v L c z s T Sh M Q:U):(exec ctC (dropC 11 ctB) 0 ⟨[(10,.ptr 1280 0),(12,vi i),(13,vi v),(14,vt FLC L)],[(1280,mBox c z s T Sh M Q)]⟩ (seenS [6] [] k))=(bif decide ((0:Int)≤i.int∧i.int < (Q.list.length:Int)) then bif U.int (nth (U.i 0) Q.list (Int.toNat i.int)) == v.int then bif (L.list.length:Int) == 0 then k Ex.ret (St.mk [(6,.val .bool (U.b true))] []) else k Ex.ret (St.mk [(6,.val .bool (U.b false))] []) else bif decide ((0:Int)≤i.int∧i.int < (Q.list.length:Int)) then bif decide (U.int (nth (U.i 0) Q.list (Int.toNat i.int)) > v.int) then bif (L.list.length:Int) == 1 then bif decide ((0:Int)≤0∧(0:Int) < (L.list.length:Int)) then bif U.int (nth (U.i 0) (U.list (nth (U.i 0) L.list (Int.toNat 0))) (0:Nat)) == 3 && (U.int (nth (U.i 0) (List.tail (U.list (nth (U.i 0) L.list (Int.toNat 0)))) (0:Nat)) == i.int && (U.int (nth (U.i 0) (List.tail (List.tail (U.list (nth (U.i 0) L.list (Int.toNat 0))))) (0:Nat)) == 0 && true)) then k Ex.ret (St.mk [(6,.val .bool (U.b true))] []) else k Ex.ret (St.mk [(6,.val .bool (U.b false))] []) else False else k Ex.ret (St.mk [(6,.val .bool (U.b false))] []) else bif (L.list.length:Int) == 1 then bif decide ((0:Int)≤0∧(0:Int) < (L.list.length:Int)) then bif U.int (nth (U.i 0) (U.list (nth (U.i 0) L.list (Int.toNat 0))) (0:Nat)) == 2 && (U.int (nth (U.i 0) (List.tail (U.list (nth (U.i 0) L.list (Int.toNat 0)))) (0:Nat)) == i.int && (U.int (nth (U.i 0) (List.tail (List.tail (U.list (nth (U.i 0) L.list (Int.toNat 0))))) (0:Nat)) == 0 && true)) then k Ex.ret (St.mk [(6,.val .bool (U.b true))] []) else k Ex.ret (St.mk [(6,.val .bool (U.b false))] []) else False else k Ex.ret (St.mk [(6,.val .bool (U.b false))] []) else False else False):=by kernel_rfl
end Go.Mat

namespace Go.Mat
open Go Go.Den Go.Proofs
set_option maxRecDepth 100000
def flD (k:Nat) (v q:Int):List U:=bif decide (v < q) then [.l [.i 2,.i k,.i 0]] else bif decide (v > q) then [.l [.i 3,.i k,.i 0]] else []
theorem flCnts_set {sz:Int} {Q:List U} {k:Nat} {v:Int} (hk:k < Q.length) (hs:(Q.length:Int)≤sz):∀ (R:List U) (i:Nat),R=Q.drop i→flCnts sz (Q.set k (.i v)) i R=if i≤k then flD k v (U.at Q k).int else []
 | [],i,h=>by
  have hi:¬ i≤k:=fun hi=>by
   rw [drop_cons_at (by omega:i < Q.length)] at h
   cases h
  rw [if_neg hi];rfl
 | x :: r,i,h=>by
  have hi:i < Q.length:=by
   by_cases hi:i < Q.length
   ·exact hi
   ·rw [List.drop_eq_nil_of_le (by omega)] at h;cases h
  rw [drop_cons_at hi] at h
  injection h with h1 h2
  rw [flCnts,show (i:Int) + 1=((i + 1:Nat):Int) by omega,flCnts_set hk hs r (i + 1) h2]
  unfold flCnt
  rw [List.length_set,decide_eq_true (by omega:(i:Int) < (Q.length:Int)),decide_eq_false (by omega:¬ (i:Int) ≥ sz),Int.toNat_natCast,cond_true,cond_false,h1,at_set hk]
  by_cases e:i=k
  ·subst e
   rw [if_pos rfl,if_pos (Nat.le_refl _),if_neg (by omega),List.append_nil];rfl
  ·rw [if_neg e,decide_eq_false (Int.lt_irrefl _)]
   by_cases hlt:i≤k
   ·rw [if_pos hlt,if_pos (by omega)];rfl
   ·rw [if_neg hlt,if_neg (by omega)];rfl
theorem meta1 {x s:Int} (hm:mayR 2 x 4 0 s 2=true):metaR (.i 2) (.i 4) (.s (ByteArray.mk #[])) (.l (tb1 x 4 s)) (.l []) (.l []) (.l [])=true:=by
 unfold metaR
 have h:=tab1 hm (n:=1) (by decide) (by decide)
 have e:tableR (U.list (.l (tb1 x 4 s))) ((U.i 4).int / 2 ^ (U.i 2).int.toNat) (U.i 2).int=true:=h
 rw [e]
 decide
theorem ctC_ok:ctC.Ok:=(mkC_ok eqsF_ok mixed_ok (.cons aw_ok (.cons numA_ok (.cons rsum_ok (.consP rset_ok (.consP file_ok (.consP fa_ok .nil)))))) (.cons mdT_ok .nil)).panics _
theorem ct_walk {w:World} {a:Act} {Z:Nat→Prop} {Q:Exit→Act→World→Prop} {x y z:U} (hx:0≤x.int∧x.int≤255) (hy:-128≤y.int∧y.int≤127) (hz:0≤z.int∧z.int≤255)
  (Sm:Sim PR (Th0 w Z) 113 ⟨[(0,.val (.int .u8) x),(1,.val (.int .i8) y),(2,.val (.int .u8) z)],[]⟩ a w Z (fun _=>.pointer none)) (hpan:∀ c a w d v,Q (.panic c) (a.put d v) w→Q (.panic c) a w)
  (hend:∀ a' w',a'.defers=[]→a'.tmps.getD 6 undef = .bool true→Fut (fun _=>False) w w'→Q .ret a' w'):ctB.wp PR Q a w:=by
 have hP:Pans ctC (Th0 w Z) 113 Q:=fun _ _ _ _ _ _ _ h _ _=>h.elim
 have hX:=stP_in hz
 have hw16:∀ z:Int,2≤z∧z≤31→IntKind.wrap .i64 (16 * z)=16 * z∧IntKind.wrap .i64 (16 * z + 64)=16 * z + 64:=fun z hz=>⟨i64_in (by omega) (by omega),i64_in (by omega) (by omega)⟩
 have hsum:∀ z:Int,2≤z∧z≤31→sumI 0 (List.drop (Int.toNat (16 * z)) (List.take (Int.toNat (16 * z + 64)) lawF))=sumAt lawF z 4:=fun z hz=>by
  unfold sumAt
  rw [show (z + 4) * 16=16 * z + 64 by omega,show z * 16=16 * z by omega]
 have hF1:(lawF.length:Int)=640:=by rw [lawF_len];rfl
 have hmx:mayR 2 (stP z) 4 0 (sumAt lawF (stP z) 4) 2=true:=may_raw (c:=2) (by decide) (by decide) hX.1 (by omega)
 have hA:Holds (exec ctC (takeC 4 ctB) 0 ⟨[(0,.val (.int .u8) x),(1,.val (.int .i8) y),(2,.val (.int .u8) z)],[]⟩ (seenS [0,1,7,9] [1152,8536074,8536076,8536078] fun e σ=>e = .normal∧σ =
   ⟨[(0,.val (.int .u8) x),(1,.val (.int .i8) y),(7,vf (.l lawF)),(9,.ptr 1152 0)],[(1152,.box [vi (.i 2),vi (.i 4),vs (.s (ByteArray.mk #[])),.val TRC (.l (tb1 (stP z) 4 (sumAt lawF (stP z) 4))),.own 8536074,.own 8536076,.own 8536078]),(8536074,.arr 73 []),(8536076,.arr 77 []),(8536078,.arr 3 [])]⟩)):=by
  refine .eq (ct_A _ x y z) ⟨show (40:Int)≤1000 by decide,?_⟩
  rw [(hw16 _ hX).1,(hw16 _ hX).2,lawF_len,hsum _ hX]
  refine bt (by rw [decide_eq_true ⟨by omega,by omega,by omega,by omega⟩];rfl) ?_
  simp only [Alt_self]
  rw [set0 hmx]
  exact ⟨⟨Nat.zero_le _,fun j hj=>absurd hj (Nat.not_lt_zero _)⟩,by trivial,rfl⟩
 refine piece_on ctC_ok rfl rfl (fun _ h=>h) (rest:=dropC 5 ctB) hP hpan (by kernel_rfl) (by kernel_rfl) (by kernel_rfl) (noloops (by kernel_rfl)) Sm hA fun a1 w1 Z1 G1 S1=>?_
 clear hA Sm
 have hF:=lawF_whole
 have hsz:szU (.l lawF)=40:=(szU_all (by rw [lawF_len]) (by rw [lawF_len];decide)).trans (by rw [lawF_len];rfl)
 generalize sumAt lawF (stP z) 4=s1 at S1 hmx
 generalize stP z=X at S1 hX hmx
 generalize lawF=F at S1 hF hsz hF1
 have hM:=meta1 hmx
 have mg:mgP (.l (tb1 X 4 s1)) (.l []):=⟨show 1≤1099511627776 by decide,fun x hx=>by cases hx⟩
 generalize hT:(U.l (tb1 X 4 s1))=T at S1 hM mg
 have hB:Holds (exec ctC (takeC 0 (dropC 5 ctB)) 0 ⟨[(0,.val (.int .u8) x),(1,.val (.int .i8) y),(7,vf (.l F)),(9,.ptr 1152 0)],[(1152,.box [vi (.i 2),vi (.i 4),vs (.s (ByteArray.mk #[])),.val TRC T,.own 8536074,.own 8536076,.own 8536078]),(8536074,.arr 73 []),(8536076,.arr 77 []),(8536078,.arr 3 [])]⟩
   (seenS [0,1,7,10,11] [1280,5008] fun e σ=>e = .normal∧σ=⟨[(0,.val (.int .u8) x),(1,.val (.int .i8) y),(7,vf (.l F)),(10,.ptr 1280 0),(11,vi (.i 0))],
     [(1280,cBox (.i 2) (.i 4) (.s (ByteArray.mk #[])) (mT (.i 2) (.i 4) (.s (ByteArray.mk #[])) T (.l []) (.l []) (.l []) (.l F)) (mS (.i 2) (.i 4) (.s (ByteArray.mk #[])) T (.l []) (.l []) (.l []) (.l F)) (mM (.l []))),(5008,.arr 3 (mQ (.i 2) (.i 4) (.s (ByteArray.mk #[])) T (.l []) (.l []) (.l []) (.l F)).list)]⟩)):=by
  refine .eq (ct_B _ x y (.l F) (.i 2) (.i 4) (.s (ByteArray.mk #[])) T) ⟨⟨⟨by trivial,by trivial,by trivial⟩,hM,mg,fun x hx=>by cases hx⟩,by trivial,rfl⟩
 refine piece_on ctC_ok rfl rfl (fun _ h=>h) (rest:=dropC 6 ctB) hP hpan (by kernel_rfl) (by kernel_rfl) (by kernel_rfl) (noloops (by kernel_rfl)) S1 hB fun a2 w2 Z2 G2 S2=>?_
 clear hB S1
 have hrQ:∀ Q':U,Q'.list.length≤65536→countsR Q'.list=true→metaR (.i 2) (.i 4) (.s (ByteArray.mk #[])) (mT (.i 2) (.i 4) (.s (ByteArray.mk #[])) T (.l []) (.l []) (.l []) (.l F)) (mS (.i 2) (.i 4) (.s (ByteArray.mk #[])) T (.l []) (.l []) (.l []) (.l F)) (mM (.l [])) Q' = true:=fun Q' h1 h2=>mended_rightQ hM mg h1 h2
 have hfa:=mended_fa (F:=.l F) hM mg
 have hmg:=mended_mg (F:=.l F) hM mg
 have hrt:=mended_right (F:=.l F) hM mg
 have hno:=fun Q'=>mended_none (F:=.l F) hM mg (mM (.l [])) Q'
 have hok:=fun Q'=>mended_ok (F:=.l F) hM mg (mM (.l [])) Q'
 have hql:(mQ (.i 2) (.i 4) (.s (ByteArray.mk #[])) T (.l []) (.l []) (.l []) (.l F)).list.length=40:=by rw [mended_len,hsz];rfl
 have hqin:∀ u,u ∈ (mQ (.i 2) (.i 4) (.s (ByteArray.mk #[])) T (.l []) (.l []) (.l []) (.l F)).list→0≤u.int∧u.int≤36866:=ofV_in hM mg _
 have hqe:mQ (.i 2) (.i 4) (.s (ByteArray.mk #[])) T (.l []) (.l []) (.l []) (.l F) = .l (ofV (okM (.i 2) (.i 4) (.s (ByteArray.mk #[])) T (.l []) (.l []) (.l []) (.l F)) (szU (.l F)).toNat):=rfl
 rw [hqe] at hfa hrt
 have hfv:∀ Q':List U,Q'.length=40→faV (.i 2) (.i 4) (.s (ByteArray.mk #[])) (mT (.i 2) (.i 4) (.s (ByteArray.mk #[])) T (.l []) (.l []) (.l []) (.l F)) (mS (.i 2) (.i 4) (.s (ByteArray.mk #[])) T (.l []) (.l []) (.l []) (.l F)) (mM (.l [])) (.l Q') (.l F) =
   flCnts 40 Q' 0 (ofV (okM (.i 2) (.i 4) (.s (ByteArray.mk #[])) T (.l []) (.l []) (.l []) (.l F)) (szU (.l F)).toNat):=fun Q' h=>by
  unfold faV
  rw [hno,hok,nU_mended (.l Q') (by rw [hsz];exact h),hsz,List.map_nil,List.nil_append,U.list_l]
 generalize mT (.i 2) (.i 4) (.s (ByteArray.mk #[])) T (.l []) (.l []) (.l []) (.l F)=T2 at S2 hrQ hfa hmg hrt hfv
 generalize mS (.i 2) (.i 4) (.s (ByteArray.mk #[])) T (.l []) (.l []) (.l []) (.l F)=Sh2 at S2 hrQ hfa hmg hrt hfv
 generalize mM (.l [])=M2 at S2 hrQ hfa hrt hfv
 have hqe2:(mQ (.i 2) (.i 4) (.s (ByteArray.mk #[])) T (.l []) (.l []) (.l []) (.l F)).list=ofV (okM (.i 2) (.i 4) (.s (ByteArray.mk #[])) T (.l []) (.l []) (.l []) (.l F)) (szU (.l F)).toNat:=rfl
 rw [hqe2] at S2 hql hqin
 generalize ofV (okM (.i 2) (.i 4) (.s (ByteArray.mk #[])) T (.l []) (.l []) (.l []) (.l F)) (szU (.l F)).toNat=Q2 at S2 hfa hrt hfv hql hqin
 clear hno hok hqe hqe2 hM mg
 have hfp:∀ Q':U,faP [[.i 2,.i 4,.s (ByteArray.mk #[]),T2,Sh2,M2,Q'],[.l F]]:=fun _=>hmg
 have hC:dropC 6 ctB = .seq (.seq (.region (regId (piece ctB [1,1,1,1,1,1,0,0])) ct6 false) (.cond (.tmp 57) (piece ctB [1,1,1,1,1,1,0,1,0]) .skip)) (dropC 7 ctB):=by kernel_rfl
 rw [hC]
 refine wp_seq (wp_seq (peek ctC_ok (fun _ _ h=>h) (rid:=5008) (bid:=1280) (e:=3) (xs:=Q2) (m:=false) (cs:=[.int .i64]) (cs2:=MTC) (us:=[.i 2,.i 4,.s (ByteArray.mk #[]),T2,Sh2,M2,.l Q2]) (env:=[(7,vf (.l F)),(10,.rptr MTC [.i 2,.i 4,.s (ByteArray.mk #[]),T2,Sh2,M2,.l Q2]),(11,vi (.i 0))])
  (k:=fun σ=>get σ.env 57=vb (.b false)) (by kernel_rfl) (by kernel_rfl) S2 (by kernel_rfl) (by kernel_rfl) (by kernel_rfl) ?_ (by kernel_rfl) ?_ ?_))
 ·intro p hp
  have hp:p=(7,vf (.l F))∨p=(10,.rptr MTC [.i 2,.i 4,.s (ByteArray.mk #[]),T2,Sh2,M2,.l Q2])∨p=(11,vi (.i 0)):=by simpa using hp
  rcases hp with rfl | rfl | rfl
  ·exact .inr (by kernel_rfl)
  ·exact .inl ⟨by kernel_rfl,by kernel_rfl⟩
  ·exact .inr (by kernel_rfl)
 ·refine .eq (ct_C (fun v=>v=vb (.b false)) (.l F) (.i 0) (.i 2) (.i 4) (.s (ByteArray.mk #[])) T2 Sh2 M2 (.l Q2)) ?_
  refine bf (by decide) (bf ?_ ⟨hfp _,?_⟩)
  ·show ((Q2.length:Int) != 40)=false
   rw [hql];rfl
  ·rw [hrt,hfa];rfl
 ·rintro σ' a3 w3 Z3 G3 h3 r3 S3
  have r57:=r3 57
  rw [h3] at r57
  have r57:a3.eval (.tmp 57) = .bool false:=r57
  refine wp_cond_split r57 (fun ht=>by cases ht) (fun _=>wp_skip ?_)
  clear r3 r57 S2 hfa hrt
  have hk0:0≤tkI x∧tkI x < 40:=by
   unfold tkI
   rw [i64_in (x:=x.int) (by omega) (by omega),Int.tmod_eq_emod_of_nonneg hx.1]
   omega
  have hq:=hqin (U.at Q2 (tkI x).toNat) (by rw [at_get (by omega)];exact List.getElem_mem (by omega))
  have hwv:IntKind.wrap .i64 ((U.at Q2 (tkI x).toNat).int + IntKind.wrap .i64 y.int)=(U.at Q2 (tkI x).toNat).int + y.int:=by rw [i64_in (x:=y.int) (by omega) (by omega)];exact i64_in (by omega) (by omega)
  have hnv:0≤nvI Q2 x y∧nvI Q2 x y≤65535:=by
   have e:nvI Q2 x y=bif decide (0 < (U.at Q2 (tkI x).toNat).int + y.int) then (U.at Q2 (tkI x).toNat).int + y.int else 0:=by unfold nvI;rw [hwv]
   rw [e]
   by_cases h:0 < (U.at Q2 (tkI x).toNat).int + y.int
   ·rw [decide_eq_true h,cond_true];omega
   ·rw [decide_eq_false h,cond_false];omega
  have hfx:faV (.i 2) (.i 4) (.s (ByteArray.mk #[])) T2 Sh2 M2 (.l (setI Q2 x y)) (.l F)=flD (tkI x).toNat (nvI Q2 x y) (U.at Q2 (tkI x).toNat).int:=by
   rw [hfv _ (by unfold setI;rw [List.length_set];exact hql)]
   unfold setI
   have:=flCnts_set (sz:=40) (Q:=Q2) (k:=(tkI x).toNat) (v:=nvI Q2 x y) (by omega) (by omega) Q2 0 rfl
   rw [if_pos (Nat.zero_le _)] at this
   exact this
  have hrx:metaR (.i 2) (.i 4) (.s (ByteArray.mk #[])) T2 Sh2 M2 (.l (setI Q2 x y))=true:=hrQ _ (by rw [U.list_l];unfold setI;rw [List.length_set];omega) (counts_of fun u hu=>by
   rw [U.list_l] at hu
   unfold setI at hu
   rcases List.mem_or_eq_of_mem_set hu with hu | rfl
   ·have:=hqin u hu;omega
   ·exact hnv)
  have hD:Holds (exec ctC (takeC 3 (dropC 7 ctB)) 0 ⟨[(0,.val (.int .u8) x),(1,.val (.int .i8) y),(7,vf (.l F)),(10,.ptr 1280 0),(11,vi (.i 0))],[(1280,cBox (.i 2) (.i 4) (.s (ByteArray.mk #[])) T2 Sh2 M2),(5008,.arr 3 Q2)]⟩
    (seenS [10,12,13,14] [1280] fun e σ=>e = .normal∧σ=⟨[(10,.ptr 1280 0),(12,vi (.i (tkI x))),(13,vi (U.at Q2 (tkI x).toNat)),(14,vt FLC (.l (flD (tkI x).toNat (nvI Q2 x y) (U.at Q2 (tkI x).toNat).int)))],[(1280,mBox (.i 2) (.i 4) (.s (ByteArray.mk #[])) T2 Sh2 M2 (.l (setI Q2 x y)))]⟩)):=by
   refine .eq (ct_D _ x y (.l F) (.i 0) (.i 2) (.i 4) (.s (ByteArray.mk #[])) T2 Sh2 M2 Q2) ?_
   rw [hrx,cond_true,hfx]
   exact dt ⟨by omega,by omega⟩ (blt (by omega) (dt ⟨by omega,by omega⟩ (blt (by omega) ⟨hfp _,by trivial,rfl⟩)))
  refine piece_on ctC_ok rfl rfl (fun _ h=>h) (rest:=dropC 11 ctB) hP hpan (by kernel_rfl) (by kernel_rfl) (by kernel_rfl) (noloops (by kernel_rfl)) S3 hD fun a4 w4 Z4 G4 S4=>?_
  clear hD S3 hfx hrx hrQ hfv hfp hmg
  have hat:U.at (setI Q2 x y) (tkI x).toNat = .i (nvI Q2 x y):=by unfold setI;rw [at_set (by omega),if_pos rfl]
  have hln:((setI Q2 x y).length:Int)=40:=by unfold setI;rw [List.length_set,hql];rfl
  generalize setI Q2 x y=Q3 at S4 hat hln
  generalize nvI Q2 x y=v at S4 hat
  generalize U.at Q2 (tkI x).toNat=q at S4
  have hkn:((tkI x).toNat:Int)=tkI x:=by omega
  generalize tkI x=kk at S4 hat hk0 hkn
  have hE:Holds (exec ctC (dropC 11 ctB) 0 ⟨[(10,.ptr 1280 0),(12,vi (.i kk)),(13,vi q),(14,vt FLC (.l (flD kk.toNat v q.int)))],[(1280,mBox (.i 2) (.i 4) (.s (ByteArray.mk #[])) T2 Sh2 M2 (.l Q3))]⟩ (seenS [6] [] fun e σ=>e = .ret∧σ=⟨[(6,vb (.b true))],[]⟩)):=by
   have hI:(nth (.i 0) (U.list (.l Q3)) (Int.toNat (U.int (.i kk)))).int=v:=by
    show (nth (.i 0) Q3 kk.toNat).int=v
    rw [show nth (.i 0) Q3 kk.toNat = .i v from hat];rfl
   have hin:0≤(U.i kk).int∧(U.i kk).int < ((U.list (.l Q3)).length:Int):=⟨hk0.1,by rw [U.list_l,hln];exact hk0.2⟩
   have hfd:flD kk.toNat v q.int=bif decide (v < q.int) then [.l [.i 2,.i kk,.i 0]] else bif decide (v > q.int) then [.l [.i 3,.i kk,.i 0]] else []:=by unfold flD;rw [hkn]
   rw [hfd]
   by_cases e:v=q.int
   ·rw [decide_eq_false (by omega:¬ v < q.int),decide_eq_false (by omega:¬ v > q.int),cond_false,cond_false]
    refine .eq (ct_E _ (.i kk) q (.l []) (.i 2) (.i 4) (.s (ByteArray.mk #[])) T2 Sh2 M2 (.l Q3)) (dt hin (bt (by rw [hI,e];exact beq_self_eq_true _) (bt rfl ⟨rfl,rfl⟩)))
   ·have hne:((nth (.i 0) (U.list (.l Q3)) (Int.toNat (U.int (.i kk)))).int == q.int)=false:=by rw [hI];simpa using e
    by_cases h:v > q.int
    ·rw [decide_eq_true h,decide_eq_false (by omega:¬ v < q.int),cond_false,cond_true]
     refine .eq (ct_E _ (.i kk) q (.l [.l [.i 3,.i kk,.i 0]]) (.i 2) (.i 4) (.s (ByteArray.mk #[])) T2 Sh2 M2 (.l Q3)) (dt hin (bf hne (dt hin (dt (by rw [hI];exact h) (bt rfl (bt rfl (bt ?_ ⟨rfl,rfl⟩)))))))
     show ((3:Int) == 3 && (kk == kk && ((0:Int) == 0 && true)))=true
     simp
    ·rw [decide_eq_false h,decide_eq_true (by omega:v < q.int),cond_true]
     refine .eq (ct_E _ (.i kk) q (.l [.l [.i 2,.i kk,.i 0]]) (.i 2) (.i 4) (.s (ByteArray.mk #[])) T2 Sh2 M2 (.l Q3)) (dt hin (bf hne (dt hin (df (by rw [hI];exact h) (bt rfl (bt rfl (bt ?_ ⟨rfl,rfl⟩)))))))
     show ((2:Int) == 2 && (kk == kk && ((0:Int) == 0 && true)))=true
     simp
  refine piece_end ctC_ok rfl rfl (fun _ h=>h) hP hpan (by kernel_rfl) (noloops (by kernel_rfl)) S4 hE fun a5 w5 Z5 G5 S5=>?_
  exact hend a5 w5 S5.calm (S5.slot 6) S5.fut
theorem counts_ok:SpecF PR 7 tA15:=fun fn us hfn=>by
 have hf:PR.funcs[(7:Nat)]? = some Try.f7:=by kernel_rfl
 rw [hf] at hfn;cases hfn
 refine fn_walk (code:=ctB) hf (by kernel_rfl) (by kernel_rfl) (Nat.le_of_ble_eq_true (by kernel_rfl)) fun hok=>?_
 have hp:Try.f7.params.toList=[5,62,5]:=by kernel_rfl
 rw [hp] at hok
 obtain ⟨x,y,z,hus⟩:∃ x y z,us=[[x],[y],[z]]:=by
  obtain ⟨u,u2,u3,rfl,h1,h2,h3⟩:=shape3 (by kernel_rfl:Cs PR 5=some (false,[.int .u8])) (by kernel_rfl:Cs PR 62=some (false,[.int .i8])) (by kernel_rfl:Cs PR 5=some (false,[.int .u8])) hok.1
  obtain ⟨x,rfl⟩:=len1 h1
  obtain ⟨y,rfl⟩:=len1 h2
  obtain ⟨z,rfl⟩:=len1 h3
  exact ⟨x,y,z,rfl⟩
 subst hus
 have hok2:=hok.2 [.val (.int .u8) x,.val (.int .i8) y,.val (.int .u8) z] (by kernel_rfl)
 refine ⟨[(0,.val (.int .u8) x),(1,.val (.int .i8) y),(2,.val (.int .u8) z)],by kernel_rfl,fun a w Z hZ Sm=>?_⟩
 refine ct_walk hok2.1 hok2.2.1 hok2.2.2.1 Sm (fun _ _ _ d _ h=>by cases d<;>exact h) fun a' w' h1 h2 h3=>?_
 have hres:Try.f7.results = #[.tmp 6]:=by kernel_rfl
 exact ends_bool (t:=6) (fun a=>results_at hres) (by kernel_rfl) h1 h2 h3 hZ
end Go.Mat
