/- A part of the proof of this: behind a mending there are no faults; what was not bad shows the same; a meta without bad entries keeps them all. Conditions: none. Joined of B3, F1, F2, F3, B4, F4, B5, F5, B6, F6, F7, P10, P11, B60, F60, F60S, F60T, B61, F61, B62, F62, B63. -/
import Derived.Test.YtjleagfibbbjnaaC2
import Derived.KernelRfl
import Derived.Tactics
import Derived.Tactics2
import Derived.Defers
import Derived.Laws.Pointers
import Derived.Laws.LoneSync
import Derived.RegionTactic
import Derived.RegionCalls
import Derived.ChangeAlike
import Derived.Laws.NewBlocks
import Derived.WalkKit
namespace Go.Mat
open Go Go.Den Go.Proofs
abbrev EC:List Ct:=[.int .i64,.int .i64,.int .i64,.int .i64,.int .u32]
def tableS:List (List U)→List (List U):=fun us=>[[.b (tableR (nth (.i 0) (nth [] us 0) 0).list (nth (.i 0) (nth [] us 1) 0).int (nth (.i 0) (nth [] us 2) 0).int)]]
def rtableS:List (List U)→List (List U):=fun us=>[[.b (rtableR (nth (.i 0) (nth [] us 0) 0).list (nth (.i 0) (nth [] us 1) 0).int (nth (.i 0) (nth [] us 2) 0).int)]]
noncomputable def tabLoop2:LoopF:=fun _ svs os k=>match svs with
 | .val (.int .i64) kk :: .val (.int .i64) m :: .val (.sl true ec) l :: .val .bool s :: rest=>match rest,os with
  | [.val (.int .i64) i,.val (.int .i64) n,.val (.int .i64) c,.val (.int .i64) p1,.val (.int .i64) p2,.val (.sl false [.sl true ec1]) p3,.ptr pp po],[.box [.val (.sl false [.sl true ec2]) L]]=>
   (pp=384∧po=0∧ec=EC∧ec1=EC∧ec2=EC∧s = .b s.bool∧m.int=(l.list.length:Int)∧0≤kk.int∧kk.int≤m.int)∧
   (bif entsR n.int c.int i.int kk.int (l.list.drop kk.int.toNat) then k (.exit 2) ⟨(9,vb (.b (s.bool || someR (l.list.drop kk.int.toNat)))) :: [7,1,2,29,28,27,3].zip rest,[384].zip os⟩
     else k .ret ⟨[(6,vb (.b false))],[]⟩)
  | _,_=>False
 | _=>False
noncomputable def tabLoop0:LoopF:=fun _ svs os k=>match svs,os with
 | [.val (.int .i64) i,.val (.int .i64) m,.val (.sl false [.sl true ec]) L,.ptr pp po,.val (.int .i64) n,.val (.int .i64) c],[.box [.val (.sl false [.sl true ec']) L']]=>
  (pp=384∧po=0∧ec=EC∧ec' = EC∧L' = L∧m.int=(L.list.length:Int)∧0≤i.int∧i.int≤m.int)∧
  (bif leavesR n.int c.int i.int (L.list.drop i.int.toNat) then k (.exit 0) ⟨[(6,.unk)],[]⟩ else k .ret ⟨[(6,vb (.b false))],[]⟩)
 | _,_=>False
noncomputable def tabC:Ctx:=mkC PR eqs0 (fnsCons 23 mayS (fnsCons 65 noneS fnsNil)) trsNil
 (loopCons 2 [50,49,48,9,7,1,2,29,28,27,3] [384] tabLoop2 (loopCons 0 [29,28,27,3,1,2] [384] tabLoop0 noLoops))
 (outCons 2 [9,7,1,2,29,28,27,3] [384] (outCons 1048578 [6] [] (outCons 0 [6] [] noOut))) noOut
theorem tab_round2 (pan:KP) (μ:Mu) (N:Nat) (k:KE) (kk m l s i n c p1 p2 p3 L:U):(exec (tabC.panics pan) (loopBody Try.f58 1) 2 ⟨[(50,vi kk),(49,vi m),(48,vt EC l),(9,vb s),(7,vi i),(1,vi n),(2,vi c),(29,vi p1),(28,vi p2),(27,vl (.sl true EC) p3),(3,.ptr 384 0)],[(384,.box [vl (.sl true EC) L])]⟩ (again PR (some ([9,7,1,2,29,28,27,3],[384])) (some ([6],[])) pan [50,49,48,9,7,1,2,29,28,27,3] [384] tabLoop2 μ N k))=(bif decide (kk.int < m.int) then bif decide ((0:Int)≤kk.int∧kk.int < (l.list.length:Int)) then bif !mayR (U.int (nth (U.i (0:Int)) (U.list (nth (U.i (0:Int)) l.list (Int.toNat kk.int))) (0:Nat))) (U.int (nth (U.i (0:Int)) (List.tail (U.list (nth (U.i (0:Int)) l.list (Int.toNat kk.int)))) (0:Nat))) (U.int (nth (U.i (0:Int)) (List.tail (List.tail (U.list (nth (U.i (0:Int)) l.list (Int.toNat kk.int))))) (0:Nat))) (U.int (nth (U.i (0:Int)) (List.tail (List.tail (List.tail (U.list (nth (U.i (0:Int)) l.list (Int.toNat kk.int)))))) (0:Nat))) (U.int (nth (U.i (0:Int)) (List.tail (List.tail (List.tail (List.tail (U.list (nth (U.i (0:Int)) l.list (Int.toNat kk.int))))))) (0:Nat))) c.int then k Ex.ret (St.mk [(nat_lit 6,.val .bool (U.b false))] []) else bif !noneR (U.int (nth (U.i (0:Int)) (U.list (nth (U.i (0:Int)) l.list (Int.toNat kk.int))) (0:Nat))) (U.int (nth (U.i (0:Int)) (List.tail (U.list (nth (U.i (0:Int)) l.list (Int.toNat kk.int)))) (0:Nat))) (U.int (nth (U.i (0:Int)) (List.tail (List.tail (U.list (nth (U.i (0:Int)) l.list (Int.toNat kk.int))))) (0:Nat))) (U.int (nth (U.i (0:Int)) (List.tail (List.tail (List.tail (U.list (nth (U.i (0:Int)) l.list (Int.toNat kk.int)))))) (0:Nat))) (U.int (nth (U.i (0:Int)) (List.tail (List.tail (List.tail (List.tail (U.list (nth (U.i (0:Int)) l.list (Int.toNat kk.int))))))) (0:Nat))) then bif decide (IntKind.wrap .i64 (IntKind.wrap .i64 (i.int * (8:Int)) + kk.int) ≥ n.int) then k Ex.ret (St.mk [(nat_lit 6,.val .bool (U.b false))] []) else bif s.bool then bif Nat.blt (μ [.val (.int IntKind.i64) (U.i (IntKind.wrap .i64 (kk.int + (1:Int)))),.val (.int IntKind.i64) m,.val (.sl true [.int .i64,.int .i64,.int .i64,.int .i64,.int .u32]) l,.val .bool (U.b true),.val (.int IntKind.i64) i,.val (.int IntKind.i64) n,.val (.int IntKind.i64) c,.val (.int IntKind.i64) p1,.val (.int IntKind.i64) p2,.val (.sl false [.sl true [.int .i64,.int .i64,.int .i64,.int .i64,.int .u32]]) p3,.ptr (nat_lit 384) (nat_lit 0)] [.box [.val (.sl false [.sl true [.int .i64,.int .i64,.int .i64,.int .i64,.int .u32]]) L]]) N then (nat_lit 384=nat_lit 384∧nat_lit 0=nat_lit 0∧[Ct.int IntKind.i64,Ct.int IntKind.i64,Ct.int IntKind.i64,Ct.int IntKind.i64,Ct.int IntKind.u32]=[.int .i64,.int .i64,.int .i64,.int .i64,.int .u32]∧[Ct.int IntKind.i64,Ct.int IntKind.i64,Ct.int IntKind.i64,Ct.int IntKind.i64,Ct.int IntKind.u32]=[.int .i64,.int .i64,.int .i64,.int .i64,.int .u32]∧[Ct.int IntKind.i64,Ct.int IntKind.i64,Ct.int IntKind.i64,Ct.int IntKind.i64,Ct.int IntKind.u32]=[.int .i64,.int .i64,.int .i64,.int .i64,.int .u32]∧U.b true=U.b true∧m.int=(l.list.length:Int)∧(0:Int)≤IntKind.wrap .i64 (kk.int + (1:Int))∧IntKind.wrap .i64 (kk.int + (1:Int))≤m.int)∧bif entsR n.int c.int i.int (IntKind.wrap .i64 (kk.int + (1:Int))) (List.drop (Int.toNat (IntKind.wrap .i64 (kk.int + (1:Int)))) l.list) then k (Ex.exit (nat_lit 2)) (St.mk [(nat_lit 9,.val .bool (U.b (true || someR (List.drop (Int.toNat (IntKind.wrap .i64 (kk.int + (1:Int)))) l.list)))),(nat_lit 7,.val (.int IntKind.i64) i),(nat_lit 1,.val (.int IntKind.i64) n),(nat_lit 2,.val (.int IntKind.i64) c),(nat_lit 29,.val (.int IntKind.i64) p1),(nat_lit 28,.val (.int IntKind.i64) p2),(nat_lit 27,.val (.sl false [.sl true [.int .i64,.int .i64,.int .i64,.int .i64,.int .u32]]) p3),(nat_lit 3,.ptr (nat_lit 384) (nat_lit 0))] [(nat_lit 384,.box [.val (.sl false [.sl true [.int .i64,.int .i64,.int .i64,.int .i64,.int .u32]]) L])]) else k Ex.ret (St.mk [(nat_lit 6,.val .bool (U.b false))] []) else False else bif Nat.blt (μ [.val (.int IntKind.i64) (U.i (IntKind.wrap .i64 (kk.int + (1:Int)))),.val (.int IntKind.i64) m,.val (.sl true [.int .i64,.int .i64,.int .i64,.int .i64,.int .u32]) l,.val .bool (U.b !noneR (U.int (nth (U.i (0:Int)) (U.list (nth (U.i (0:Int)) l.list (Int.toNat kk.int))) (0:Nat))) (U.int (nth (U.i (0:Int)) (List.tail (U.list (nth (U.i (0:Int)) l.list (Int.toNat kk.int)))) (0:Nat))) (U.int (nth (U.i (0:Int)) (List.tail (List.tail (U.list (nth (U.i (0:Int)) l.list (Int.toNat kk.int))))) (0:Nat))) (U.int (nth (U.i (0:Int)) (List.tail (List.tail (List.tail (U.list (nth (U.i (0:Int)) l.list (Int.toNat kk.int)))))) (0:Nat))) (U.int (nth (U.i (0:Int)) (List.tail (List.tail (List.tail (List.tail (U.list (nth (U.i (0:Int)) l.list (Int.toNat kk.int))))))) (0:Nat)))),.val (.int IntKind.i64) i,.val (.int IntKind.i64) n,.val (.int IntKind.i64) c,.val (.int IntKind.i64) p1,.val (.int IntKind.i64) p2,.val (.sl false [.sl true [.int .i64,.int .i64,.int .i64,.int .i64,.int .u32]]) p3,.ptr (nat_lit 384) (nat_lit 0)] [.box [.val (.sl false [.sl true [.int .i64,.int .i64,.int .i64,.int .i64,.int .u32]]) L]]) N then (nat_lit 384=nat_lit 384∧nat_lit 0=nat_lit 0∧[Ct.int IntKind.i64,Ct.int IntKind.i64,Ct.int IntKind.i64,Ct.int IntKind.i64,Ct.int IntKind.u32]=[.int .i64,.int .i64,.int .i64,.int .i64,.int .u32]∧[Ct.int IntKind.i64,Ct.int IntKind.i64,Ct.int IntKind.i64,Ct.int IntKind.i64,Ct.int IntKind.u32]=[.int .i64,.int .i64,.int .i64,.int .i64,.int .u32]∧[Ct.int IntKind.i64,Ct.int IntKind.i64,Ct.int IntKind.i64,Ct.int IntKind.i64,Ct.int IntKind.u32]=[.int .i64,.int .i64,.int .i64,.int .i64,.int .u32]∧(U.b !noneR (U.int (nth (U.i (0:Int)) (U.list (nth (U.i (0:Int)) l.list (Int.toNat kk.int))) (0:Nat))) (U.int (nth (U.i (0:Int)) (List.tail (U.list (nth (U.i (0:Int)) l.list (Int.toNat kk.int)))) (0:Nat))) (U.int (nth (U.i (0:Int)) (List.tail (List.tail (U.list (nth (U.i (0:Int)) l.list (Int.toNat kk.int))))) (0:Nat))) (U.int (nth (U.i (0:Int)) (List.tail (List.tail (List.tail (U.list (nth (U.i (0:Int)) l.list (Int.toNat kk.int)))))) (0:Nat))) (U.int (nth (U.i (0:Int)) (List.tail (List.tail (List.tail (List.tail (U.list (nth (U.i (0:Int)) l.list (Int.toNat kk.int))))))) (0:Nat))))=U.b !noneR (U.int (nth (U.i (0:Int)) (U.list (nth (U.i (0:Int)) l.list (Int.toNat kk.int))) (0:Nat))) (U.int (nth (U.i (0:Int)) (List.tail (U.list (nth (U.i (0:Int)) l.list (Int.toNat kk.int)))) (0:Nat))) (U.int (nth (U.i (0:Int)) (List.tail (List.tail (U.list (nth (U.i (0:Int)) l.list (Int.toNat kk.int))))) (0:Nat))) (U.int (nth (U.i (0:Int)) (List.tail (List.tail (List.tail (U.list (nth (U.i (0:Int)) l.list (Int.toNat kk.int)))))) (0:Nat))) (U.int (nth (U.i (0:Int)) (List.tail (List.tail (List.tail (List.tail (U.list (nth (U.i (0:Int)) l.list (Int.toNat kk.int))))))) (0:Nat)))∧m.int=(l.list.length:Int)∧(0:Int)≤IntKind.wrap .i64 (kk.int + (1:Int))∧IntKind.wrap .i64 (kk.int + (1:Int))≤m.int)∧bif entsR n.int c.int i.int (IntKind.wrap .i64 (kk.int + (1:Int))) (List.drop (Int.toNat (IntKind.wrap .i64 (kk.int + (1:Int)))) l.list) then k (Ex.exit (nat_lit 2)) (St.mk [(nat_lit 9,.val .bool (U.b (!noneR (U.int (nth (U.i (0:Int)) (U.list (nth (U.i (0:Int)) l.list (Int.toNat kk.int))) (0:Nat))) (U.int (nth (U.i (0:Int)) (List.tail (U.list (nth (U.i (0:Int)) l.list (Int.toNat kk.int)))) (0:Nat))) (U.int (nth (U.i (0:Int)) (List.tail (List.tail (U.list (nth (U.i (0:Int)) l.list (Int.toNat kk.int))))) (0:Nat))) (U.int (nth (U.i (0:Int)) (List.tail (List.tail (List.tail (U.list (nth (U.i (0:Int)) l.list (Int.toNat kk.int)))))) (0:Nat))) (U.int (nth (U.i (0:Int)) (List.tail (List.tail (List.tail (List.tail (U.list (nth (U.i (0:Int)) l.list (Int.toNat kk.int))))))) (0:Nat))) || someR (List.drop (Int.toNat (IntKind.wrap .i64 (kk.int + (1:Int)))) l.list)))),(nat_lit 7,.val (.int IntKind.i64) i),(nat_lit 1,.val (.int IntKind.i64) n),(nat_lit 2,.val (.int IntKind.i64) c),(nat_lit 29,.val (.int IntKind.i64) p1),(nat_lit 28,.val (.int IntKind.i64) p2),(nat_lit 27,.val (.sl false [.sl true [.int .i64,.int .i64,.int .i64,.int .i64,.int .u32]]) p3),(nat_lit 3,.ptr (nat_lit 384) (nat_lit 0))] [(nat_lit 384,.box [.val (.sl false [.sl true [.int .i64,.int .i64,.int .i64,.int .i64,.int .u32]]) L])]) else k Ex.ret (St.mk [(nat_lit 6,.val .bool (U.b false))] []) else False else bif s.bool then bif Nat.blt (μ [.val (.int IntKind.i64) (U.i (IntKind.wrap .i64 (kk.int + (1:Int)))),.val (.int IntKind.i64) m,.val (.sl true [.int .i64,.int .i64,.int .i64,.int .i64,.int .u32]) l,.val .bool (U.b true),.val (.int IntKind.i64) i,.val (.int IntKind.i64) n,.val (.int IntKind.i64) c,.val (.int IntKind.i64) p1,.val (.int IntKind.i64) p2,.val (.sl false [.sl true [.int .i64,.int .i64,.int .i64,.int .i64,.int .u32]]) p3,.ptr (nat_lit 384) (nat_lit 0)] [.box [.val (.sl false [.sl true [.int .i64,.int .i64,.int .i64,.int .i64,.int .u32]]) L]]) N then (nat_lit 384=nat_lit 384∧nat_lit 0=nat_lit 0∧[Ct.int IntKind.i64,Ct.int IntKind.i64,Ct.int IntKind.i64,Ct.int IntKind.i64,Ct.int IntKind.u32]=[.int .i64,.int .i64,.int .i64,.int .i64,.int .u32]∧[Ct.int IntKind.i64,Ct.int IntKind.i64,Ct.int IntKind.i64,Ct.int IntKind.i64,Ct.int IntKind.u32]=[.int .i64,.int .i64,.int .i64,.int .i64,.int .u32]∧[Ct.int IntKind.i64,Ct.int IntKind.i64,Ct.int IntKind.i64,Ct.int IntKind.i64,Ct.int IntKind.u32]=[.int .i64,.int .i64,.int .i64,.int .i64,.int .u32]∧U.b true=U.b true∧m.int=(l.list.length:Int)∧(0:Int)≤IntKind.wrap .i64 (kk.int + (1:Int))∧IntKind.wrap .i64 (kk.int + (1:Int))≤m.int)∧bif entsR n.int c.int i.int (IntKind.wrap .i64 (kk.int + (1:Int))) (List.drop (Int.toNat (IntKind.wrap .i64 (kk.int + (1:Int)))) l.list) then k (Ex.exit (nat_lit 2)) (St.mk [(nat_lit 9,.val .bool (U.b (true || someR (List.drop (Int.toNat (IntKind.wrap .i64 (kk.int + (1:Int)))) l.list)))),(nat_lit 7,.val (.int IntKind.i64) i),(nat_lit 1,.val (.int IntKind.i64) n),(nat_lit 2,.val (.int IntKind.i64) c),(nat_lit 29,.val (.int IntKind.i64) p1),(nat_lit 28,.val (.int IntKind.i64) p2),(nat_lit 27,.val (.sl false [.sl true [.int .i64,.int .i64,.int .i64,.int .i64,.int .u32]]) p3),(nat_lit 3,.ptr (nat_lit 384) (nat_lit 0))] [(nat_lit 384,.box [.val (.sl false [.sl true [.int .i64,.int .i64,.int .i64,.int .i64,.int .u32]]) L])]) else k Ex.ret (St.mk [(nat_lit 6,.val .bool (U.b false))] []) else False else bif Nat.blt (μ [.val (.int IntKind.i64) (U.i (IntKind.wrap .i64 (kk.int + (1:Int)))),.val (.int IntKind.i64) m,.val (.sl true [.int .i64,.int .i64,.int .i64,.int .i64,.int .u32]) l,.val .bool (U.b !noneR (U.int (nth (U.i (0:Int)) (U.list (nth (U.i (0:Int)) l.list (Int.toNat kk.int))) (0:Nat))) (U.int (nth (U.i (0:Int)) (List.tail (U.list (nth (U.i (0:Int)) l.list (Int.toNat kk.int)))) (0:Nat))) (U.int (nth (U.i (0:Int)) (List.tail (List.tail (U.list (nth (U.i (0:Int)) l.list (Int.toNat kk.int))))) (0:Nat))) (U.int (nth (U.i (0:Int)) (List.tail (List.tail (List.tail (U.list (nth (U.i (0:Int)) l.list (Int.toNat kk.int)))))) (0:Nat))) (U.int (nth (U.i (0:Int)) (List.tail (List.tail (List.tail (List.tail (U.list (nth (U.i (0:Int)) l.list (Int.toNat kk.int))))))) (0:Nat)))),.val (.int IntKind.i64) i,.val (.int IntKind.i64) n,.val (.int IntKind.i64) c,.val (.int IntKind.i64) p1,.val (.int IntKind.i64) p2,.val (.sl false [.sl true [.int .i64,.int .i64,.int .i64,.int .i64,.int .u32]]) p3,.ptr (nat_lit 384) (nat_lit 0)] [.box [.val (.sl false [.sl true [.int .i64,.int .i64,.int .i64,.int .i64,.int .u32]]) L]]) N then (nat_lit 384=nat_lit 384∧nat_lit 0=nat_lit 0∧[Ct.int IntKind.i64,Ct.int IntKind.i64,Ct.int IntKind.i64,Ct.int IntKind.i64,Ct.int IntKind.u32]=[.int .i64,.int .i64,.int .i64,.int .i64,.int .u32]∧[Ct.int IntKind.i64,Ct.int IntKind.i64,Ct.int IntKind.i64,Ct.int IntKind.i64,Ct.int IntKind.u32]=[.int .i64,.int .i64,.int .i64,.int .i64,.int .u32]∧[Ct.int IntKind.i64,Ct.int IntKind.i64,Ct.int IntKind.i64,Ct.int IntKind.i64,Ct.int IntKind.u32]=[.int .i64,.int .i64,.int .i64,.int .i64,.int .u32]∧(U.b !noneR (U.int (nth (U.i (0:Int)) (U.list (nth (U.i (0:Int)) l.list (Int.toNat kk.int))) (0:Nat))) (U.int (nth (U.i (0:Int)) (List.tail (U.list (nth (U.i (0:Int)) l.list (Int.toNat kk.int)))) (0:Nat))) (U.int (nth (U.i (0:Int)) (List.tail (List.tail (U.list (nth (U.i (0:Int)) l.list (Int.toNat kk.int))))) (0:Nat))) (U.int (nth (U.i (0:Int)) (List.tail (List.tail (List.tail (U.list (nth (U.i (0:Int)) l.list (Int.toNat kk.int)))))) (0:Nat))) (U.int (nth (U.i (0:Int)) (List.tail (List.tail (List.tail (List.tail (U.list (nth (U.i (0:Int)) l.list (Int.toNat kk.int))))))) (0:Nat))))=U.b !noneR (U.int (nth (U.i (0:Int)) (U.list (nth (U.i (0:Int)) l.list (Int.toNat kk.int))) (0:Nat))) (U.int (nth (U.i (0:Int)) (List.tail (U.list (nth (U.i (0:Int)) l.list (Int.toNat kk.int)))) (0:Nat))) (U.int (nth (U.i (0:Int)) (List.tail (List.tail (U.list (nth (U.i (0:Int)) l.list (Int.toNat kk.int))))) (0:Nat))) (U.int (nth (U.i (0:Int)) (List.tail (List.tail (List.tail (U.list (nth (U.i (0:Int)) l.list (Int.toNat kk.int)))))) (0:Nat))) (U.int (nth (U.i (0:Int)) (List.tail (List.tail (List.tail (List.tail (U.list (nth (U.i (0:Int)) l.list (Int.toNat kk.int))))))) (0:Nat)))∧m.int=(l.list.length:Int)∧(0:Int)≤IntKind.wrap .i64 (kk.int + (1:Int))∧IntKind.wrap .i64 (kk.int + (1:Int))≤m.int)∧bif entsR n.int c.int i.int (IntKind.wrap .i64 (kk.int + (1:Int))) (List.drop (Int.toNat (IntKind.wrap .i64 (kk.int + (1:Int)))) l.list) then k (Ex.exit (nat_lit 2)) (St.mk [(nat_lit 9,.val .bool (U.b (!noneR (U.int (nth (U.i (0:Int)) (U.list (nth (U.i (0:Int)) l.list (Int.toNat kk.int))) (0:Nat))) (U.int (nth (U.i (0:Int)) (List.tail (U.list (nth (U.i (0:Int)) l.list (Int.toNat kk.int)))) (0:Nat))) (U.int (nth (U.i (0:Int)) (List.tail (List.tail (U.list (nth (U.i (0:Int)) l.list (Int.toNat kk.int))))) (0:Nat))) (U.int (nth (U.i (0:Int)) (List.tail (List.tail (List.tail (U.list (nth (U.i (0:Int)) l.list (Int.toNat kk.int)))))) (0:Nat))) (U.int (nth (U.i (0:Int)) (List.tail (List.tail (List.tail (List.tail (U.list (nth (U.i (0:Int)) l.list (Int.toNat kk.int))))))) (0:Nat))) || someR (List.drop (Int.toNat (IntKind.wrap .i64 (kk.int + (1:Int)))) l.list)))),(nat_lit 7,.val (.int IntKind.i64) i),(nat_lit 1,.val (.int IntKind.i64) n),(nat_lit 2,.val (.int IntKind.i64) c),(nat_lit 29,.val (.int IntKind.i64) p1),(nat_lit 28,.val (.int IntKind.i64) p2),(nat_lit 27,.val (.sl false [.sl true [.int .i64,.int .i64,.int .i64,.int .i64,.int .u32]]) p3),(nat_lit 3,.ptr (nat_lit 384) (nat_lit 0))] [(nat_lit 384,.box [.val (.sl false [.sl true [.int .i64,.int .i64,.int .i64,.int .i64,.int .u32]]) L])]) else k Ex.ret (St.mk [(nat_lit 6,.val .bool (U.b false))] []) else False else False else k (Ex.exit (nat_lit 2)) (St.mk [(nat_lit 9,.val .bool s),(nat_lit 7,.val (.int IntKind.i64) i),(nat_lit 1,.val (.int IntKind.i64) n),(nat_lit 2,.val (.int IntKind.i64) c),(nat_lit 29,.val (.int IntKind.i64) p1),(nat_lit 28,.val (.int IntKind.i64) p2),(nat_lit 27,.val (.sl false [.sl true [.int .i64,.int .i64,.int .i64,.int .i64,.int .u32]]) p3),(nat_lit 3,.ptr (nat_lit 384) (nat_lit 0))] [(nat_lit 384,.box [.val (.sl false [.sl true [.int .i64,.int .i64,.int .i64,.int .i64,.int .u32]]) L])])):=by kernel_rfl
theorem tab_round0 (pan:KP) (μ:Mu) (N:Nat) (k:KE) (i m L n c:U):(exec (tabC.panics pan) (loopBody Try.f58 0) 0 ⟨[(29,vi i),(28,vi m),(27,vl (.sl true EC) L),(3,.ptr 384 0),(1,vi n),(2,vi c)],[(384,.box [vl (.sl true EC) L])]⟩ (again PR (some ([6],[])) none pan [29,28,27,3,1,2] [384] tabLoop0 μ N k))=(bif decide (i.int < m.int) then bif decide ((0:Int)≤i.int∧i.int < (L.list.length:Int)) then bif (↑(List.length (U.list (nth (U.i (0:Int)) L.list (Int.toNat i.int)))):Int) == (0:Int) then bif decide (i.int < IntKind.wrap .i64 ((L.list.length:Int) - (1:Int))) then bif Nat.blt (μ [.val (.int IntKind.i64) (U.i (IntKind.wrap .i64 (i.int + (1:Int)))),.val (.int IntKind.i64) m,.val (.sl false [.sl true [.int .i64,.int .i64,.int .i64,.int .i64,.int .u32]]) L,.ptr (nat_lit 384) (nat_lit 0),.val (.int IntKind.i64) n,.val (.int IntKind.i64) c] [.box [.val (.sl false [.sl true [.int .i64,.int .i64,.int .i64,.int .i64,.int .u32]]) L]]) N then (nat_lit 384=nat_lit 384∧nat_lit 0=nat_lit 0∧[Ct.int IntKind.i64,Ct.int IntKind.i64,Ct.int IntKind.i64,Ct.int IntKind.i64,Ct.int IntKind.u32]=[.int .i64,.int .i64,.int .i64,.int .i64,.int .u32]∧[Ct.int IntKind.i64,Ct.int IntKind.i64,Ct.int IntKind.i64,Ct.int IntKind.i64,Ct.int IntKind.u32]=[.int .i64,.int .i64,.int .i64,.int .i64,.int .u32]∧L=L∧m.int=(L.list.length:Int)∧(0:Int)≤IntKind.wrap .i64 (i.int + (1:Int))∧IntKind.wrap .i64 (i.int + (1:Int))≤m.int)∧bif leavesR n.int c.int (IntKind.wrap .i64 (i.int + (1:Int))) (List.drop (Int.toNat (IntKind.wrap .i64 (i.int + (1:Int)))) L.list) then k (Ex.exit (nat_lit 0)) (St.mk [(nat_lit 6,.unk)] []) else k Ex.ret (St.mk [(nat_lit 6,.val .bool (U.b false))] []) else False else bif (↑(List.length (U.list (nth (U.i (0:Int)) L.list (Int.toNat i.int)))):Int) != (8:Int) then k Ex.ret (St.mk [(nat_lit 6,.val .bool (U.b false))] []) else (nat_lit 384=nat_lit 384∧nat_lit 0=nat_lit 0∧[Ct.int IntKind.i64,Ct.int IntKind.i64,Ct.int IntKind.i64,Ct.int IntKind.i64,Ct.int IntKind.u32]=[.int .i64,.int .i64,.int .i64,.int .i64,.int .u32]∧[Ct.int IntKind.i64,Ct.int IntKind.i64,Ct.int IntKind.i64,Ct.int IntKind.i64,Ct.int IntKind.u32]=[.int .i64,.int .i64,.int .i64,.int .i64,.int .u32]∧[Ct.int IntKind.i64,Ct.int IntKind.i64,Ct.int IntKind.i64,Ct.int IntKind.i64,Ct.int IntKind.u32]=[.int .i64,.int .i64,.int .i64,.int .i64,.int .u32]∧U.b false=U.b false∧(↑(List.length (U.list (nth (U.i (0:Int)) L.list (Int.toNat i.int)))):Int)=(↑(List.length (U.list (nth (U.i (0:Int)) L.list (Int.toNat i.int)))):Int)∧(0:Int)≤(0:Int)∧(0:Int)≤(↑(List.length (U.list (nth (U.i (0:Int)) L.list (Int.toNat i.int)))):Int))∧bif entsR n.int c.int i.int (0:Int) (List.drop (Int.toNat (0:Int)) (U.list (nth (U.i (0:Int)) L.list (Int.toNat i.int)))) then bif !(false || someR (List.drop (Int.toNat (0:Int)) (U.list (nth (U.i (0:Int)) L.list (Int.toNat i.int))))) then k Ex.ret (St.mk [(nat_lit 6,.val .bool (U.b false))] []) else bif Nat.blt (μ [.val (.int IntKind.i64) (U.i (IntKind.wrap .i64 (i.int + (1:Int)))),.val (.int IntKind.i64) m,.val (.sl false [.sl true [.int .i64,.int .i64,.int .i64,.int .i64,.int .u32]]) L,.ptr (nat_lit 384) (nat_lit 0),.val (.int IntKind.i64) n,.val (.int IntKind.i64) c] [.box [.val (.sl false [.sl true [.int .i64,.int .i64,.int .i64,.int .i64,.int .u32]]) L]]) N then (nat_lit 384=nat_lit 384∧nat_lit 0=nat_lit 0∧[Ct.int IntKind.i64,Ct.int IntKind.i64,Ct.int IntKind.i64,Ct.int IntKind.i64,Ct.int IntKind.u32]=[.int .i64,.int .i64,.int .i64,.int .i64,.int .u32]∧[Ct.int IntKind.i64,Ct.int IntKind.i64,Ct.int IntKind.i64,Ct.int IntKind.i64,Ct.int IntKind.u32]=[.int .i64,.int .i64,.int .i64,.int .i64,.int .u32]∧L=L∧m.int=(L.list.length:Int)∧(0:Int)≤IntKind.wrap .i64 (i.int + (1:Int))∧IntKind.wrap .i64 (i.int + (1:Int))≤m.int)∧bif leavesR n.int c.int (IntKind.wrap .i64 (i.int + (1:Int))) (List.drop (Int.toNat (IntKind.wrap .i64 (i.int + (1:Int)))) L.list) then k (Ex.exit (nat_lit 0)) (St.mk [(nat_lit 6,.unk)] []) else k Ex.ret (St.mk [(nat_lit 6,.val .bool (U.b false))] []) else False else k Ex.ret (St.mk [(nat_lit 6,.val .bool (U.b false))] []) else bif (↑(List.length (U.list (nth (U.i (0:Int)) L.list (Int.toNat i.int)))):Int) != (8:Int) then k Ex.ret (St.mk [(nat_lit 6,.val .bool (U.b false))] []) else (nat_lit 384=nat_lit 384∧nat_lit 0=nat_lit 0∧[Ct.int IntKind.i64,Ct.int IntKind.i64,Ct.int IntKind.i64,Ct.int IntKind.i64,Ct.int IntKind.u32]=[.int .i64,.int .i64,.int .i64,.int .i64,.int .u32]∧[Ct.int IntKind.i64,Ct.int IntKind.i64,Ct.int IntKind.i64,Ct.int IntKind.i64,Ct.int IntKind.u32]=[.int .i64,.int .i64,.int .i64,.int .i64,.int .u32]∧[Ct.int IntKind.i64,Ct.int IntKind.i64,Ct.int IntKind.i64,Ct.int IntKind.i64,Ct.int IntKind.u32]=[.int .i64,.int .i64,.int .i64,.int .i64,.int .u32]∧U.b false=U.b false∧(↑(List.length (U.list (nth (U.i (0:Int)) L.list (Int.toNat i.int)))):Int)=(↑(List.length (U.list (nth (U.i (0:Int)) L.list (Int.toNat i.int)))):Int)∧(0:Int)≤(0:Int)∧(0:Int)≤(↑(List.length (U.list (nth (U.i (0:Int)) L.list (Int.toNat i.int)))):Int))∧bif entsR n.int c.int i.int (0:Int) (List.drop (Int.toNat (0:Int)) (U.list (nth (U.i (0:Int)) L.list (Int.toNat i.int)))) then bif !(false || someR (List.drop (Int.toNat (0:Int)) (U.list (nth (U.i (0:Int)) L.list (Int.toNat i.int))))) then k Ex.ret (St.mk [(nat_lit 6,.val .bool (U.b false))] []) else bif Nat.blt (μ [.val (.int IntKind.i64) (U.i (IntKind.wrap .i64 (i.int + (1:Int)))),.val (.int IntKind.i64) m,.val (.sl false [.sl true [.int .i64,.int .i64,.int .i64,.int .i64,.int .u32]]) L,.ptr (nat_lit 384) (nat_lit 0),.val (.int IntKind.i64) n,.val (.int IntKind.i64) c] [.box [.val (.sl false [.sl true [.int .i64,.int .i64,.int .i64,.int .i64,.int .u32]]) L]]) N then (nat_lit 384=nat_lit 384∧nat_lit 0=nat_lit 0∧[Ct.int IntKind.i64,Ct.int IntKind.i64,Ct.int IntKind.i64,Ct.int IntKind.i64,Ct.int IntKind.u32]=[.int .i64,.int .i64,.int .i64,.int .i64,.int .u32]∧[Ct.int IntKind.i64,Ct.int IntKind.i64,Ct.int IntKind.i64,Ct.int IntKind.i64,Ct.int IntKind.u32]=[.int .i64,.int .i64,.int .i64,.int .i64,.int .u32]∧L=L∧m.int=(L.list.length:Int)∧(0:Int)≤IntKind.wrap .i64 (i.int + (1:Int))∧IntKind.wrap .i64 (i.int + (1:Int))≤m.int)∧bif leavesR n.int c.int (IntKind.wrap .i64 (i.int + (1:Int))) (List.drop (Int.toNat (IntKind.wrap .i64 (i.int + (1:Int)))) L.list) then k (Ex.exit (nat_lit 0)) (St.mk [(nat_lit 6,.unk)] []) else k Ex.ret (St.mk [(nat_lit 6,.val .bool (U.b false))] []) else False else k Ex.ret (St.mk [(nat_lit 6,.val .bool (U.b false))] []) else False else k (Ex.exit (nat_lit 0)) (St.mk [(nat_lit 6,.unk)] [])):=by kernel_rfl
theorem tab_tree (R:RF) (L n c:U):(run tabC Try.f58 [[L],[n],[c]] R)=(bif decide (U.int n < (0:Int)) then R [[U.b false]] else bif decide (U.int n > (4096:Int)) then R [[U.b false]] else bif decide (U.int c < (0:Int)) then R [[U.b false]] else bif decide (U.int c >
 (6:Int)) then R [[U.b false]] else (nat_lit 384=nat_lit 384∧nat_lit 0=nat_lit 0∧[Ct.int IntKind.i64,Ct.int IntKind.i64,Ct.int IntKind.i64,Ct.int IntKind.i64,Ct.int IntKind.u32]=[Ct.int
 IntKind.i64,Ct.int IntKind.i64,Ct.int IntKind.i64,Ct.int IntKind.i64,Ct.int IntKind.u32]∧[Ct.int IntKind.i64,Ct.int IntKind.i64,Ct.int IntKind.i64,Ct.int IntKind.i64,Ct.int IntKind.u32]=[Ct.int
 IntKind.i64,Ct.int IntKind.i64,Ct.int IntKind.i64,Ct.int IntKind.i64,Ct.int IntKind.u32]∧L=L∧(↑(List.length (U.list L)):Int)=(↑(List.length (U.list L)):Int)∧(0:Int)≤(0:Int)∧(0
 : Int)≤(↑(List.length (U.list L)):Int))∧bif leavesR (U.int n) (U.int c) (0:Int) (List.drop (Int.toNat (0:Int)) (U.list L)) then R [[U.b true]] else R [[U.b false]]):=by kernel_rfl
noncomputable def rtabLoop2:LoopF:=fun _ svs os k=>match svs with
 | .val (.int .i64) kk :: .val .bool s :: rest=>match rest,os with
  | [.val (.int .i64) i,.val (.int .i64) n,.val (.int .i64) c,.ptr pp po],[.box [.val (.sl false [.sl true ec]) L]]=>
   (pp=384∧po=0∧ec=EC∧s = .b s.bool∧0≤kk.int∧kk.int≤8∧0≤i.int∧i.int < (L.list.length:Int)∧(nth (.i 0) L.list i.int.toNat).list.length=8)∧
   (bif rentsR n.int c.int i.int kk.int ((nth (.i 0) L.list i.int.toNat).list.drop kk.int.toNat) then k (.exit 2) ⟨(8,vb (.b (s.bool || rsomeR ((nth (.i 0) L.list i.int.toNat).list.drop kk.int.toNat)))) :: [7,1,2,3].zip rest,[384].zip os⟩
     else k .ret ⟨[(6,vb (.b false))],[]⟩)
  | _,_=>False
 | _=>False
noncomputable def rtabLoop0:LoopF:=fun _ svs os k=>match svs,os with
 | [.val (.int .i64) i,.val (.int .i64) n,.val (.int .i64) c,.ptr pp po],[.box [.val (.sl false [.sl true ec]) L]]=>
  (pp=384∧po=0∧ec=EC∧0≤i.int∧i.int≤(L.list.length:Int))∧
  (bif rleavesR n.int c.int i.int (L.list.drop i.int.toNat) then k (.exit 0) ⟨[(6,.unk)],[]⟩ else k .ret ⟨[(6,vb (.b false))],[]⟩)
 | _,_=>False
noncomputable def rtabC:Ctx:=mkC PR eqs0 (fnsCons 27 mayS fnsNil) trsNil
 (loopCons 2 [9,8,7,1,2,3] [384] rtabLoop2 (loopCons 0 [7,1,2,3] [384] rtabLoop0 noLoops))
 (outCons 2 [8,7,1,2,3] [384] (outCons 1048578 [6] [] (outCons 0 [6] [] noOut))) noOut
theorem rtab_round2 (pan:KP) (μ:Mu) (N:Nat) (k:KE) (kk s i n c L:U):(exec (rtabC.panics pan) (loopBody Try.f33 1) 2 ⟨[(9,vi kk),(8,vb s),(7,vi i),(1,vi n),(2,vi c),(3,.ptr 384 0)],[(384,.box [vl (.sl true EC) L])]⟩ (again PR (some ([8,7,1,2,3],[384])) (some ([6],[])) pan [9,8,7,1,2,3] [384] rtabLoop2 μ N k))=(bif decide (kk.int < (8:Int)) then bif decide ((0:Int)≤i.int∧i.int < (L.list.length:Int)) then bif decide ((0:Int)≤kk.int∧kk.int < (↑(List.length (U.list (nth (U.i (0:Int)) L.list (Int.toNat i.int)))):Int)) then bif !mayR (U.int (nth (U.i (0:Int)) (U.list (nth (U.i (0:Int)) (U.list (nth (U.i (0:Int)) L.list (Int.toNat i.int))) (Int.toNat kk.int))) (0:Nat))) (U.int (nth (U.i (0:Int)) (List.tail (U.list (nth (U.i (0:Int)) (U.list (nth (U.i (0:Int)) L.list (Int.toNat i.int))) (Int.toNat kk.int)))) (0:Nat))) (U.int (nth (U.i (0:Int)) (List.tail (List.tail (U.list (nth (U.i (0:Int)) (U.list (nth (U.i (0:Int)) L.list (Int.toNat i.int))) (Int.toNat kk.int))))) (0:Nat))) (U.int (nth (U.i (0:Int)) (List.tail (List.tail (List.tail (U.list (nth (U.i (0:Int)) (U.list (nth (U.i (0:Int)) L.list (Int.toNat i.int))) (Int.toNat kk.int)))))) (0:Nat))) (U.int (nth (U.i (0:Int)) (List.tail (List.tail (List.tail (List.tail (U.list (nth (U.i (0:Int)) (U.list (nth (U.i (0:Int)) L.list (Int.toNat i.int))) (Int.toNat kk.int))))))) (0:Nat))) c.int then k Ex.ret (St.mk [(nat_lit 6,.val .bool (U.b false))] []) else bif U.int (nth (U.i (0:Int)) (U.list (nth (U.i (0:Int)) (U.list (nth (U.i (0:Int)) L.list (Int.toNat i.int))) (Int.toNat kk.int))) (0:Nat)) != (0:Int) then bif decide (IntKind.wrap .i64 (IntKind.wrap .i64 (i.int * (8:Int)) + kk.int) ≥ n.int) then k Ex.ret (St.mk [(nat_lit 6,.val .bool (U.b false))] []) else bif s.bool then bif Nat.blt (μ [.val (.int IntKind.i64) (U.i (IntKind.wrap .i64 (kk.int + (1:Int)))),.val .bool (U.b true),.val (.int IntKind.i64) i,.val (.int IntKind.i64) n,.val (.int IntKind.i64) c,.ptr (nat_lit 384) (nat_lit 0)] [.box [.val (.sl false [.sl true [.int .i64,.int .i64,.int .i64,.int .i64,.int .u32]]) L]]) N then (nat_lit 384=nat_lit 384∧nat_lit 0=nat_lit 0∧[Ct.int IntKind.i64,Ct.int IntKind.i64,Ct.int IntKind.i64,Ct.int IntKind.i64,Ct.int IntKind.u32]=[.int .i64,.int .i64,.int .i64,.int .i64,.int .u32]∧U.b true=U.b true∧(0:Int)≤IntKind.wrap .i64 (kk.int + (1:Int))∧IntKind.wrap .i64 (kk.int + (1:Int))≤(8:Int)∧(0:Int)≤i.int∧i.int < (L.list.length:Int)∧List.length (U.list (nth (U.i (0:Int)) L.list (Int.toNat i.int)))=nat_lit 8)∧bif rentsR n.int c.int i.int (IntKind.wrap .i64 (kk.int + (1:Int))) (List.drop (Int.toNat (IntKind.wrap .i64 (kk.int + (1:Int)))) (U.list (nth (U.i (0:Int)) L.list (Int.toNat i.int)))) then k (Ex.exit (nat_lit 2)) (St.mk [(nat_lit 8,.val .bool (U.b (true || rsomeR (List.drop (Int.toNat (IntKind.wrap .i64 (kk.int + (1:Int)))) (U.list (nth (U.i (0:Int)) L.list (Int.toNat i.int))))))),(nat_lit 7,.val (.int IntKind.i64) i),(nat_lit 1,.val (.int IntKind.i64) n),(nat_lit 2,.val (.int IntKind.i64) c),(nat_lit 3,.ptr (nat_lit 384) (nat_lit 0))] [(nat_lit 384,.box [.val (.sl false [.sl true [.int .i64,.int .i64,.int .i64,.int .i64,.int .u32]]) L])]) else k Ex.ret (St.mk [(nat_lit 6,.val .bool (U.b false))] []) else False else bif Nat.blt (μ [.val (.int IntKind.i64) (U.i (IntKind.wrap .i64 (kk.int + (1:Int)))),.val .bool (U.b (U.int (nth (U.i (0:Int)) (U.list (nth (U.i (0:Int)) (U.list (nth (U.i (0:Int)) L.list (Int.toNat i.int))) (Int.toNat kk.int))) (0:Nat)) != (0:Int))),.val (.int IntKind.i64) i,.val (.int IntKind.i64) n,.val (.int IntKind.i64) c,.ptr (nat_lit 384) (nat_lit 0)] [.box [.val (.sl false [.sl true [.int .i64,.int .i64,.int .i64,.int .i64,.int .u32]]) L]]) N then (nat_lit 384=nat_lit 384∧nat_lit 0=nat_lit 0∧[Ct.int IntKind.i64,Ct.int IntKind.i64,Ct.int IntKind.i64,Ct.int IntKind.i64,Ct.int IntKind.u32]=[.int .i64,.int .i64,.int .i64,.int .i64,.int .u32]∧U.b (U.int (nth (U.i (0:Int)) (U.list (nth (U.i (0:Int)) (U.list (nth (U.i (0:Int)) L.list (Int.toNat i.int))) (Int.toNat kk.int))) (0:Nat)) != (0:Int))=U.b (U.int (nth (U.i (0:Int)) (U.list (nth (U.i (0:Int)) (U.list (nth (U.i (0:Int)) L.list (Int.toNat i.int))) (Int.toNat kk.int))) (0:Nat)) != (0:Int))∧(0:Int)≤IntKind.wrap .i64 (kk.int + (1:Int))∧IntKind.wrap .i64 (kk.int + (1:Int))≤(8:Int)∧(0:Int)≤i.int∧i.int < (L.list.length:Int)∧List.length (U.list (nth (U.i (0:Int)) L.list (Int.toNat i.int)))=nat_lit 8)∧bif rentsR n.int c.int i.int (IntKind.wrap .i64 (kk.int + (1:Int))) (List.drop (Int.toNat (IntKind.wrap .i64 (kk.int + (1:Int)))) (U.list (nth (U.i (0:Int)) L.list (Int.toNat i.int)))) then k (Ex.exit (nat_lit 2)) (St.mk [(nat_lit 8,.val .bool (U.b (U.int (nth (U.i (0:Int)) (U.list (nth (U.i (0:Int)) (U.list (nth (U.i (0:Int)) L.list (Int.toNat i.int))) (Int.toNat kk.int))) (0:Nat)) != (0:Int) || rsomeR (List.drop (Int.toNat (IntKind.wrap .i64 (kk.int + (1:Int)))) (U.list (nth (U.i (0:Int)) L.list (Int.toNat i.int))))))),(nat_lit 7,.val (.int IntKind.i64) i),(nat_lit 1,.val (.int IntKind.i64) n),(nat_lit 2,.val (.int IntKind.i64) c),(nat_lit 3,.ptr (nat_lit 384) (nat_lit 0))] [(nat_lit 384,.box [.val (.sl false [.sl true [.int .i64,.int .i64,.int .i64,.int .i64,.int .u32]]) L])]) else k Ex.ret (St.mk [(nat_lit 6,.val .bool (U.b false))] []) else False else bif s.bool then bif Nat.blt (μ [.val (.int IntKind.i64) (U.i (IntKind.wrap .i64 (kk.int + (1:Int)))),.val .bool (U.b true),.val (.int IntKind.i64) i,.val (.int IntKind.i64) n,.val (.int IntKind.i64) c,.ptr (nat_lit 384) (nat_lit 0)] [.box [.val (.sl false [.sl true [.int .i64,.int .i64,.int .i64,.int .i64,.int .u32]]) L]]) N then (nat_lit 384=nat_lit 384∧nat_lit 0=nat_lit 0∧[Ct.int IntKind.i64,Ct.int IntKind.i64,Ct.int IntKind.i64,Ct.int IntKind.i64,Ct.int IntKind.u32]=[.int .i64,.int .i64,.int .i64,.int .i64,.int .u32]∧U.b true=U.b true∧(0:Int)≤IntKind.wrap .i64 (kk.int + (1:Int))∧IntKind.wrap .i64 (kk.int + (1:Int))≤(8:Int)∧(0:Int)≤i.int∧i.int < (L.list.length:Int)∧List.length (U.list (nth (U.i (0:Int)) L.list (Int.toNat i.int)))=nat_lit 8)∧bif rentsR n.int c.int i.int (IntKind.wrap .i64 (kk.int + (1:Int))) (List.drop (Int.toNat (IntKind.wrap .i64 (kk.int + (1:Int)))) (U.list (nth (U.i (0:Int)) L.list (Int.toNat i.int)))) then k (Ex.exit (nat_lit 2)) (St.mk [(nat_lit 8,.val .bool (U.b (true || rsomeR (List.drop (Int.toNat (IntKind.wrap .i64 (kk.int + (1:Int)))) (U.list (nth (U.i (0:Int)) L.list (Int.toNat i.int))))))),(nat_lit 7,.val (.int IntKind.i64) i),(nat_lit 1,.val (.int IntKind.i64) n),(nat_lit 2,.val (.int IntKind.i64) c),(nat_lit 3,.ptr (nat_lit 384) (nat_lit 0))] [(nat_lit 384,.box [.val (.sl false [.sl true [.int .i64,.int .i64,.int .i64,.int .i64,.int .u32]]) L])]) else k Ex.ret (St.mk [(nat_lit 6,.val .bool (U.b false))] []) else False else bif Nat.blt (μ [.val (.int IntKind.i64) (U.i (IntKind.wrap .i64 (kk.int + (1:Int)))),.val .bool (U.b (U.int (nth (U.i (0:Int)) (U.list (nth (U.i (0:Int)) (U.list (nth (U.i (0:Int)) L.list (Int.toNat i.int))) (Int.toNat kk.int))) (0:Nat)) != (0:Int))),.val (.int IntKind.i64) i,.val (.int IntKind.i64) n,.val (.int IntKind.i64) c,.ptr (nat_lit 384) (nat_lit 0)] [.box [.val (.sl false [.sl true [.int .i64,.int .i64,.int .i64,.int .i64,.int .u32]]) L]]) N then (nat_lit 384=nat_lit 384∧nat_lit 0=nat_lit 0∧[Ct.int IntKind.i64,Ct.int IntKind.i64,Ct.int IntKind.i64,Ct.int IntKind.i64,Ct.int IntKind.u32]=[.int .i64,.int .i64,.int .i64,.int .i64,.int .u32]∧U.b (U.int (nth (U.i (0:Int)) (U.list (nth (U.i (0:Int)) (U.list (nth (U.i (0:Int)) L.list (Int.toNat i.int))) (Int.toNat kk.int))) (0:Nat)) != (0:Int))=U.b (U.int (nth (U.i (0:Int)) (U.list (nth (U.i (0:Int)) (U.list (nth (U.i (0:Int)) L.list (Int.toNat i.int))) (Int.toNat kk.int))) (0:Nat)) != (0:Int))∧(0:Int)≤IntKind.wrap .i64 (kk.int + (1:Int))∧IntKind.wrap .i64 (kk.int + (1:Int))≤(8:Int)∧(0:Int)≤i.int∧i.int < (L.list.length:Int)∧List.length (U.list (nth (U.i (0:Int)) L.list (Int.toNat i.int)))=nat_lit 8)∧bif rentsR n.int c.int i.int (IntKind.wrap .i64 (kk.int + (1:Int))) (List.drop (Int.toNat (IntKind.wrap .i64 (kk.int + (1:Int)))) (U.list (nth (U.i (0:Int)) L.list (Int.toNat i.int)))) then k (Ex.exit (nat_lit 2)) (St.mk [(nat_lit 8,.val .bool (U.b (U.int (nth (U.i (0:Int)) (U.list (nth (U.i (0:Int)) (U.list (nth (U.i (0:Int)) L.list (Int.toNat i.int))) (Int.toNat kk.int))) (0:Nat)) != (0:Int) || rsomeR (List.drop (Int.toNat (IntKind.wrap .i64 (kk.int + (1:Int)))) (U.list (nth (U.i (0:Int)) L.list (Int.toNat i.int))))))),(nat_lit 7,.val (.int IntKind.i64) i),(nat_lit 1,.val (.int IntKind.i64) n),(nat_lit 2,.val (.int IntKind.i64) c),(nat_lit 3,.ptr (nat_lit 384) (nat_lit 0))] [(nat_lit 384,.box [.val (.sl false [.sl true [.int .i64,.int .i64,.int .i64,.int .i64,.int .u32]]) L])]) else k Ex.ret (St.mk [(nat_lit 6,.val .bool (U.b false))] []) else False else False else False else k (Ex.exit (nat_lit 2)) (St.mk [(nat_lit 8,.val .bool s),(nat_lit 7,.val (.int IntKind.i64) i),(nat_lit 1,.val (.int IntKind.i64) n),(nat_lit 2,.val (.int IntKind.i64) c),(nat_lit 3,.ptr (nat_lit 384) (nat_lit 0))] [(nat_lit 384,.box [.val (.sl false [.sl true [.int .i64,.int .i64,.int .i64,.int .i64,.int .u32]]) L])])):=by kernel_rfl
theorem rtab_round0 (pan:KP) (μ:Mu) (N:Nat) (k:KE) (i L n c:U):(exec (rtabC.panics pan) (loopBody Try.f33 0) 0 ⟨[(7,vi i),(1,vi n),(2,vi c),(3,.ptr 384 0)],[(384,.box [vl (.sl true EC) L])]⟩ (again PR (some ([6],[])) none pan [7,1,2,3] [384] rtabLoop0 μ N k))=(bif decide (i.int < (L.list.length:Int)) then bif decide ((0:Int)≤i.int∧i.int < (L.list.length:Int)) then bif (↑(List.length (U.list (nth (U.i (0:Int)) L.list (Int.toNat i.int)))):Int) == (0:Int) then bif Nat.blt (μ [.val (.int IntKind.i64) (U.i (IntKind.wrap .i64 (i.int + (1:Int)))),.val (.int IntKind.i64) n,.val (.int IntKind.i64) c,.ptr (nat_lit 384) (nat_lit 0)] [.box [.val (.sl false [.sl true [.int .i64,.int .i64,.int .i64,.int .i64,.int .u32]]) L]]) N then (nat_lit 384=nat_lit 384∧nat_lit 0=nat_lit 0∧[Ct.int IntKind.i64,Ct.int IntKind.i64,Ct.int IntKind.i64,Ct.int IntKind.i64,Ct.int IntKind.u32]=[.int .i64,.int .i64,.int .i64,.int .i64,.int .u32]∧(0:Int)≤IntKind.wrap .i64 (i.int + (1:Int))∧IntKind.wrap .i64 (i.int + (1:Int))≤(L.list.length:Int))∧bif rleavesR n.int c.int (IntKind.wrap .i64 (i.int + (1:Int))) (List.drop (Int.toNat (IntKind.wrap .i64 (i.int + (1:Int)))) L.list) then k (Ex.exit (nat_lit 0)) (St.mk [(nat_lit 6,.unk)] []) else k Ex.ret (St.mk [(nat_lit 6,.val .bool (U.b false))] []) else False else bif decide ((0:Int)≤i.int∧i.int < (L.list.length:Int)) then bif (↑(List.length (U.list (nth (U.i (0:Int)) L.list (Int.toNat i.int)))):Int) != (8:Int) then k Ex.ret (St.mk [(nat_lit 6,.val .bool (U.b false))] []) else (nat_lit 384=nat_lit 384∧nat_lit 0=nat_lit 0∧[Ct.int IntKind.i64,Ct.int IntKind.i64,Ct.int IntKind.i64,Ct.int IntKind.i64,Ct.int IntKind.u32]=[.int .i64,.int .i64,.int .i64,.int .i64,.int .u32]∧U.b false=U.b false∧(0:Int)≤(0:Int)∧(0:Int)≤(8:Int)∧(0:Int)≤i.int∧i.int < (L.list.length:Int)∧List.length (U.list (nth (U.i (0:Int)) L.list (Int.toNat i.int)))=nat_lit 8)∧bif rentsR n.int c.int i.int (0:Int) (List.drop (Int.toNat (0:Int)) (U.list (nth (U.i (0:Int)) L.list (Int.toNat i.int)))) then bif !(false || rsomeR (List.drop (Int.toNat (0:Int)) (U.list (nth (U.i (0:Int)) L.list (Int.toNat i.int))))) then k Ex.ret (St.mk [(nat_lit 6,.val .bool (U.b false))] []) else bif Nat.blt (μ [.val (.int IntKind.i64) (U.i (IntKind.wrap .i64 (i.int + (1:Int)))),.val (.int IntKind.i64) n,.val (.int IntKind.i64) c,.ptr (nat_lit 384) (nat_lit 0)] [.box [.val (.sl false [.sl true [.int .i64,.int .i64,.int .i64,.int .i64,.int .u32]]) L]]) N then (nat_lit 384=nat_lit 384∧nat_lit 0=nat_lit 0∧[Ct.int IntKind.i64,Ct.int IntKind.i64,Ct.int IntKind.i64,Ct.int IntKind.i64,Ct.int IntKind.u32]=[.int .i64,.int .i64,.int .i64,.int .i64,.int .u32]∧(0:Int)≤IntKind.wrap .i64 (i.int + (1:Int))∧IntKind.wrap .i64 (i.int + (1:Int))≤(L.list.length:Int))∧bif rleavesR n.int c.int (IntKind.wrap .i64 (i.int + (1:Int))) (List.drop (Int.toNat (IntKind.wrap .i64 (i.int + (1:Int)))) L.list) then k (Ex.exit (nat_lit 0)) (St.mk [(nat_lit 6,.unk)] []) else k Ex.ret (St.mk [(nat_lit 6,.val .bool (U.b false))] []) else False else k Ex.ret (St.mk [(nat_lit 6,.val .bool (U.b false))] []) else False else False else k (Ex.exit (nat_lit 0)) (St.mk [(nat_lit 6,.unk)] [])):=by kernel_rfl
theorem rtab_tree (R:RF) (L n c:U):(run rtabC Try.f33 [[L],[n],[c]] R)=(bif decide (n.int < (0:Int)) then R [[U.b false]] else bif decide (n.int > (4096:Int)) then R [[U.b false]] else bif decide (c.int < (0:Int)) then R [[U.b false]] else bif decide (c.int > (6:Int)) then R [[U.b false]] else bif decide ((L.list.length:Int) > (0:Int)) then bif decide ((0:Int)≤IntKind.wrap .i64 ((L.list.length:Int) - (1:Int))∧IntKind.wrap .i64 ((L.list.length:Int) - (1:Int)) < (L.list.length:Int)) then bif (↑(List.length (U.list (nth (U.i (0:Int)) L.list (Int.toNat (IntKind.wrap .i64 ((L.list.length:Int) - (1:Int))))))):Int) == (0:Int) then R [[U.b false]] else bif decide ((L.list.length:Int) > (512:Int)) then R [[U.b false]] else (nat_lit 384=nat_lit 384∧nat_lit 0=nat_lit 0∧[Ct.int IntKind.i64,Ct.int IntKind.i64,Ct.int IntKind.i64,Ct.int IntKind.i64,Ct.int IntKind.u32]=[.int .i64,.int .i64,.int .i64,.int .i64,.int .u32]∧(0:Int)≤(0:Int)∧(0:Int)≤(L.list.length:Int))∧bif rleavesR n.int c.int (0:Int) (List.drop (Int.toNat (0:Int)) L.list) then R [[U.b true]] else R [[U.b false]] else False else bif decide ((L.list.length:Int) > (512:Int)) then R [[U.b false]] else (nat_lit 384=nat_lit 384∧nat_lit 0=nat_lit 0∧[Ct.int IntKind.i64,Ct.int IntKind.i64,Ct.int IntKind.i64,Ct.int IntKind.i64,Ct.int IntKind.u32]=[.int .i64,.int .i64,.int .i64,.int .i64,.int .u32]∧(0:Int)≤(0:Int)∧(0:Int)≤(L.list.length:Int))∧bif rleavesR n.int c.int (0:Int) (List.drop (Int.toNat (0:Int)) L.list) then R [[U.b true]] else R [[U.b false]]):=by kernel_rfl
end Go.Mat

namespace Go.Mat
open Go Go.Den Go.Proofs
theorem eqs0_ok:∀ t ks,eqs0 t=some ks→EqOk PR t ks:=by
 intro t ks h
 unfold eqs0 at h
 cases hb:Nat.beq t 24 with
 | true=>
  rw [hb] at h
  have:=Nat.eq_of_beq_eq_true hb
  subst this
  injection h with h
  subst h
  exact eq_ok (by kernel_rfl)
 | false=>rw [hb] at h;cases h
theorem mixed_ok:PR.follows .mixedOrders=true:=by kernel_rfl
end Go.Mat

namespace Go.Mat
open Go Go.Den Go.Proofs
theorem ubi {x y:Bool} (h:x=true↔y=true):([[U.b x]]:List (List U))=[[.b y]]:=by rw [Bool.eq_iff_iff.2 h]
theorem spanMay_ok:SpecF PR 69 spanMayS:=fun fn us hfn=>by
 have hf:PR.funcs[(69:Nat)]? = some Try.f69:=by kernel_rfl
 rw [hf] at hfn;cases hfn
 refine fn_okH (C:=K0) (mkC_ok eqs0_ok mixed_ok .nil .nil) hf (by kernel_rfl) (loops_none (by kernel_rfl)) fun hok=>?_
 have hp:Try.f69.params.toList=[81]:=by kernel_rfl
 rw [hp] at hok
 obtain ⟨a,b,hus⟩:∃ a b,us=[[a,b]]:=by
  obtain ⟨u,rfl,h1⟩:=shape1 (by kernel_rfl:Cs PR 81=some (true,[.int .i64,.int .i64])) hok.1
  obtain ⟨a,b,rfl⟩:=len2 h1
  exact ⟨a,b,rfl⟩
 subst hus
 refine .eq (spanMay_tree _ _ _) ?_
 unfold spanMayS
 simp only [nth_zero,nth_succ]
 repeat' (first | refine bd (fun _=>?_) (fun _=>?_) | refine bi (fun _=>?_) (fun _=>?_))
 all_goals (first | (refine ubi ?_;simp [spanMay];omega) | (refine ubi ?_;simp_all [spanMay];done) | (refine ubi ?_;simp_all [spanMay];omega))
theorem rspanMay_ok:SpecF PR 55 spanMayS:=fun fn us hfn=>by
 have hf:PR.funcs[(55:Nat)]? = some Try.f55:=by kernel_rfl
 rw [hf] at hfn;cases hfn
 refine fn_okH (C:=K0) (mkC_ok eqs0_ok mixed_ok .nil .nil) hf (by kernel_rfl) (loops_none (by kernel_rfl)) fun hok=>?_
 have hp:Try.f55.params.toList=[81]:=by kernel_rfl
 rw [hp] at hok
 obtain ⟨a,b,hus⟩:∃ a b,us=[[a,b]]:=by
  obtain ⟨u,rfl,h1⟩:=shape1 (by kernel_rfl:Cs PR 81=some (true,[.int .i64,.int .i64])) hok.1
  obtain ⟨a,b,rfl⟩:=len2 h1
  exact ⟨a,b,rfl⟩
 subst hus
 refine .eq (rspanMay_tree _ _ _) ?_
 unfold spanMayS
 simp only [nth_zero,nth_succ]
 repeat' (first | refine bd (fun _=>?_) (fun _=>?_) | refine bi (fun _=>?_) (fun _=>?_))
 all_goals (first | (refine ubi ?_;simp [spanMay];omega) | (refine ubi ?_;simp_all [spanMay];done) | (refine ubi ?_;simp_all [spanMay];omega))
theorem place_ok:SpecF PR 49 placeS:=fun fn us hfn=>by
 have hf:PR.funcs[(49:Nat)]? = some Try.f49:=by kernel_rfl
 rw [hf] at hfn;cases hfn
 refine fn_okH (C:=K0) (mkC_ok eqs0_ok mixed_ok .nil .nil) hf (by kernel_rfl) (loops_none (by kernel_rfl)) fun hok=>?_
 have hp:Try.f49.params.toList=[24]:=by kernel_rfl
 rw [hp] at hok
 obtain ⟨a,b,c,d,e,hus⟩:∃ a b c d e,us=[[a,b,c,d,e]]:=by
  obtain ⟨u,rfl,h1⟩:=shape1 (by kernel_rfl:Cs PR 24=some (true,[.int .i64,.int .i64,.int .i64,.int .i64,.int .u32])) hok.1
  obtain ⟨a,b,c,d,e,rfl⟩:=len5 h1
  exact ⟨a,b,c,d,e,rfl⟩
 subst hus
 refine .eq (place_tree _ _ _ _ _ _) ?_
 unfold placeS
 simp only [nth_zero,nth_succ]
 have hw:2≤b.int→b.int≤65536→IntKind.wrap .i64 (65536 - b.int)=65536 - b.int:=fun h h'=>i64_in (by omega) (by omega)
 repeat' (first | refine bd (fun _=>?_) (fun _=>?_) | refine bi (fun _=>?_) (fun _=>?_))
 all_goals (first | (rw [hw (by omega) (by omega)];refine ubi ?_;simp [placeR];omega) | (refine ubi ?_;simp [placeR];omega))
theorem none_ok:SpecF PR 65 noneS:=fun fn us hfn=>by
 have hf:PR.funcs[(65:Nat)]? = some Try.f65:=by kernel_rfl
 rw [hf] at hfn;cases hfn
 refine fn_okH (C:=K0) (mkC_ok eqs0_ok mixed_ok .nil .nil) hf (by kernel_rfl) (loops_none (by kernel_rfl)) fun hok=>?_
 have hp:Try.f65.params.toList=[24]:=by kernel_rfl
 rw [hp] at hok
 obtain ⟨a,b,c,d,e,hus⟩:∃ a b c d e,us=[[a,b,c,d,e]]:=by
  obtain ⟨u,rfl,h1⟩:=shape1 (by kernel_rfl:Cs PR 24=some (true,[.int .i64,.int .i64,.int .i64,.int .i64,.int .u32])) hok.1
  obtain ⟨a,b,c,d,e,rfl⟩:=len5 h1
  exact ⟨a,b,c,d,e,rfl⟩
 subst hus
 refine .eq (none_tree _ _ _ _ _ _) ?_
 unfold noneS
 simp only [nth_zero,nth_succ]
 refine ubi ?_;simp [noneR]
theorem may_ok:SpecF PR 23 mayS:=fun fn us hfn=>by
 have hf:PR.funcs[(23:Nat)]? = some Try.f23:=by kernel_rfl
 rw [hf] at hfn;cases hfn
 refine fn_okH (C:=mayC) (mkC_ok eqs0_ok mixed_ok (.cons place_ok .nil) .nil) hf (by kernel_rfl) (loops_none (by kernel_rfl)) fun hok=>?_
 have hp:Try.f23.params.toList=[24,3]:=by kernel_rfl
 rw [hp] at hok
 obtain ⟨a,b,c,d,e,k,hus⟩:∃ a b c d e k,us=[[a,b,c,d,e],[k]]:=by
  obtain ⟨u,u2,rfl,h1,h2⟩:=shape2 (by kernel_rfl:Cs PR 24=some (true,[.int .i64,.int .i64,.int .i64,.int .i64,.int .u32])) (by kernel_rfl:Cs PR 3=some (false,[.int .i64])) hok.1
  obtain ⟨a,b,c,d,e,rfl⟩:=len5 h1
  obtain ⟨k,rfl⟩:=len1 h2
  exact ⟨a,b,c,d,e,k,rfl⟩
 subst hus
 refine .eq (may_tree _ _ _ _ _ _ _) ?_
 unfold mayS
 simp only [nth_zero,nth_succ]
 by_cases hk0:k.int < 0
 ·exact dt hk0 (by simp [mayR,hk0])
 refine df hk0 ?_
 by_cases hk6:k.int > 6
 ·exact dt hk6 (by simp [mayR,show 6 < k.int from hk6])
 refine df hk6 (df hk0 ?_)
 have hs:=shl_one (c:=k.int) (by omega) (by omega)
 have hp:=pow_le (c:=k.int) (by omega) (by omega)
 rw [hs]
 have hc:¬ (k.int < 0∨6 < k.int):=by omega
 rw [mayR,if_neg hc]
 generalize (2:Int) ^ k.int.toNat=p at hp hs ⊢
 by_cases ha0:a.int=0
 ·refine bt (by simp [ha0]) ?_
  refine ubi ?_;simp [ha0]
 refine bf (by simp [ha0]) ?_
 by_cases ha1:a.int=1
 ·refine bt (by simp [ha1]) ?_
  refine ubi ?_;simp [ha1]
 refine bf (by simp [ha1]) ?_
 rw [if_neg (by omega)]
 by_cases ha2:a.int=2
 ·refine bt (by simp [ha2]) ?_
  rw [if_pos ha2]
  refine bi (fun h=>bi (fun h'=>?_) (fun h'=>?_)) (fun h=>?_)
  all_goals (simp at h;simp_all)
 refine bf (by simp [ha2]) ?_
 rw [if_neg ha2]
 by_cases ha3:a.int=3
 ·refine bt (by simp [ha3]) ?_
  rw [if_pos ha3]
  by_cases h1:c.int ≥ 1
  ·refine dt h1 ?_
   by_cases h2:c.int < p
   ·refine dt h2 ?_
    rw [i64_in (x:=c.int - 1) (by omega) (by omega),i64_in (x:=(c.int - 1) * 16) (by omega) (by omega),i64_in (x:=c.int * 16) (by omega) (by omega)]
    refine bd (fun h3=>bd (fun h4=>bd (fun h5=>?_) (fun h5=>?_)) (fun h4=>?_)) (fun h3=>?_)
    ·have:decide (1≤c.int∧c.int < p∧1≤d.int∧(c.int - 1) * 16 < d.int∧d.int≤c.int * 16)=true:=by simp;omega
     rw [this];rfl
    all_goals
     have:decide (1≤c.int∧c.int < p∧1≤d.int∧(c.int - 1) * 16 < d.int∧d.int≤c.int * 16)=false:=by simp;omega
     rw [this];rfl
   ·refine df h2 ?_
    simp [h2]
  ·refine df h1 ?_
   simp [show ¬ 1≤c.int from h1]
 refine bf (by simp [ha3]) ?_
 simp [ha3]
theorem rmay_ok:SpecF PR 27 mayS:=fun fn us hfn=>by
 have hf:PR.funcs[(27:Nat)]? = some Try.f27:=by kernel_rfl
 rw [hf] at hfn;cases hfn
 refine fn_okH (C:=K0) (mkC_ok eqs0_ok mixed_ok .nil .nil) hf (by kernel_rfl) (loops_none (by kernel_rfl)) fun hok=>?_
 have hp:Try.f27.params.toList=[24,3]:=by kernel_rfl
 rw [hp] at hok
 obtain ⟨a,b,c,d,e,k,hus⟩:∃ a b c d e k,us=[[a,b,c,d,e],[k]]:=by
  obtain ⟨u,u2,rfl,h1,h2⟩:=shape2 (by kernel_rfl:Cs PR 24=some (true,[.int .i64,.int .i64,.int .i64,.int .i64,.int .u32])) (by kernel_rfl:Cs PR 3=some (false,[.int .i64])) hok.1
  obtain ⟨a,b,c,d,e,rfl⟩:=len5 h1
  obtain ⟨k,rfl⟩:=len1 h2
  exact ⟨a,b,c,d,e,k,rfl⟩
 subst hus
 refine .eq (rmay_tree _ _ _ _ _ _ _) ?_
 unfold mayS
 simp only [nth_zero,nth_succ]
 by_cases hk0:k.int < 0
 ·exact dt hk0 (by simp [mayR,hk0])
 refine df hk0 ?_
 by_cases hk6:k.int > 6
 ·exact dt hk6 (by simp [mayR,show 6 < k.int from hk6])
 refine df hk6 ?_
 have hku:IntKind.wrap .u64 k.int=k.int:=u64_in (by omega) (by omega)
 have hs:=shl_one (c:=k.int) (by omega) (by omega)
 have hp:=pow_le (c:=k.int) (by omega) (by omega)
 simp only [hku,hs]
 have hc:¬ (k.int < 0∨6 < k.int):=by omega
 rw [mayR,if_neg hc]
 generalize (2:Int) ^ k.int.toNat=p at hp hs ⊢
 clear hs hku
 have w1:1≤c.int→c.int≤64→IntKind.wrap .i64 (65536 - c.int)=65536 - c.int:=fun _ _=>i64_in (by omega) (by omega)
 have w2:1≤c.int→c.int < p→IntKind.wrap .i64 (c.int * 16)=c.int * 16:=fun _ _=>i64_in (by omega) (by omega)
 have w3:1≤c.int→c.int < p→IntKind.wrap .i64 (IntKind.wrap .i64 (c.int - 1) * 16)=(c.int - 1) * 16:=fun _ _=>by rw [i64_in (x:=c.int - 1) (by omega) (by omega),i64_in (by omega) (by omega)]
 have key:a.int=0∨a.int=1∨a.int=2∨a.int=3∨(a.int≠0∧a.int≠1∧a.int≠2∧a.int≠3):=by omega
 have hd:∀ {q:Prop} [Decidable q] {x y:Prop},(bif decide q then x else y)=if q then x else y:=fun {q} _ {x y}=>by by_cases h:q<;>simp [h]
 have hb:∀ {m n:Int} {x y:Prop},(bif m == n then x else y)=if m=n then x else y:=fun {m n x y}=>by by_cases h:m=n<;>simp [h]
 simp only [hd,hb]
 rcases key with ha | ha | ha | ha | ⟨ha,ha1,ha2,ha3⟩
 ·simp only [ha,↓reduceIte,Int.reduceEq,or_false,or_true,true_or,or_self]
  (repeat' split)<;>(refine ubi ?_;simp<;>omega)
 ·simp only [ha,↓reduceIte,Int.reduceEq,or_false,or_true,true_or,or_self]
  (repeat' split)<;>(refine ubi ?_;simp<;>omega)
 ·simp only [ha,↓reduceIte,Int.reduceEq,or_false,or_true,true_or,or_self,if_neg hk0]
  by_cases h1:c.int=p
  ·simp only [if_pos h1,w1 (by omega) (by omega)]
   (repeat' split)<;>(refine ubi ?_;simp [placeR]<;>omega)
  ·simp only [if_neg h1]
   (repeat' split)<;>(refine ubi ?_;simp [placeR]<;>omega)
 ·simp only [ha,↓reduceIte,Int.reduceEq,or_false,or_true,true_or,or_self,if_neg hk0]
  by_cases h1:1≤c.int∧c.int < p
  ·simp only [w1 h1.1 (by omega),w2 h1.1 h1.2,w3 h1.1 h1.2]
   (repeat' split)<;>(refine ubi ?_;simp [placeR]<;>omega)
  ·by_cases g1:c.int ≥ 1
   ·simp only [if_pos g1,if_neg (fun g2=>h1 ⟨g1,g2⟩)]
    (repeat' split)<;>(refine ubi ?_;simp [placeR]<;>omega)
   ·simp only [if_neg g1]
    (repeat' split)<;>(refine ubi ?_;simp [placeR]<;>omega)
 ·simp only [if_neg ha,if_neg ha1,if_neg ha2,if_neg ha3]
  rw [if_neg (by omega)]
theorem spans_loop:LoopOk spansC 0 (loopBody Try.f59 0):=by
 refine loopOk_of (F:=spansLoop) (ts:=[8,7,6,3]) (os:=[]) rfl (fun svs _=>match svs with | .val _ i :: .val _ m :: _=>(m.int - i.int).toNat | _=>0) ?_
 intro pan svs l k ho1 ho2 h
 unfold spansLoop at h
 split at h
 ·rename_i i m L last
  obtain ⟨⟨hm,h0,hi⟩,hk⟩:=h
  have hL:L.list.length≤maxLen:=ho1.2.2.1.1
  refine .eq (spans_round pan _ _ k i m L last) ?_
  simp only [nth_tail]
  refine bd (fun hlt=>dt ⟨h0,by omega⟩ ?_) (fun hlt=>?_)
  ·rw [drop_at (by omega),spansR] at hk
   simp only [U.at,e0,e1] at hk
   have hw:IntKind.wrap .i64 (i.int + 1)=i.int + 1:=i64_in (by omega) (by unfold maxLen at hL;omega)
   have hn:(i.int + 1).toNat=i.int.toNat + 1:=by omega
   simp only [hw,hn]
   refine bi (fun h1=>?_) (fun h1=>bd (fun h2=>?_) (fun h2=>blt (by simp;omega) ⟨⟨hm,by omega,by omega⟩,?_⟩))
   ·rw [nt h1] at hk;exact hk
   ·rw [nf h1,decide_eq_false (by omega)] at hk;exact hk
   ·rw [nf h1,decide_eq_true (by omega)] at hk;exact hk
  ·rw [List.drop_of_length_le (by omega)] at hk;exact hk
 ·exact h.elim
theorem rspans_loop:LoopOk rspansC 0 (loopBody Try.f36 0):=by
 refine loopOk_of (F:=rspansLoop) (ts:=[3,0]) (os:=[]) rfl (fun svs _=>match svs with | .val _ i :: .val _ L :: _=>(L.list.length - i.int).toNat | _=>0) ?_
 intro pan svs l k ho1 ho2 h
 unfold rspansLoop at h
 split at h
 ·rename_i i L
  obtain ⟨⟨h0,hi⟩,hk⟩:=h
  have hL:L.list.length≤maxLen:=ho1.2.1.1
  refine .eq (rspans_round pan _ _ k i L) ?_
  simp only [nth_tail,nth_drop]
  refine bd (fun hlt=>dt ⟨h0,hlt⟩ ?_) (fun hlt=>?_)
  ·rw [show L.list.length - i.int.toNat=(L.list.length - (i.int.toNat + 1)) + 1 by omega,spansAt] at hk
   simp only [U.at,e0,e1] at hk
   have hw:IntKind.wrap .i64 (i.int + 1)=i.int + 1:=i64_in (by omega) (by unfold maxLen at hL;omega)
   have hn:(i.int + 1).toNat=i.int.toNat + 1:=by omega
   simp only [hw,hn]
   refine bi (fun h1=>?_) (fun h1=>bd (fun h2=>?_) (fun h2=>blt (by simp;omega) ⟨⟨by omega,by omega⟩,?_⟩))
   ·rw [nt h1] at hk;exact hk
   ·have hw1:IntKind.wrap .i64 (i.int - 1)=i.int - 1:=i64_in (by omega) (by unfold maxLen at hL;omega)
    have hn1:(i.int - 1).toNat=i.int.toNat - 1:=by omega
    simp only [hw1,hn1,Nat.zero_add,Nat.add_zero]
    rw [nf h1,decide_eq_false (p:=i.int.toNat=0) (by omega),Bool.false_or] at hk
    refine dt ⟨h0,hlt⟩ (dt ⟨by omega,by omega⟩ (bd (fun h3=>?_) (fun h3=>blt (by simp;omega) ⟨⟨by omega,by omega⟩,?_⟩)))
    ·rw [decide_eq_false (by omega)] at hk;exact hk
    ·rw [decide_eq_true (by omega)] at hk;exact hk
   ·rw [nf h1,decide_eq_true (p:=i.int.toNat=0) (by omega),Bool.true_or] at hk;exact hk
  ·rw [show L.list.length - i.int.toNat=0 by omega] at hk;exact hk
 ·exact h.elim
theorem spans_ok:SpecF PR 59 spansS:=fun fn us hfn=>by
 have hf:PR.funcs[(59:Nat)]? = some Try.f59:=by kernel_rfl
 rw [hf] at hfn;cases hfn
 refine fn_okH (C:=spansC) (mkC_ok eqs0_ok mixed_ok (.cons spanMay_ok .nil) .nil) hf (by kernel_rfl) (loops_one (by kernel_rfl) spans_loop) fun hok=>?_
 have hp:Try.f59.params.toList=[75]:=by kernel_rfl
 rw [hp] at hok
 obtain ⟨L,hus⟩:∃ L,us=[[L]]:=by
  obtain ⟨u,rfl,h1⟩:=shape1 (by kernel_rfl:Cs PR 75=some (false,[.sl true [.int .i64,.int .i64]])) hok.1
  obtain ⟨L,rfl⟩:=len1 h1
  exact ⟨L,rfl⟩
 subst hus
 refine .eq (spans_tree _ _) ?_
 unfold spansS
 simp only [nth_zero,nth_succ]
 refine ⟨⟨by trivial,by omega,by omega⟩,?_⟩
 simp only [Int.toNat_zero,List.drop_zero]
 refine bi (fun h=>?_) (fun h=>?_)<;>rw [h]
theorem rspans_ok:SpecF PR 36 spansS:=fun fn us hfn=>by
 have hf:PR.funcs[(36:Nat)]? = some Try.f36:=by kernel_rfl
 rw [hf] at hfn;cases hfn
 refine fn_okH (C:=rspansC) (mkC_ok eqs0_ok mixed_ok (.cons rspanMay_ok .nil) .nil) hf (by kernel_rfl) (loops_one (by kernel_rfl) rspans_loop) fun hok=>?_
 have hp:Try.f36.params.toList=[75]:=by kernel_rfl
 rw [hp] at hok
 obtain ⟨L,hus⟩:∃ L,us=[[L]]:=by
  obtain ⟨u,rfl,h1⟩:=shape1 (by kernel_rfl:Cs PR 75=some (false,[.sl true [.int .i64,.int .i64]])) hok.1
  obtain ⟨L,rfl⟩:=len1 h1
  exact ⟨L,rfl⟩
 subst hus
 refine .eq (rspans_tree _ _) ?_
 unfold spansS
 simp only [nth_zero,nth_succ]
 refine ⟨⟨by omega,by omega⟩,?_⟩
 have:=spansAt_eq L.list.length L.list 0 (by omega)
 simp only [if_true,List.drop_zero] at this
 simp only [Int.toNat_zero,Nat.sub_zero,this]
 refine bi (fun h=>?_) (fun h=>?_)<;>rw [h]
theorem letters_at {l:List UInt8} {i:Nat} (h:i < l.length):lettersR (l.drop i)=(letterR ((l.getD i 0).toNat:Int) && lettersR (l.drop (i + 1))):=by
 rw [List.drop_eq_getElem_cons h,List.getD_eq_getElem?_getD,List.getElem?_eq_getElem h]
 rfl
theorem name_loop:LoopOk nameC 0 (loopBody Try.f57 0):=by
 refine loopOk_of (F:=nameLoop) (ts:=[14,13,0]) (os:=[]) rfl (fun svs _=>match svs with | .val _ i :: .val _ m :: _=>(m.int - i.int).toNat | _=>0) ?_
 intro pan svs l k ho1 ho2 h
 unfold nameLoop at h
 split at h
 ·rename_i i m s
  obtain ⟨⟨hm,h0,hi⟩,hk⟩:=h
  have hL:s.str.size≤maxLen:=ho1.2.2.1
  have hsz:s.str.data.toList.length=s.str.size:=str_len _
  refine .eq (name_round pan _ _ k i m s) ?_
  refine bd (fun hlt=>dt ⟨h0,by omega⟩ ?_) (fun hlt=>?_)
  ·rw [letters_at (by omega)] at hk
   have hw:IntKind.wrap .i64 (i.int + 1)=i.int + 1:=i64_in (by omega) (by unfold maxLen at hL;omega)
   have hn:(i.int + 1).toNat=i.int.toNat + 1:=by omega
   simp only [hw,hn]
   generalize hc:(((s.str.data.toList.getD i.int.toNat 0).toNat:Nat):Int)=c at hk ⊢
   have hlt':(m.int - (i.int + 1)).toNat < (m.int - i.int).toNat:=by omega
   have good:letterR c=true→(bif lettersR (s.str.data.toList.drop (i.int.toNat + 1)) then k (.exit 0) ⟨[(2,.unk)],[]⟩ else k .ret ⟨[(2,vb (.b false))],[]⟩):=fun h=>by rw [h,Bool.true_and] at hk;exact hk
   have bad:letterR c=false→k .ret ⟨[(2,vb (.b false))],[]⟩:=fun h=>by rw [h,Bool.false_and] at hk;exact hk
   clear hk
   repeat' (first | exact blt hlt' ⟨⟨by assumption,by omega,by omega⟩,good (by simp_all [letterR]<;>omega)⟩ | refine bd (fun _=>?_) (fun _=>?_) | refine bi (fun _=>?_) (fun _=>?_))
   all_goals exact bad (by simp_all [letterR]<;>omega)
  ·rw [List.drop_of_length_le (by omega)] at hk;exact hk
 ·exact h.elim
theorem rname_loop:LoopOk rnameC 0 (loopBody Try.f32 0):=by
 refine loopOk_of (F:=rnameLoop) (ts:=[3,0]) (os:=[]) rfl (fun svs _=>match svs with | .val _ i :: .val _ s :: _=>(s.str.size - i.int).toNat | _=>0) ?_
 intro pan svs l k ho1 ho2 h
 unfold rnameLoop at h
 split at h
 ·rename_i i s
  obtain ⟨⟨h0,hi⟩,hk⟩:=h
  have hL:s.str.size≤maxLen:=ho1.2.1
  have hsz:s.str.data.toList.length=s.str.size:=str_len _
  refine .eq (rname_round pan _ _ k i s) ?_
  refine bd (fun hlt=>dt ⟨h0,by omega⟩ ?_) (fun hlt=>?_)
  ·rw [letters_at (by omega)] at hk
   have hw:IntKind.wrap .i64 (i.int + 1)=i.int + 1:=i64_in (by omega) (by unfold maxLen at hL;omega)
   have hn:(i.int + 1).toNat=i.int.toNat + 1:=by omega
   simp only [hw,hn]
   generalize hc:(((s.str.data.toList.getD i.int.toNat 0).toNat:Nat):Int)=c at hk ⊢
   have hlt':(s.str.size - (i.int + 1)).toNat < (s.str.size - i.int).toNat:=by omega
   have good:letterR c=true→(bif lettersR (s.str.data.toList.drop (i.int.toNat + 1)) then k (.exit 0) ⟨[(2,.unk)],[]⟩ else k .ret ⟨[(2,vb (.b false))],[]⟩):=fun h=>by rw [h,Bool.true_and] at hk;exact hk
   have bad:letterR c=false→k .ret ⟨[(2,vb (.b false))],[]⟩:=fun h=>by rw [h,Bool.false_and] at hk;exact hk
   clear hk
   repeat' (first | exact blt hlt' ⟨⟨by omega,by omega⟩,good (by simp_all [letterR]<;>omega)⟩ | refine bd (fun _=>?_) (fun _=>?_) | refine bi (fun _=>?_) (fun _=>?_))
   all_goals exact bad (by simp_all [letterR]<;>omega)
  ·rw [List.drop_of_length_le (by omega)] at hk;exact hk
 ·exact h.elim
theorem name_ok:SpecF PR 57 nameS:=fun fn us hfn=>by
 have hf:PR.funcs[(57:Nat)]? = some Try.f57:=by kernel_rfl
 rw [hf] at hfn;cases hfn
 refine fn_okH (C:=nameC) (mkC_ok eqs0_ok mixed_ok .nil .nil) hf (by kernel_rfl) (loops_one (by kernel_rfl) name_loop) fun hok=>?_
 have hp:Try.f57.params.toList=[9]:=by kernel_rfl
 rw [hp] at hok
 obtain ⟨s,hus⟩:∃ s,us=[[s]]:=by
  obtain ⟨u,rfl,h1⟩:=shape1 (by kernel_rfl:Cs PR 9=some (false,[.str])) hok.1
  obtain ⟨s,rfl⟩:=len1 h1
  exact ⟨s,rfl⟩
 subst hus
 refine .eq (name_tree _ _) ?_
 unfold nameS
 simp only [nth_zero,nth_succ]
 have e1:(ByteArray.toList s.str == ByteArray.toList { data:=#[] })=(s.str.data.toList == []):=by rw [ByteArray.toList_eq,ByteArray.toList_eq]
 have e2:(s.str.size:Int)=s.str.data.toList.length:=by rw [str_len]
 rw [e1]
 refine bi (fun h=>?_) (fun h=>?_)
 ·rw [nameR,h];rfl
 ·refine bd (fun h2=>?_) (fun h2=>?_)
  ·rw [nameR,h,decide_eq_false (by omega)];rfl
  ·refine ⟨⟨by trivial,by omega,by omega⟩,?_⟩
   simp only [Int.toNat_zero,List.drop_zero]
   refine bi (fun h3=>?_) (fun h3=>?_)<;>(rw [nameR,h,decide_eq_true (by omega),h3];rfl)
theorem rname_ok:SpecF PR 32 nameS:=fun fn us hfn=>by
 have hf:PR.funcs[(32:Nat)]? = some Try.f32:=by kernel_rfl
 rw [hf] at hfn;cases hfn
 refine fn_okH (C:=rnameC) (mkC_ok eqs0_ok mixed_ok .nil .nil) hf (by kernel_rfl) (loops_one (by kernel_rfl) rname_loop) fun hok=>?_
 have hp:Try.f32.params.toList=[9]:=by kernel_rfl
 rw [hp] at hok
 obtain ⟨s,hus⟩:∃ s,us=[[s]]:=by
  obtain ⟨u,rfl,h1⟩:=shape1 (by kernel_rfl:Cs PR 9=some (false,[.str])) hok.1
  obtain ⟨s,rfl⟩:=len1 h1
  exact ⟨s,rfl⟩
 subst hus
 refine .eq (rname_tree _ _) ?_
 unfold nameS
 simp only [nth_zero,nth_succ]
 have e1:(ByteArray.toList s.str == ByteArray.toList { data:=#[] })=(s.str.data.toList == []):=by rw [ByteArray.toList_eq,ByteArray.toList_eq]
 have e2:(s.str.size:Int)=s.str.data.toList.length:=by rw [str_len]
 rw [e1]
 refine bi (fun h=>?_) (fun h=>?_)
 ·rw [nameR,h];rfl
 ·refine bd (fun h2=>?_) (fun h2=>?_)
  ·rw [nameR,h,decide_eq_false (by omega)];rfl
  ·refine ⟨⟨by omega,by omega⟩,?_⟩
   simp only [Int.toNat_zero,List.drop_zero]
   refine bi (fun h3=>?_) (fun h3=>?_)<;>(rw [nameR,h,decide_eq_true (by omega),h3];rfl)
end Go.Mat

namespace Go.Mat
open Go Go.Den Go.Proofs
theorem someR_cons (x:U) (r:List U):someR (x :: r)=(!noneR (e0 x).int (e1 x).int (e2 x).int (e3 x).int (e4 x).int || someR r):=rfl
theorem rsomeR_cons (x:U) (r:List U):rsomeR (x :: r)=(decide ((e0 x).int≠0) || rsomeR r):=rfl
theorem tab_loop2:LoopOk tabC 2 (loopBody Try.f58 1):=by
 refine loopOk_of (F:=tabLoop2) (ts:=[50,49,48,9,7,1,2,29,28,27,3]) (os:=[384]) rfl (fun svs _=>match svs with | .val _ i :: .val _ m :: _=>(m.int - i.int).toNat | _=>0) ?_
 intro pan svs os k ho1 ho2 h
 unfold tabLoop2 at h
 split at h
 ·rename_i kk m ec l s rest
  split at h
  ·rename_i i n c p1 p2 ec1 p3 pp po ec2 L
   obtain ⟨⟨rfl,rfl,rfl,rfl,rfl,hs,hm,h0,hi⟩,hk⟩:=h
   have hL:l.list.length≤maxLen:=ho1.2.2.1.1
   refine .eq (tab_round2 pan _ _ k kk m l s i n c p1 p2 p3 L) ?_
   simp only [nth_tail,Nat.zero_add,Nat.reduceAdd]
   refine bd (fun hlt=>dt ⟨h0,by omega⟩ ?_) (fun hlt=>?_)
   ·rw [drop_at (by omega),entsR,someR_cons] at hk
    simp only [entOk,U.at,e0,e1,e2,e3,e4] at hk
    have hw:IntKind.wrap .i64 (kk.int + 1)=kk.int + 1:=i64_in (by omega) (by unfold maxLen at hL;omega)
    have hn:(kk.int + 1).toNat=kk.int.toNat + 1:=by omega
    simp only [hw,hn]
    have hlt':(m.int - (kk.int + 1)).toNat < (m.int - kk.int).toNat:=by omega
    refine bi (fun h1=>?_) (fun h1=>?_)
    ·rw [nt h1] at hk;exact hk
    ·rw [nf h1] at hk
     refine bi (fun h2=>bd (fun h3=>?_) (fun h3=>?_)) (fun h2=>?_)
     ·rw [nt h2,decide_eq_false (by omega)] at hk;exact hk
     ·rw [nt h2,decide_eq_true (by omega)] at hk
      refine bi (fun h4=>?_) (fun h4=>?_)
      ·rw [h4] at hk
       exact blt hlt' ⟨⟨by trivial,by trivial,by trivial,by trivial,by trivial,by trivial,hm,by omega,by omega⟩,hk⟩
      ·rw [h4] at hk
       refine blt hlt' ⟨⟨by trivial,by trivial,by trivial,by trivial,by trivial,by trivial,hm,by omega,by omega⟩,?_⟩
       simpa [nt h2] using hk
     ·rw [nf h2] at hk
      refine bi (fun h4=>?_) (fun h4=>?_)
      ·rw [h4] at hk
       exact blt hlt' ⟨⟨by trivial,by trivial,by trivial,by trivial,by trivial,by trivial,hm,by omega,by omega⟩,hk⟩
      ·rw [h4] at hk
       refine blt hlt' ⟨⟨by trivial,by trivial,by trivial,by trivial,by trivial,by trivial,hm,by omega,by omega⟩,?_⟩
       simpa [nf h2] using hk
   ·rw [List.drop_of_length_le (by omega)] at hk
    rw [hs]
    simpa [entsR,someR] using hk
  ·exact h.elim
 ·exact h.elim
theorem tab_loop0:LoopOk tabC 0 (loopBody Try.f58 0):=by
 refine loopOk_of (F:=tabLoop0) (ts:=[29,28,27,3,1,2]) (os:=[384]) rfl (fun svs _=>match svs with | .val _ i :: .val _ m :: _=>(m.int - i.int).toNat | _=>0) ?_
 intro pan svs os k ho1 ho2 h
 unfold tabLoop0 at h
 split at h
 ·rename_i i m ec L pp po n c ec' L'
  obtain ⟨⟨rfl,rfl,rfl,rfl,rfl,hm,h0,hi⟩,hk⟩:=h
  have hL:L'.list.length≤maxLen:=ho1.2.2.1.1
  refine .eq (tab_round0 pan _ _ k i m L' n c) ?_
  refine bd (fun hlt=>dt ⟨h0,by omega⟩ ?_) (fun hlt=>?_)
  ·rw [drop_at (by omega),leavesR] at hk
   simp only [U.at] at hk
   have hw:IntKind.wrap .i64 (i.int + 1)=i.int + 1:=i64_in (by omega) (by unfold maxLen at hL;omega)
   have hw1:IntKind.wrap .i64 ((L'.list.length:Int) - 1)=(L'.list.length:Int) - 1:=i64_in (by omega) (by unfold maxLen at hL;omega)
   have hn:(i.int + 1).toNat=i.int.toNat + 1:=by omega
   have hlt':(m.int - (i.int + 1)).toNat < (m.int - i.int).toNat:=by omega
   have hdr:L'.list.drop (i.int.toNat + 1)=[]↔¬ i.int < (L'.list.length:Int) - 1:=by rw [List.drop_eq_nil_iff];omega
   simp only [hw,hw1,hn,Int.toNat_zero,List.drop_zero,Bool.false_or]
   generalize (nth (U.i 0) L'.list i.int.toNat).list=l at hk ⊢
   have full:(bif (leafR n.int c.int i.int l && leavesR n.int c.int (i.int + 1) (L'.list.drop (i.int.toNat + 1))) then k (.exit 0) ⟨[(6,.unk)],[]⟩ else k .ret ⟨[(6,vb (.b false))],[]⟩)→
     (bif (l.length:Int) != 8 then k .ret ⟨[(6,vb (.b false))],[]⟩ else
       ((384:Nat)=384∧(0:Nat)=0∧EC=EC∧EC=EC∧EC=EC∧U.b false=U.b (U.b false).bool∧(l.length:Int)=(l.length:Int)∧(0:Int)≤0∧(0:Int)≤(l.length:Int))∧
       bif entsR n.int c.int i.int 0 l then
        bif !someR l then k .ret ⟨[(6,vb (.b false))],[]⟩ else
         bif Nat.blt (m.int - (i.int + 1)).toNat (m.int - i.int).toNat then
          ((384:Nat)=384∧(0:Nat)=0∧EC=EC∧EC=EC∧L' = L'∧m.int=(L'.list.length:Int)∧0≤i.int + 1∧i.int + 1≤m.int)∧
          bif leavesR n.int c.int (i.int + 1) (L'.list.drop (i.int.toNat + 1)) then k (.exit 0) ⟨[(6,.unk)],[]⟩ else k .ret ⟨[(6,vb (.b false))],[]⟩
         else False
       else k .ret ⟨[(6,vb (.b false))],[]⟩):=by
    intro hk
    unfold leafR at hk
    refine bi (fun h2=>?_) (fun h2=>?_)
    ·rw [decide_eq_false (by simp at h2;omega)] at hk;exact hk
    ·rw [decide_eq_true (by simp at h2;omega)] at hk
     refine ⟨⟨rfl,rfl,rfl,rfl,rfl,rfl,rfl,by omega,by omega⟩,bi (fun h3=>bi (fun h4=>?_) (fun h4=>blt hlt' ⟨⟨rfl,rfl,rfl,rfl,rfl,hm,by omega,by omega⟩,?_⟩)) (fun h3=>?_)⟩
     ·rw [h3,nt h4] at hk;exact hk
     ·rw [h3,nf h4] at hk;exact hk
     ·rw [h3] at hk;exact hk
   refine bi (fun h1=>?_) (fun h1=>?_)
   ·have hl0:l=[]:=by simpa using h1
    refine bd (fun h2=>blt hlt' ⟨⟨by trivial,by trivial,by trivial,by trivial,by trivial,hm,by omega,by omega⟩,?_⟩) (fun h2=>?_)
    ·rw [if_pos ⟨hl0,fun h=>(hdr.1 h) h2⟩] at hk;exact hk
    ·rw [if_neg (fun h=>h.2 (hdr.2 h2))] at hk
     simpa using full hk
   ·have hl0:l≠[]:=by simpa using h1
    rw [if_neg (fun h=>hl0 h.1)] at hk
    simpa using full hk
  ·rw [List.drop_of_length_le (by omega)] at hk
   exact hk
 ·exact h.elim
theorem tab_ok:SpecF PR 58 tableS:=fun fn us hfn=>by
 have hf:PR.funcs[(58:Nat)]? = some Try.f58:=by kernel_rfl
 rw [hf] at hfn;cases hfn
 refine fn_okH (C:=tabC) (mkC_ok eqs0_ok mixed_ok (.cons may_ok (.cons none_ok .nil)) .nil) hf (by kernel_rfl) (loops_two (by kernel_rfl) tab_loop0 tab_loop2) fun hok=>?_
 have hp:Try.f58.params.toList=[36,3,3]:=by kernel_rfl
 rw [hp] at hok
 obtain ⟨L,n,c,hus⟩:∃ L n c,us=[[L],[n],[c]]:=by
  obtain ⟨u,u2,u3,rfl,h1,h2,h3⟩:=shape3 (by kernel_rfl:Cs PR 36=some (true,[.sl false [.sl true EC]])) (by kernel_rfl:Cs PR 3=some (false,[.int .i64])) (by kernel_rfl:Cs PR 3=some (false,[.int .i64])) hok.1
  obtain ⟨L,rfl⟩:=len1 h1
  obtain ⟨n,rfl⟩:=len1 h2
  obtain ⟨c,rfl⟩:=len1 h3
  exact ⟨L,n,c,rfl⟩
 subst hus
 refine .eq (tab_tree _ _ _ _) ?_
 unfold tableS
 simp only [nth_zero,nth_succ]
 refine bd (fun h=>by rw [tableR,if_pos (.inl h)]) (fun h=>bd (fun h2=>by rw [tableR,if_pos (.inr (.inl h2))]) (fun h2=>bd (fun h3=>by rw [tableR,if_pos (.inr (.inr (.inl h3)))]) (fun h3=>bd (fun h4=>by rw [tableR,if_pos (.inr (.inr (.inr h4)))]) (fun h4=>?_))))
 rw [tableR,if_neg (by omega)]
 refine ⟨⟨by trivial,by trivial,by trivial,by trivial,by trivial,by trivial,by omega,by omega⟩,?_⟩
 simp only [Int.toNat_zero,List.drop_zero]
 refine bi (fun h=>?_) (fun h=>?_)<;>rw [h]
theorem rtab_loop2:LoopOk rtabC 2 (loopBody Try.f33 1):=by
 refine loopOk_of (F:=rtabLoop2) (ts:=[9,8,7,1,2,3]) (os:=[384]) rfl (fun svs _=>match svs with | .val _ i :: _=>(8 - i.int).toNat | _=>0) ?_
 intro pan svs os k ho1 ho2 h
 unfold rtabLoop2 at h
 split at h
 ·rename_i kk s rest
  split at h
  ·rename_i i n c pp po ec L
   obtain ⟨⟨rfl,rfl,rfl,hs,h0,hi,hi0,hil,h8⟩,hk⟩:=h
   refine .eq (rtab_round2 pan _ _ k kk s i n c L) ?_
   simp only [nth_tail,Nat.zero_add,Nat.reduceAdd]
   generalize hl:(nth (U.i 0) L.list i.int.toNat).list=l at hk h8 ⊢
   refine bd (fun hlt=>dt ⟨hi0,hil⟩ (dt ⟨h0,by omega⟩ ?_)) (fun hlt=>?_)
   ·rw [drop_at (by omega),rentsR,rsomeR_cons] at hk
    simp only [rentOk,U.at,e0,e1,e2,e3,e4] at hk
    have hw:IntKind.wrap .i64 (kk.int + 1)=kk.int + 1:=i64_in (by omega) (by omega)
    have hn:(kk.int + 1).toNat=kk.int.toNat + 1:=by omega
    simp only [hw,hn]
    have hlt':(8 - (kk.int + 1)).toNat < (8 - kk.int).toNat:=by omega
    refine bi (fun h1=>?_) (fun h1=>?_)
    ·rw [nt h1] at hk;exact hk
    ·rw [nf h1] at hk
     have hd:∀ {x:Int},decide (x≠0) = !decide (x=0):=fun {x}=>by simp
     rw [hd] at hk
     refine bi (fun h2=>bd (fun h3=>?_) (fun h3=>?_)) (fun h2=>?_)
     ·rw [decide_eq_false (by simpa using h2),decide_eq_false (by omega)] at hk;exact hk
     ·rw [decide_eq_false (by simpa using h2),decide_eq_true (by omega)] at hk
      refine bi (fun h4=>?_) (fun h4=>?_)
      ·rw [h4] at hk
       exact blt hlt' ⟨⟨by trivial,by trivial,by trivial,by trivial,by omega,by omega,hi0,hil,h8⟩,hk⟩
      ·rw [h4] at hk
       refine blt hlt' ⟨⟨by trivial,by trivial,by trivial,by trivial,by omega,by omega,hi0,hil,h8⟩,?_⟩
       simpa [h2] using hk
     ·rw [decide_eq_true (by simpa using h2)] at hk
      refine bi (fun h4=>?_) (fun h4=>?_)
      ·rw [h4] at hk
       exact blt hlt' ⟨⟨by trivial,by trivial,by trivial,by trivial,by omega,by omega,hi0,hil,h8⟩,hk⟩
      ·rw [h4] at hk
       refine blt hlt' ⟨⟨by trivial,by trivial,by trivial,by trivial,by omega,by omega,hi0,hil,h8⟩,?_⟩
       simpa [h2] using hk
   ·rw [List.drop_of_length_le (by omega)] at hk
    rw [hs]
    simpa [rentsR,rsomeR] using hk
  ·exact h.elim
 ·exact h.elim
theorem rtab_loop0:LoopOk rtabC 0 (loopBody Try.f33 0):=by
 refine loopOk_of (F:=rtabLoop0) (ts:=[7,1,2,3]) (os:=[384]) rfl (fun svs os=>match svs,os with | .val _ i :: _,[.box [.val _ L]]=>(L.list.length - i.int).toNat | _,_=>0) ?_
 intro pan svs os k ho1 ho2 h
 unfold rtabLoop0 at h
 split at h
 ·rename_i i n c pp po ec L
  obtain ⟨⟨rfl,rfl,rfl,h0,hi⟩,hk⟩:=h
  have hL:L.list.length≤maxLen:=ho2.1.1.1
  refine .eq (rtab_round0 pan _ _ k i L n c) ?_
  refine bd (fun hlt=>dt ⟨h0,by omega⟩ ?_) (fun hlt=>?_)
  ·rw [drop_at (by omega),rleavesR] at hk
   simp only [U.at] at hk
   have hw:IntKind.wrap .i64 (i.int + 1)=i.int + 1:=i64_in (by omega) (by unfold maxLen at hL;omega)
   have hn:(i.int + 1).toNat=i.int.toNat + 1:=by omega
   have hlt':(L.list.length - (i.int + 1)).toNat < (L.list.length - i.int).toNat:=by omega
   simp only [hw,hn,Int.toNat_zero,List.drop_zero,Bool.false_or]
   generalize hl:(nth (U.i 0) L.list i.int.toNat).list=l at hk ⊢
   refine bi (fun h1=>blt hlt' ⟨⟨by trivial,by trivial,by trivial,by omega,by omega⟩,?_⟩) (fun h1=>dt ⟨h0,by omega⟩ ?_)
   ·have hl0:l=[]:=by simpa using h1
    rw [if_pos hl0] at hk;exact hk
   ·have hl0:l≠[]:=by simpa using h1
    rw [if_neg hl0] at hk
    unfold rleafR at hk
    refine bi (fun h2=>?_) (fun h2=>?_)
    ·rw [decide_eq_false (by simp at h2;omega)] at hk;exact hk
    ·have h8:l.length=8:=by simp at h2;omega
     rw [decide_eq_true h8] at hk
     refine ⟨⟨by trivial,by trivial,by trivial,by trivial,by omega,by omega,h0,by omega,h8⟩,bi (fun h3=>bi (fun h4=>?_) (fun h4=>blt hlt' ⟨⟨by trivial,by trivial,by trivial,by omega,by omega⟩,?_⟩)) (fun h3=>?_)⟩
     ·rw [h3,nt h4] at hk;exact hk
     ·rw [h3,nf h4] at hk;exact hk
     ·rw [h3] at hk;exact hk
  ·rw [List.drop_of_length_le (by omega)] at hk
   exact hk
 ·exact h.elim
theorem rtab_ok:SpecF PR 33 rtableS:=fun fn us hfn=>by
 have hf:PR.funcs[(33:Nat)]? = some Try.f33:=by kernel_rfl
 rw [hf] at hfn;cases hfn
 refine fn_okH (C:=rtabC) (mkC_ok eqs0_ok mixed_ok (.cons rmay_ok .nil) .nil) hf (by kernel_rfl) (loops_two (by kernel_rfl) rtab_loop0 rtab_loop2) fun hok=>?_
 have hp:Try.f33.params.toList=[36,3,3]:=by kernel_rfl
 rw [hp] at hok
 obtain ⟨L,n,c,hus⟩:∃ L n c,us=[[L],[n],[c]]:=by
  obtain ⟨u,u2,u3,rfl,h1,h2,h3⟩:=shape3 (by kernel_rfl:Cs PR 36=some (true,[.sl false [.sl true EC]])) (by kernel_rfl:Cs PR 3=some (false,[.int .i64])) (by kernel_rfl:Cs PR 3=some (false,[.int .i64])) hok.1
  obtain ⟨L,rfl⟩:=len1 h1
  obtain ⟨n,rfl⟩:=len1 h2
  obtain ⟨c,rfl⟩:=len1 h3
  exact ⟨L,n,c,rfl⟩
 subst hus
 refine .eq (rtab_tree _ _ _ _) ?_
 unfold rtableS
 simp only [nth_zero,nth_succ]
 have hu:unflats PR [36,3,3] [[L],[n],[c]]=some [.agg [vl (.sl true EC) L],vi n,vi c]:=by kernel_rfl
 have hL:L.list.length≤maxLen:=(hok.2 _ hu).1.1.1
 have hw1:L.list.length > 0→IntKind.wrap .i64 ((L.list.length:Int) - 1)=(L.list.length:Int) - 1:=fun h=>i64_in (by omega) (by unfold maxLen at hL;omega)
 refine bd (fun h=>by rw [rtableR,if_pos (.inl h)]) (fun h=>bd (fun h2=>by rw [rtableR,if_pos (.inr (.inl h2))]) (fun h2=>bd (fun h3=>by rw [rtableR,if_pos (.inr (.inr (.inl h3)))]) (fun h3=>bd (fun h4=>by rw [rtableR,if_pos (.inr (.inr (.inr h4)))]) (fun h4=>?_))))
 rw [rtableR,if_neg (by omega)]
 simp only [Int.toNat_zero,List.drop_zero]
 have tail:lastOk L.list=true→(bif decide ((L.list.length:Int) > 512) then [[U.b false]]=[[U.b (lastOk L.list && decide (L.list.length≤512) && rleavesR n.int c.int 0 L.list)]] else
   (True∧True∧True∧(0:Int)≤0∧(0:Int)≤(L.list.length:Int))∧bif rleavesR n.int c.int 0 L.list then [[U.b true]]=[[U.b (lastOk L.list && decide (L.list.length≤512) && rleavesR n.int c.int 0 L.list)]] else [[U.b false]]=[[U.b (lastOk L.list && decide (L.list.length≤512) && rleavesR n.int c.int 0 L.list)]]):=by
  intro hl
  refine bd (fun h5=>?_) (fun h5=>⟨⟨by trivial,by trivial,by trivial,by omega,by omega⟩,bi (fun h6=>?_) (fun h6=>?_)⟩)
  ·rw [decide_eq_false (by omega),Bool.and_false,Bool.false_and]
  ·rw [hl,h6,decide_eq_true (by omega)];rfl
  ·rw [h6,Bool.and_false]
 refine bd (fun h5=>?_) (fun h5=>?_)
 ·rw [hw1 (by omega)]
  have hn:((L.list.length:Int) - 1).toNat=L.list.length - 1:=by omega
  refine dt ⟨by omega,by omega⟩ (bi (fun h6=>?_) (fun h6=>?_))
  ·have:lastOk L.list=false:=by
    rw [hn] at h6
    unfold lastOk
    rw [decide_eq_false (fun h0=>by rw [h0] at h5;simp at h5)]
    simpa using h6
   rw [this,Bool.false_and,Bool.false_and]
  ·refine tail ?_
   rw [hn] at h6
   unfold lastOk
   simp at h6
   simp [h6]
 ·refine tail ?_
  have:L.list=[]:=List.eq_nil_of_length_eq_zero (by omega)
  simp [lastOk,this]
end Go.Mat

namespace Go.Mat
open Go Go.Den Go.Proofs
def sizeS:List (List U)→List (List U):=fun us=>[[.b (sizeR (nth (.i 0) (nth [] us 0) 0).int (nth (.i 0) (nth [] us 1) 0).int)]]
def sizeP:List (List U)→Prop:=fun us=>0≤(nth (.i 0) (nth [] us 1) 0).int∧(nth (.i 0) (nth [] us 1) 0).int≤6
def unlikeR:List (U × U)→List U→Bool
 | _,[]=>true
 | es,x :: r=>!mhas .str x es && nameR x.str && unlikeR (mput .str x (.i 1) es) r
def unlikeS:List (List U)→List (List U):=fun us=>[[.b (unlikeR [] (nth (.i 0) (nth [] us 0) 0).list)]]
noncomputable def unlikeLoop:LoopF:=fun _ svs os k=>match svs,os with
 | [.val (.int .i64) i,.val (.int .i64) n,.val (.sl false [.str]) L,.mp id],[.map t es]=>
  (id=768∧t=128∧n.int=(L.list.length:Int)∧0≤i.int∧i.int≤n.int∧(∀ e ∈ es,e.2 = .i 1))∧
  (bif unlikeR es (L.list.drop i.int.toNat) then k (.exit 0) ⟨[(2,.unk)],[]⟩ else k .ret ⟨[(2,vb (.b false))],[]⟩)
 | _,_=>False
noncomputable def unlikeC:Ctx:=mkC PR eqs0 (fnsCons 57 nameS fnsNil) trsNil
 (loopCons 0 [9,8,7,3] [768] unlikeLoop noLoops) (outCons 0 [2] [] noOut) noOut
theorem unlike_round (pan:KP) (μ:Mu) (N:Nat) (k:KE) (i n L:U) (es:List (U × U)):(exec (unlikeC.panics pan) (loopBody Try.f60 0) 0 ⟨[(9,vi i),(8,vi n),(7,vl .str L),(3,.mp 768)],[(768,.map 128 es)]⟩ (again PR (some ([2],[])) none pan [9,8,7,3] [768] unlikeLoop μ N k))=(bif decide (i.int < n.int) then bif decide ((0:Int)≤i.int∧i.int < (L.list.length:Int)) then bif decide (U.int (mval Ct.str (nth (U.i (0:Int)) L.list (Int.toNat i.int)) (U.i (0:Int)) (mput Ct.str (nth (U.i (0:Int)) L.list (Int.toNat i.int)) (U.i (IntKind.wrap .i64 (U.int (mval Ct.str (nth (U.i (0:Int)) L.list (Int.toNat i.int)) (U.i (0:Int)) es) + (1:Int)))) es)) > (1:Int)) then k Ex.ret (St.mk [(nat_lit 2,.val .bool (U.b false))] []) else bif !nameR (U.str (nth (U.i (0:Int)) L.list (Int.toNat i.int))) then k Ex.ret (St.mk [(nat_lit 2,.val .bool (U.b false))] []) else bif Nat.blt (μ [.val (.int IntKind.i64) (U.i (IntKind.wrap .i64 (i.int + (1:Int)))),.val (.int IntKind.i64) n,.val (.sl false [.str]) L,.mp (nat_lit 768)] [Den.Obj.map (nat_lit 128) (List.brecOn.go es (mput._f Ct.str (U.at (elemU false (U.at L.list (Int.toNat i.int))) (0:Nat)) (ofElem false [U.i (IntKind.wrap .i64 (U.int (mval Ct.str (U.at (elemU false (U.at L.list (Int.toNat i.int))) (0:Nat)) (ofElem false [U.i (0:Int)]) es) + U.int (U.i (1:Int))))]))).1]) N then (nat_lit 768=nat_lit 768∧nat_lit 128=nat_lit 128∧n.int=(L.list.length:Int)∧(0:Int)≤IntKind.wrap .i64 (i.int + (1:Int))∧IntKind.wrap .i64 (i.int + (1:Int))≤n.int∧∀ (e:U × U),e ∈ mput Ct.str (nth (U.i (0:Int)) L.list (Int.toNat i.int)) (U.i (IntKind.wrap .i64 (U.int (mval Ct.str (nth (U.i (0:Int)) L.list (Int.toNat i.int)) (U.i (0:Int)) es) + (1:Int)))) es→Prod.snd e=U.i (1:Int))∧bif unlikeR (mput Ct.str (nth (U.i (0:Int)) L.list (Int.toNat i.int)) (U.i (IntKind.wrap .i64 (U.int (mval Ct.str (nth (U.i (0:Int)) L.list (Int.toNat i.int)) (U.i (0:Int)) es) + (1:Int)))) es) (List.drop (Int.toNat (IntKind.wrap .i64 (i.int + (1:Int)))) L.list) then k (Ex.exit (nat_lit 0)) (St.mk [(nat_lit 2,.unk)] []) else k Ex.ret (St.mk [(nat_lit 2,.val .bool (U.b false))] []) else False else False else k (Ex.exit (nat_lit 0)) (St.mk [(nat_lit 2,.unk)] [])):=by kernel_rfl
theorem unlike_tree (R:RF) (L:U):(run unlikeC Try.f60 [[L]] R)=((nat_lit 768=nat_lit 768∧nat_lit 128=nat_lit 128∧(↑(List.length (U.list L)):Int)=(↑(List.length (U.list L)):Int)∧(0:Int)≤(0:Int)∧(0:Int)≤(↑(List.length (U.list L)):Int)∧
 ∀ (e:U × U),e ∈ []→Prod.snd e=U.i (1:Int))∧bif unlikeR [] (List.drop (Int.toNat (0:Int)) (U.list L)) then R [[U.b true]] else R [[U.b false]]):=by kernel_rfl
end Go.Mat

namespace Go.Mat
open Go Go.Den Go.Proofs
theorem pows {c:Int} (h:0≤c) (h':c≤6):(2:Int) ^ c.toNat=1∨(2:Int) ^ c.toNat=2∨(2:Int) ^ c.toNat=4∨(2:Int) ^ c.toNat=8∨(2:Int) ^ c.toNat=16∨(2:Int) ^ c.toNat=32∨(2:Int) ^ c.toNat=64:=by
 have:c=0∨c=1∨c=2∨c=3∨c=4∨c=5∨c=6:=by omega
 rcases this with rfl | rfl | rfl | rfl | rfl | rfl | rfl<;>decide
theorem shl_min {c:Int} (h:0≤c) (h':c≤6):(2:Int) ^ min c.toNat (IntKind.bits .i64)=2 ^ c.toNat:=by
 have:min c.toNat (IntKind.bits .i64)=c.toNat:=by simp only [IntKind.bits];omega
 rw [this]
theorem size_ok:SpecFP PR 56 sizeP sizeS:=fun fn us hfn hpre=>by
 have hf:PR.funcs[(56:Nat)]? = some Try.f56:=by kernel_rfl
 rw [hf] at hfn;cases hfn
 refine fn_okH (C:=K0) (mkC_ok eqs0_ok mixed_ok .nil .nil) hf (by kernel_rfl) (loops_none (by kernel_rfl)) fun hok=>?_
 have hp:Try.f56.params.toList=[3,3]:=by kernel_rfl
 rw [hp] at hok
 obtain ⟨a,b,hus⟩:∃ a b,us=[[a],[b]]:=by
  obtain ⟨u,u2,rfl,h1,h2⟩:=shape2 (by kernel_rfl:Cs PR 3=some (false,[.int .i64])) (by kernel_rfl:Cs PR 3=some (false,[.int .i64])) hok.1
  obtain ⟨a,rfl⟩:=len1 h1
  obtain ⟨b,rfl⟩:=len1 h2
  exact ⟨a,b,rfl⟩
 subst hus
 refine .eq (size_tree _ _ _) ?_
 unfold sizeS
 simp only [nth_zero,nth_succ]
 have hb:0≤b.int∧b.int≤6:=hpre
 refine bd (fun h=>bd (fun h2=>df (by omega) ?_) (fun h2=>?_)) (fun h=>?_)
 ·rw [shl_one hb.1 hb.2]
  unfold sizeR
  rw [decide_eq_true (show 0≤a.int by omega),decide_eq_true h2]
  rcases pows hb.1 hb.2 with hp | hp | hp | hp | hp | hp | hp<;>
  ·rw [hp]
   refine df (by omega) ?_
   rw [Int.tmod_eq_emod_of_nonneg h]
   refine ubi ?_;simp
 ·refine ubi ?_;simp [sizeR];omega
 ·refine ubi ?_;simp [sizeR];omega
theorem sized_ok:SpecFP PR 31 sizeP sizeS:=fun fn us hfn hpre=>by
 have hf:PR.funcs[(31:Nat)]? = some Try.f31:=by kernel_rfl
 rw [hf] at hfn;cases hfn
 refine fn_okH (C:=K0) (mkC_ok eqs0_ok mixed_ok .nil .nil) hf (by kernel_rfl) (loops_none (by kernel_rfl)) fun hok=>?_
 have hp:Try.f31.params.toList=[3,3]:=by kernel_rfl
 rw [hp] at hok
 obtain ⟨a,b,hus⟩:∃ a b,us=[[a],[b]]:=by
  obtain ⟨u,u2,rfl,h1,h2⟩:=shape2 (by kernel_rfl:Cs PR 3=some (false,[.int .i64])) (by kernel_rfl:Cs PR 3=some (false,[.int .i64])) hok.1
  obtain ⟨a,rfl⟩:=len1 h1
  obtain ⟨b,rfl⟩:=len1 h2
  exact ⟨a,b,rfl⟩
 subst hus
 refine .eq (sized_tree _ _ _) ?_
 unfold sizeS
 simp only [nth_zero,nth_succ]
 have hb:0≤b.int∧b.int≤6:=hpre
 refine bd (fun h=>bd (fun h2=>?_) (fun h2=>?_)) (fun h=>?_)
 ·rw [u64_in hb.1 (by omega)]
  refine df (by omega) (df (by omega) ?_)
  rw [shl_min hb.1 hb.2]
  unfold sizeR
  rw [decide_eq_true (show 0≤a.int by omega),decide_eq_true h2]
  rcases pows hb.1 hb.2 with hp | hp | hp | hp | hp | hp | hp<;>
  ·rw [hp,Int.fdiv_eq_ediv_of_nonneg _ (by omega),i64_in (by omega) (by omega)]
   refine ubi ?_
   simp<;>omega
 ·refine ubi ?_;simp [sizeR];omega
 ·refine ubi ?_;simp [sizeR];omega
theorem mval_ones {x:U}:∀ {es:List (U × U)},(∀ e ∈ es,e.2 = .i 1)→mval .str x (.i 0) es = .i (if mhas .str x es=true then 1 else 0)
 | [],_=>rfl
 | (a,y) :: r,h=>by
  have hy:y = .i 1:=h (a,y) (by simp)
  subst hy
  unfold mval mhas
  cases hu:ueq .str x a with
  | true=>simp
  | false=>simpa using mval_ones fun e he=>h e (by simp [he])
theorem ueq_self (x:U):ueq .str x x=true:=by simp [ueq]
theorem mval_mput (x v z:U):∀ es:List (U × U),mval .str x z (mput .str x v es)=v
 | []=>by simp [mput,mval,ueq_self]
 | (a,y) :: r=>by
  unfold mput
  cases hu:ueq .str x a with
  | true=>simp [mval,ueq_self]
  | false=>simp [mval,hu,mval_mput x v z r]
theorem mput_ones {x:U}:∀ {es:List (U × U)},(∀ e ∈ es,e.2 = .i 1)→∀ e ∈ mput .str x (.i 1) es,e.2 = .i 1
 | [],_=>by simp [mput]
 | (a,y) :: r,h=>by
  have hr:∀ e ∈ r,e.2=U.i 1:=fun e he=>h e (by simp [he])
  have hy:y = .i 1:=h (a,y) (by simp)
  unfold mput
  cases hu:ueq .str x a with
  | true=>intro e he;simp at he;rcases he with rfl | he;rfl;exact hr e he
  | false=>intro e he;simp at he;rcases he with rfl | he;exact hy;exact mput_ones hr e he
theorem unlike_loop:LoopOk unlikeC 0 (loopBody Try.f60 0):=by
 refine loopOk_of (F:=unlikeLoop) (ts:=[9,8,7,3]) (os:=[768]) rfl (fun svs _=>match svs with | .val _ i :: .val _ m :: _=>(m.int - i.int).toNat | _=>0) ?_
 intro pan svs os k ho1 ho2 h
 unfold unlikeLoop at h
 split at h
 ·rename_i i n L id t es
  obtain ⟨⟨rfl,rfl,hn,h0,hi,hes⟩,hk⟩:=h
  have hL:L.list.length≤maxLen:=ho1.2.2.1.1
  refine .eq (unlike_round pan _ _ k i n L es) ?_
  refine bd (fun hlt=>dt ⟨h0,by omega⟩ ?_) (fun hlt=>?_)
  ·rw [drop_at (by omega),unlikeR] at hk
   have hw:IntKind.wrap .i64 (i.int + 1)=i.int + 1:=i64_in (by omega) (by unfold maxLen at hL;omega)
   have hc:(i.int + 1).toNat=i.int.toNat + 1:=by omega
   simp only [U.at] at hk
   simp only [hw,hc,mval_mput,mval_ones hes,U.int_i]
   have hlt':(n.int - (i.int + 1)).toNat < (n.int - i.int).toNat:=by omega
   generalize (nth (U.i 0) L.list i.int.toNat)=x at hk ⊢
   cases hm:mhas .str x es with
   | true=>rw [hm] at hk;exact dt (by decide) hk
   | false=>
    rw [hm] at hk
    refine df (by decide) (bi (fun h1=>?_) (fun h1=>?_))
    ·rw [nt h1] at hk;exact hk
    ·rw [nf h1] at hk
     exact blt hlt' ⟨⟨by trivial,by trivial,hn,by omega,by omega,mput_ones hes⟩,hk⟩
  ·rw [List.drop_of_length_le (by omega)] at hk
   exact hk
 ·exact h.elim
theorem unlike_ok:SpecF PR 60 unlikeS:=fun fn us hfn=>by
 have hf:PR.funcs[(60:Nat)]? = some Try.f60:=by kernel_rfl
 rw [hf] at hfn;cases hfn
 refine fn_okH (C:=unlikeC) (mkC_ok eqs0_ok mixed_ok (.cons name_ok .nil) .nil) hf (by kernel_rfl) (loops_one (by kernel_rfl) unlike_loop) fun hok=>?_
 have hp:Try.f60.params.toList=[104]:=by kernel_rfl
 rw [hp] at hok
 obtain ⟨L,hus⟩:∃ L,us=[[L]]:=by
  obtain ⟨u,rfl,h1⟩:=shape1 (by kernel_rfl:Cs PR 104=some (false,[.sl false [.str]])) hok.1
  obtain ⟨L,rfl⟩:=len1 h1
  exact ⟨L,rfl⟩
 subst hus
 refine .eq (unlike_tree _ _) ?_
 unfold unlikeS
 simp only [nth_zero,nth_succ]
 refine ⟨⟨by trivial,by trivial,by trivial,by omega,by omega,by simp⟩,?_⟩
 simp only [Int.toNat_zero,List.drop_zero]
 refine bi (fun h=>?_) (fun h=>?_)<;>rw [h]
end Go.Mat

namespace Go.Mat
open Go Go.Den Go.Proofs
abbrev SC:List Ct:=[.str,.int .i64,.sl false [.sl true EC]]
abbrev SpC:List Ct:=[.int .i64,.int .i64]
abbrev BC:List Ct:=[.str,.bool,.sl true SpC]
abbrev strT:TypeId:=9
def shotsR (c:Int):List U→Bool
 | []=>true
 | s :: r=>sizeR (e1 s).int c && tableR (e2 s).list ((e1 s).int / 2 ^ c.toNat) c && shotsR c r
def lastR (l:List U):Bool:=!decide (0 < l.length) || decide ((e1 (U.at l (l.length - 1))).int≤4096)
def mapsR:List U→Bool
 | []=>true
 | b :: r=>spansR (-1) (e2 b).list && lastR (e2 b).list && mapsR r
def countsR:List U→Bool
 | []=>true
 | n :: r=>decide (0≤n.int) && decide (n.int≤65535) && countsR r
def backR (s:ByteArray):Bool:=s.data.toList == [] || nameR s
def metaR (c sz bk T S M Q:U):Bool:=
 decide (0≤c.int) && decide (c.int≤6) && sizeR sz.int c.int && backR bk.str && tableR T.list (sz.int / 2 ^ c.int.toNat) c.int && decide (S.list.length≤8) && decide (M.list.length≤8) && decide (Q.list.length≤65536) &&
 shotsR c.int S.list && mapsR M.list && countsR Q.list && unlikeR [] (S.list.map e0) && unlikeR [] (M.list.map e0)
def metaS:List (List U)→List (List U):=fun us=>[[.b (metaR (nth (.i 0) (nth [] us 0) 0) (nth (.i 0) (nth [] us 0) 1) (nth (.i 0) (nth [] us 0) 2) (nth (.i 0) (nth [] us 0) 3) (nth (.i 0) (nth [] us 0) 4) (nth (.i 0) (nth [] us 0) 5) (nth (.i 0) (nth [] us 0) 6))]]
abbrev noRet:St:=⟨[(2,vb (.b false))],[]⟩
noncomputable def metaLoop0:LoopF:=fun _ svs os k=>match svs,os with
 | [.val (.int .i64) i,.val (.int .i64) n,.val (.sl true ec) L,.own o1,.own o2,.ptr pp po],[.arr t1 xs,.arr t2 ys,.box [.val (.int .i64) c,.val (.int .i64) sz,.val .str bk,.val (.sl false [.sl true x1]) T,.val (.sl true x2) S,.val (.sl true x3) M,.val (.sl false [.int .i64]) Q]]=>
  (x1=EC∧x2=SC∧x3=BC∧ec=SC∧o1=508∧o2=636∧pp=128∧po=0∧t1=strT∧t2=strT∧n.int=(L.list.length:Int)∧n.int≤8∧0≤i.int∧i.int≤n.int∧0≤c.int∧c.int≤6∧(xs.length:Int)≤i.int)∧
  (bif shotsR c.int (L.list.drop i.int.toNat) then k (.exit 0) ⟨[(3,.own 508),(4,.own 636),(1,.ptr 128 0)],[(508,.arr strT (xs ++ (L.list.drop i.int.toNat).map e0)),(636,.arr strT ys),(128,.box [vi c,vi sz,vs bk,vl (.sl true EC) T,vt SC S,vt BC M,vl (.int .i64) Q])]⟩ else k .ret noRet)
 | _,_=>False
noncomputable def metaLoop2:LoopF:=fun _ svs os k=>match svs,os with
 | [.val (.int .i64) i,.val (.int .i64) n,.val (.sl true ec) L,.own o1,.own o2,.ptr pp po],[.arr t1 xs,.arr t2 ys,.box [.val (.int .i64) c,.val (.int .i64) sz,.val .str bk,.val (.sl false [.sl true x1]) T,.val (.sl true x2) S,.val (.sl true x3) M,.val (.sl false [.int .i64]) Q]]=>
  (x1=EC∧x2=SC∧x3=BC∧ec=BC∧o1=508∧o2=636∧pp=128∧po=0∧t1=strT∧t2=strT∧n.int=(L.list.length:Int)∧n.int≤8∧0≤i.int∧i.int≤n.int∧(ys.length:Int)≤i.int)∧
  (bif mapsR (L.list.drop i.int.toNat) then k (.exit 2) ⟨[(3,.own 508),(4,.own 636),(1,.ptr 128 0)],[(508,.arr strT xs),(636,.arr strT (ys ++ (L.list.drop i.int.toNat).map e0)),(128,.box [vi c,vi sz,vs bk,vl (.sl true EC) T,vt SC S,vt BC M,vl (.int .i64) Q])]⟩ else k .ret noRet)
 | _,_=>False
noncomputable def metaLoop4:LoopF:=fun _ svs os k=>match svs,os with
 | [.val (.int .i64) i,.val (.int .i64) n,.val (.sl false [.int .i64]) L,.own o1,.own o2],[.arr t1 xs,.arr t2 ys]=>
  (o1=508∧o2=636∧t1=strT∧t2=strT∧n.int=(L.list.length:Int)∧0≤i.int∧i.int≤n.int)∧
  (bif countsR (L.list.drop i.int.toNat) then k (.exit 4) ⟨[(3,.own 508),(4,.own 636)],[(508,.arr strT xs),(636,.arr strT ys)]⟩ else k .ret noRet)
 | _,_=>False
noncomputable def metaC:Ctx:=mkC PR eqs0 (fnsConsP 56 sizeP sizeS (fnsCons 57 nameS (fnsCons 58 tableS (fnsCons 59 spansS (fnsCons 60 unlikeS fnsNil))))) trsNil
 (loopCons 4 [137,136,135,3,4] [508,636] metaLoop4 (loopCons 2 [102,101,100,3,4,1] [508,636,128] metaLoop2 (loopCons 0 [70,69,68,3,4,1] [508,636,128] metaLoop0 noLoops)))
 (outCons 4 [3,4] [508,636] (outCons 2 [3,4,1] [508,636,128] (outCons 0 [3,4,1] [508,636,128] (outCons 1048580 [2] [] (outCons 1048578 [2] [] (outCons 1048576 [2] [] noOut)))))) noOut
theorem shots_round (pan:KP) (μ:Mu) (N:Nat) (k:KE) (i n L c sz bk T S M Q:U) (xs ys:List U):(exec (metaC.panics pan) (loopBody Try.f37 0) 0 ⟨[(70,vi i),(69,vi n),(68,vt SC L),(3,.own 508),(4,.own 636),(1,.ptr 128 0)],[(508,.arr strT xs),(636,.arr strT ys),(128,.box [vi c,vi sz,vs bk,vl (.sl true EC) T,vt SC S,vt BC M,vl (.int .i64) Q])]⟩ (again PR (some ([3,4,1],[508,636,128])) (some ([2],[])) pan [70,69,68,3,4,1] [508,636,128] metaLoop0 μ N k))=(bif decide (i.int < n.int) then bif decide ((0:Int)≤i.int∧i.int < (L.list.length:Int)) then bif decide (List.length xs + ((0:Nat) + (1:Nat))≤room) && !oddB (508:Nat) then sizeP [[nth (U.i (0:Int)) (List.tail (U.list (nth (U.i (0:Int)) L.list (Int.toNat i.int)))) (0:Nat)],[c]]∧bif !sizeR (U.int (nth (U.i (0:Int)) (List.tail (U.list (nth (U.i (0:Int)) L.list (Int.toNat i.int)))) (0:Nat))) c.int then k Ex.ret (St.mk [(nat_lit 2,.val .bool (U.b false))] []) else bif decide (c.int < (0:Int)) then False else bif !tableR (U.list (nth (U.i (0:Int)) (List.tail (List.tail (U.list (nth (U.i (0:Int)) L.list (Int.toNat i.int))))) (0:Nat))) (Int.fdiv (U.int (nth (U.i (0:Int)) (List.tail (U.list (nth (U.i (0:Int)) L.list (Int.toNat i.int)))) (0:Nat))) ((2:Int) ^ min (Int.toNat c.int) (IntKind.bits IntKind.i64))) c.int then k Ex.ret (St.mk [(nat_lit 2,.val .bool (U.b false))] []) else bif Nat.blt (μ [.val (.int IntKind.i64) (U.i (IntKind.wrap .i64 (i.int + (1:Int)))),.val (.int IntKind.i64) n,.val (.sl true [Ct.str,Ct.int IntKind.i64,Ct.sl false [Ct.sl true [Ct.int IntKind.i64,Ct.int IntKind.i64,Ct.int IntKind.i64,Ct.int IntKind.i64,Ct.int IntKind.u32]]]) L,SV.own (nat_lit 508),SV.own (nat_lit 636),SV.ptr (nat_lit 128) (nat_lit 0)] [Obj.arr (nat_lit 9) (xs ++ [nth (U.i (0:Int)) (U.list (nth (U.i (0:Int)) L.list (Int.toNat i.int))) (0:Nat)]),Obj.arr (nat_lit 9) ys,Obj.box [SV.val (Ct.int IntKind.i64) c,SV.val (Ct.int IntKind.i64) sz,SV.val Ct.str bk,SV.val (Ct.sl false [Ct.sl true [Ct.int IntKind.i64,Ct.int IntKind.i64,Ct.int IntKind.i64,Ct.int IntKind.i64,Ct.int IntKind.u32]]) T,SV.val (Ct.sl true [Ct.str,Ct.int IntKind.i64,Ct.sl false [Ct.sl true [Ct.int IntKind.i64,Ct.int IntKind.i64,Ct.int IntKind.i64,Ct.int IntKind.i64,Ct.int IntKind.u32]]]) S,SV.val (Ct.sl true [Ct.str,Ct.bool,Ct.sl true [Ct.int IntKind.i64,Ct.int IntKind.i64]]) M,SV.val (Ct.sl false [Ct.int IntKind.i64]) Q]]) N then ([Ct.int IntKind.i64,Ct.int IntKind.i64,Ct.int IntKind.i64,Ct.int IntKind.i64,Ct.int IntKind.u32]=[.int .i64,.int .i64,.int .i64,.int .i64,.int .u32]∧[Ct.str,Ct.int IntKind.i64,Ct.sl false [Ct.sl true [Ct.int IntKind.i64,Ct.int IntKind.i64,Ct.int IntKind.i64,Ct.int IntKind.i64,Ct.int IntKind.u32]]]=[.str,.int .i64,Ct.sl false [.sl true [.int .i64,.int .i64,.int .i64,.int .i64,.int .u32]]]∧[Ct.str,Ct.bool,Ct.sl true [Ct.int IntKind.i64,Ct.int IntKind.i64]]=[.str,Ct.bool,Ct.sl true [.int .i64,.int .i64]]∧[Ct.str,Ct.int IntKind.i64,Ct.sl false [Ct.sl true [Ct.int IntKind.i64,Ct.int IntKind.i64,Ct.int IntKind.i64,Ct.int IntKind.i64,Ct.int IntKind.u32]]]=[.str,.int .i64,Ct.sl false [.sl true [.int .i64,.int .i64,.int .i64,.int .i64,.int .u32]]]∧nat_lit 508=nat_lit 508∧nat_lit 636=nat_lit 636∧nat_lit 128=nat_lit 128∧nat_lit 0=nat_lit 0∧nat_lit 9=nat_lit 9∧nat_lit 9=nat_lit 9∧n.int=(L.list.length:Int)∧n.int≤(8:Int)∧(0:Int)≤IntKind.wrap .i64 (i.int + (1:Int))∧IntKind.wrap .i64 (i.int + (1:Int))≤n.int∧(0:Int)≤c.int∧c.int≤(6:Int)∧(↑(List.length (xs ++ [nth (U.i (0:Int)) (U.list (nth (U.i (0:Int)) L.list (Int.toNat i.int))) (0:Nat)])):Int)≤IntKind.wrap .i64 (i.int + (1:Int)))∧bif shotsR c.int (List.drop (Int.toNat (IntKind.wrap .i64 (i.int + (1:Int)))) L.list) then k (Ex.exit (nat_lit 0)) (St.mk [(nat_lit 3,.own (nat_lit 508)),(nat_lit 4,.own (nat_lit 636)),(nat_lit 1,.ptr (nat_lit 128) (nat_lit 0))] [(nat_lit 508,.arr (nat_lit 9) (xs ++ [nth (U.i (0:Int)) (U.list (nth (U.i (0:Int)) L.list (Int.toNat i.int))) (0:Nat)] ++ List.map e0 (List.drop (Int.toNat (IntKind.wrap .i64 (i.int + (1:Int)))) L.list))),(nat_lit 636,.arr (nat_lit 9) ys),(nat_lit 128,.box [.val (.int IntKind.i64) c,.val (.int IntKind.i64) sz,.val .str bk,.val (.sl false [.sl true [.int .i64,.int .i64,.int .i64,.int .i64,.int .u32]]) T,.val (.sl true [.str,.int .i64,Ct.sl false [.sl true [.int .i64,.int .i64,.int .i64,.int .i64,.int .u32]]]) S,.val (.sl true [.str,Ct.bool,Ct.sl true [.int .i64,.int .i64]]) M,.val (.sl false [.int .i64]) Q])]) else k Ex.ret (St.mk [(nat_lit 2,.val .bool (U.b false))] []) else False else False else False else k (Ex.exit (nat_lit 0)) (St.mk [(nat_lit 3,.own (nat_lit 508)),(nat_lit 4,.own (nat_lit 636)),(nat_lit 1,.ptr (nat_lit 128) (nat_lit 0))] [(nat_lit 508,.arr (nat_lit 9) xs),(nat_lit 636,.arr (nat_lit 9) ys),(nat_lit 128,.box [.val (.int IntKind.i64) c,.val (.int IntKind.i64) sz,.val .str bk,.val (.sl false [.sl true [.int .i64,.int .i64,.int .i64,.int .i64,.int .u32]]) T,.val (.sl true [.str,.int .i64,Ct.sl false [.sl true [.int .i64,.int .i64,.int .i64,.int .i64,.int .u32]]]) S,.val (.sl true [.str,Ct.bool,Ct.sl true [.int .i64,.int .i64]]) M,.val (.sl false [.int .i64]) Q])])):=by kernel_rfl
theorem maps_round (pan:KP) (μ:Mu) (N:Nat) (k:KE) (i n L c sz bk T S M Q:U) (xs ys:List U):(exec (metaC.panics pan) (loopBody Try.f37 1) 2 ⟨[(102,vi i),(101,vi n),(100,vt BC L),(3,.own 508),(4,.own 636),(1,.ptr 128 0)],[(508,.arr strT xs),(636,.arr strT ys),(128,.box [vi c,vi sz,vs bk,vl (.sl true EC) T,vt SC S,vt BC M,vl (.int .i64) Q])]⟩ (again PR (some ([3,4,1],[508,636,128])) (some ([2],[])) pan [102,101,100,3,4,1] [508,636,128] metaLoop2 μ N k))=(bif decide (i.int < n.int) then bif decide ((0:Int)≤i.int∧i.int < (L.list.length:Int)) then bif decide (List.length ys + ((0:Nat) + (1:Nat))≤room) && !oddB (636:Nat) then bif !spansR (-1:Int) (U.list (nth (U.i (0:Int)) (List.tail (List.tail (U.list (nth (U.i (0:Int)) L.list (Int.toNat i.int))))) (0:Nat))) then k Ex.ret (St.mk [(nat_lit 2,.val .bool (U.b false))] []) else bif decide ((↑(List.length (U.list (nth (U.i (0:Int)) (List.tail (List.tail (U.list (nth (U.i (0:Int)) L.list (Int.toNat i.int))))) (0:Nat)))):Int) > (0:Int)) then bif decide ((0:Int)≤IntKind.wrap .i64 ((↑(List.length (U.list (nth (U.i (0:Int)) (List.tail (List.tail (U.list (nth (U.i (0:Int)) L.list (Int.toNat i.int))))) (0:Nat)))):Int) - (1:Int))∧IntKind.wrap .i64 ((↑(List.length (U.list (nth (U.i (0:Int)) (List.tail (List.tail (U.list (nth (U.i (0:Int)) L.list (Int.toNat i.int))))) (0:Nat)))):Int) - (1:Int)) < (↑(List.length (U.list (nth (U.i (0:Int)) (List.tail (List.tail (U.list (nth (U.i (0:Int)) L.list (Int.toNat i.int))))) (0:Nat)))):Int)) then bif decide (U.int (nth (U.i (0:Int)) (List.drop (1:Nat) (U.list (nth (U.i (0:Int)) (U.list (nth (U.i (0:Int)) (List.tail (List.tail (U.list (nth (U.i (0:Int)) L.list (Int.toNat i.int))))) (0:Nat))) (Int.toNat (IntKind.wrap .i64 ((↑(List.length (U.list (nth (U.i (0:Int)) (List.tail (List.tail (U.list (nth (U.i (0:Int)) L.list (Int.toNat i.int))))) (0:Nat)))):Int) - (1:Int))))))) (0:Nat)) > (4096:Int)) then k Ex.ret (St.mk [(nat_lit 2,.val .bool (U.b false))] []) else bif Nat.blt (μ [.val (.int IntKind.i64) (U.i (IntKind.wrap .i64 (i.int + (1:Int)))),.val (.int IntKind.i64) n,.val (.sl true [Ct.str,Ct.bool,Ct.sl true [Ct.int IntKind.i64,Ct.int IntKind.i64]]) L,SV.own (nat_lit 508),SV.own (nat_lit 636),SV.ptr (nat_lit 128) (nat_lit 0)] [Obj.arr (nat_lit 9) xs,Obj.arr (nat_lit 9) (ys ++ [nth (U.i (0:Int)) (U.list (nth (U.i (0:Int)) L.list (Int.toNat i.int))) (0:Nat)]),Obj.box [SV.val (Ct.int IntKind.i64) c,SV.val (Ct.int IntKind.i64) sz,SV.val Ct.str bk,SV.val (Ct.sl false [Ct.sl true [Ct.int IntKind.i64,Ct.int IntKind.i64,Ct.int IntKind.i64,Ct.int IntKind.i64,Ct.int IntKind.u32]]) T,SV.val (Ct.sl true [Ct.str,Ct.int IntKind.i64,Ct.sl false [Ct.sl true [Ct.int IntKind.i64,Ct.int IntKind.i64,Ct.int IntKind.i64,Ct.int IntKind.i64,Ct.int IntKind.u32]]]) S,SV.val (Ct.sl true [Ct.str,Ct.bool,Ct.sl true [Ct.int IntKind.i64,Ct.int IntKind.i64]]) M,SV.val (Ct.sl false [Ct.int IntKind.i64]) Q]]) N then ([Ct.int IntKind.i64,Ct.int IntKind.i64,Ct.int IntKind.i64,Ct.int IntKind.i64,Ct.int IntKind.u32]=[.int .i64,.int .i64,.int .i64,.int .i64,.int .u32]∧[Ct.str,Ct.int IntKind.i64,Ct.sl false [Ct.sl true [Ct.int IntKind.i64,Ct.int IntKind.i64,Ct.int IntKind.i64,Ct.int IntKind.i64,Ct.int IntKind.u32]]]=[.str,.int .i64,Ct.sl false [.sl true [.int .i64,.int .i64,.int .i64,.int .i64,.int .u32]]]∧[Ct.str,Ct.bool,Ct.sl true [Ct.int IntKind.i64,Ct.int IntKind.i64]]=[.str,Ct.bool,Ct.sl true [.int .i64,.int .i64]]∧[Ct.str,Ct.bool,Ct.sl true [Ct.int IntKind.i64,Ct.int IntKind.i64]]=[.str,Ct.bool,Ct.sl true [.int .i64,.int .i64]]∧nat_lit 508=nat_lit 508∧nat_lit 636=nat_lit 636∧nat_lit 128=nat_lit 128∧nat_lit 0=nat_lit 0∧nat_lit 9=nat_lit 9∧nat_lit 9=nat_lit 9∧n.int=(L.list.length:Int)∧n.int≤(8:Int)∧(0:Int)≤IntKind.wrap .i64 (i.int + (1:Int))∧IntKind.wrap .i64 (i.int + (1:Int))≤n.int∧(↑(List.length (ys ++ [nth (U.i (0:Int)) (U.list (nth (U.i (0:Int)) L.list (Int.toNat i.int))) (0:Nat)])):Int)≤IntKind.wrap .i64 (i.int + (1:Int)))∧bif mapsR (List.drop (Int.toNat (IntKind.wrap .i64 (i.int + (1:Int)))) L.list) then k (Ex.exit (nat_lit 2)) (St.mk [(nat_lit 3,.own (nat_lit 508)),(nat_lit 4,.own (nat_lit 636)),(nat_lit 1,.ptr (nat_lit 128) (nat_lit 0))] [(nat_lit 508,.arr (nat_lit 9) xs),(nat_lit 636,.arr (nat_lit 9) (ys ++ [nth (U.i (0:Int)) (U.list (nth (U.i (0:Int)) L.list (Int.toNat i.int))) (0:Nat)] ++ List.map e0 (List.drop (Int.toNat (IntKind.wrap .i64 (i.int + (1:Int)))) L.list))),(nat_lit 128,.box [.val (.int IntKind.i64) c,.val (.int IntKind.i64) sz,.val .str bk,.val (.sl false [Ct.sl true [Ct.int IntKind.i64,Ct.int IntKind.i64,Ct.int IntKind.i64,Ct.int IntKind.i64,Ct.int IntKind.u32]]) T,SV.val (Ct.sl true [Ct.str,Ct.int IntKind.i64,Ct.sl false [Ct.sl true [Ct.int IntKind.i64,Ct.int IntKind.i64,Ct.int IntKind.i64,Ct.int IntKind.i64,Ct.int IntKind.u32]]]) S,SV.val (Ct.sl true [Ct.str,Ct.bool,Ct.sl true [Ct.int IntKind.i64,Ct.int IntKind.i64]]) M,SV.val (Ct.sl false [Ct.int IntKind.i64]) Q])]) else k Ex.ret (St.mk [(nat_lit 2,SV.val Ct.bool (U.b false))] []) else False else False else bif Nat.blt (μ [SV.val (Ct.int IntKind.i64) (U.i (IntKind.wrap .i64 (i.int + (1:Int)))),SV.val (Ct.int IntKind.i64) n,SV.val (Ct.sl true [Ct.str,Ct.bool,Ct.sl true [Ct.int IntKind.i64,Ct.int IntKind.i64]]) L,SV.own (nat_lit 508),SV.own (nat_lit 636),SV.ptr (nat_lit 128) (nat_lit 0)] [Obj.arr (nat_lit 9) xs,Obj.arr (nat_lit 9) (ys ++ [nth (U.i (0:Int)) (U.list (nth (U.i (0:Int)) L.list (Int.toNat i.int))) (0:Nat)]),Obj.box [SV.val (Ct.int IntKind.i64) c,SV.val (Ct.int IntKind.i64) sz,SV.val Ct.str bk,SV.val (Ct.sl false [Ct.sl true [Ct.int IntKind.i64,Ct.int IntKind.i64,Ct.int IntKind.i64,Ct.int IntKind.i64,Ct.int IntKind.u32]]) T,SV.val (Ct.sl true [Ct.str,Ct.int IntKind.i64,Ct.sl false [Ct.sl true [Ct.int IntKind.i64,Ct.int IntKind.i64,Ct.int IntKind.i64,Ct.int IntKind.i64,Ct.int IntKind.u32]]]) S,SV.val (Ct.sl true [Ct.str,Ct.bool,Ct.sl true [Ct.int IntKind.i64,Ct.int IntKind.i64]]) M,SV.val (Ct.sl false [Ct.int IntKind.i64]) Q]]) N then ([Ct.int IntKind.i64,Ct.int IntKind.i64,Ct.int IntKind.i64,Ct.int IntKind.i64,Ct.int IntKind.u32]=[.int .i64,.int .i64,.int .i64,.int .i64,.int .u32]∧[Ct.str,Ct.int IntKind.i64,Ct.sl false [Ct.sl true [Ct.int IntKind.i64,Ct.int IntKind.i64,Ct.int IntKind.i64,Ct.int IntKind.i64,Ct.int IntKind.u32]]]=[.str,.int .i64,Ct.sl false [.sl true [.int .i64,.int .i64,.int .i64,.int .i64,.int .u32]]]∧[Ct.str,Ct.bool,Ct.sl true [Ct.int IntKind.i64,Ct.int IntKind.i64]]=[.str,Ct.bool,Ct.sl true [.int .i64,.int .i64]]∧[Ct.str,Ct.bool,Ct.sl true [Ct.int IntKind.i64,Ct.int IntKind.i64]]=[.str,Ct.bool,Ct.sl true [.int .i64,.int .i64]]∧nat_lit 508=nat_lit 508∧nat_lit 636=nat_lit 636∧nat_lit 128=nat_lit 128∧nat_lit 0=nat_lit 0∧nat_lit 9=nat_lit 9∧nat_lit 9=nat_lit 9∧n.int=(L.list.length:Int)∧n.int≤(8:Int)∧(0:Int)≤IntKind.wrap .i64 (i.int + (1:Int))∧IntKind.wrap .i64 (i.int + (1:Int))≤n.int∧(↑(List.length (ys ++ [nth (U.i (0:Int)) (U.list (nth (U.i (0:Int)) L.list (Int.toNat i.int))) (0:Nat)])):Int)≤IntKind.wrap .i64 (i.int + (1:Int)))∧bif mapsR (List.drop (Int.toNat (IntKind.wrap .i64 (i.int + (1:Int)))) L.list) then k (Ex.exit (nat_lit 2)) (St.mk [(nat_lit 3,.own (nat_lit 508)),(nat_lit 4,.own (nat_lit 636)),(nat_lit 1,.ptr (nat_lit 128) (nat_lit 0))] [(nat_lit 508,.arr (nat_lit 9) xs),(nat_lit 636,.arr (nat_lit 9) (ys ++ [nth (U.i (0:Int)) (U.list (nth (U.i (0:Int)) L.list (Int.toNat i.int))) (0:Nat)] ++ List.map e0 (List.drop (Int.toNat (IntKind.wrap .i64 (i.int + (1:Int)))) L.list))),(nat_lit 128,.box [.val (.int IntKind.i64) c,.val (.int IntKind.i64) sz,.val .str bk,.val (.sl false [.sl true [.int .i64,.int .i64,.int .i64,.int .i64,.int .u32]]) T,.val (.sl true [.str,.int .i64,Ct.sl false [.sl true [.int .i64,.int .i64,.int .i64,.int .i64,.int .u32]]]) S,.val (.sl true [.str,Ct.bool,Ct.sl true [.int .i64,.int .i64]]) M,.val (.sl false [.int .i64]) Q])]) else k Ex.ret (St.mk [(nat_lit 2,.val .bool (U.b false))] []) else False else False else False else k (Ex.exit (nat_lit 2)) (St.mk [(nat_lit 3,.own (nat_lit 508)),(nat_lit 4,.own (nat_lit 636)),(nat_lit 1,.ptr (nat_lit 128) (nat_lit 0))] [(nat_lit 508,.arr (nat_lit 9) xs),(nat_lit 636,.arr (nat_lit 9) ys),(nat_lit 128,.box [.val (.int IntKind.i64) c,.val (.int IntKind.i64) sz,.val .str bk,.val (.sl false [.sl true [.int .i64,.int .i64,.int .i64,.int .i64,.int .u32]]) T,.val (.sl true [.str,.int .i64,Ct.sl false [.sl true [.int .i64,.int .i64,.int .i64,.int .i64,.int .u32]]]) S,.val (.sl true [.str,Ct.bool,Ct.sl true [.int .i64,.int .i64]]) M,.val (.sl false [.int .i64]) Q])])):=by kernel_rfl
theorem counts_round (pan:KP) (μ:Mu) (N:Nat) (k:KE) (i n L:U) (xs ys:List U):(exec (metaC.panics pan) (loopBody Try.f37 2) 4 ⟨[(137,vi i),(136,vi n),(135,vl (.int .i64) L),(3,.own 508),(4,.own 636)],[(508,.arr strT xs),(636,.arr strT ys)]⟩ (again PR (some ([3,4],[508,636])) (some ([2],[])) pan [137,136,135,3,4] [508,636] metaLoop4 μ N k))=(bif decide (i.int < n.int) then bif decide ((0:Int)≤i.int∧i.int < (L.list.length:Int)) then bif decide (U.int (nth (U.i (0:Int)) L.list (Int.toNat i.int)) < (0:Int)) then k Ex.ret (St.mk [(nat_lit 2,.val .bool (U.b false))] []) else bif decide (U.int (nth (U.i (0:Int)) L.list (Int.toNat i.int)) > (65535:Int)) then k Ex.ret (St.mk [(nat_lit 2,.val .bool (U.b false))] []) else bif Nat.blt (μ [.val (.int IntKind.i64) (U.i (IntKind.wrap .i64 (i.int + (1:Int)))),.val (.int IntKind.i64) n,.val (.sl false [.int .i64]) L,.own (nat_lit 508),.own (nat_lit 636)] [.arr (nat_lit 9) xs,.arr (nat_lit 9) ys]) N then (nat_lit 508=nat_lit 508∧nat_lit 636=nat_lit 636∧nat_lit 9=nat_lit 9∧nat_lit 9=nat_lit 9∧n.int=(L.list.length:Int)∧(0:Int)≤IntKind.wrap .i64 (i.int + (1:Int))∧IntKind.wrap .i64 (i.int + (1:Int))≤n.int)∧bif countsR (List.drop (Int.toNat (IntKind.wrap .i64 (i.int + (1:Int)))) L.list) then k (Ex.exit (nat_lit 4)) (St.mk [(nat_lit 3,.own (nat_lit 508)),(nat_lit 4,.own (nat_lit 636))] [(nat_lit 508,.arr (nat_lit 9) xs),(nat_lit 636,.arr (nat_lit 9) ys)]) else k Ex.ret (St.mk [(nat_lit 2,.val .bool (U.b false))] []) else False else False else k (Ex.exit (nat_lit 4)) (St.mk [(nat_lit 3,.own (nat_lit 508)),(nat_lit 4,.own (nat_lit 636))] [(nat_lit 508,.arr (nat_lit 9) xs),(nat_lit 636,.arr (nat_lit 9) ys)])):=by kernel_rfl
theorem meta_tree (R:RF) (c sz bk T S M Q:U):(run metaC Try.f37 [[c,sz,bk,T,S,M,Q]] R)=(bif decide (c.int < (0:Int)) then R [[U.b false]] else bif decide (c.int > (6:Int)) then R [[U.b false]] else sizeP [[sz],[c]]∧bif !sizeR sz.int c.int then R [[U.b false]] else bif !ByteArray.toList bk.str == ByteArray.toList (ByteArray.mk #[]) then bif !nameR bk.str then R [[U.b false]] else bif decide (c.int < (0:Int)) then False else bif !tableR T.list (Int.fdiv sz.int ((2:Int) ^ min (Int.toNat c.int) (IntKind.bits IntKind.i64))) c.int then R [[U.b false]] else bif decide ((S.list.length:Int) > (8:Int)) then R [[U.b false]] else bif decide ((M.list.length:Int) > (8:Int)) then R [[U.b false]] else bif decide ((Q.list.length:Int) > (65536:Int)) then R [[U.b false]] else ([Ct.int IntKind.i64,Ct.int IntKind.i64,Ct.int IntKind.i64,Ct.int IntKind.i64,Ct.int IntKind.u32]=[.int .i64,.int .i64,.int .i64,.int .i64,.int .u32]∧[Ct.str,Ct.int IntKind.i64,Ct.sl false [Ct.sl true [Ct.int IntKind.i64,Ct.int IntKind.i64,Ct.int IntKind.i64,Ct.int IntKind.i64,Ct.int IntKind.u32]]]=[.str,.int .i64,Ct.sl false [.sl true [.int .i64,.int .i64,.int .i64,.int .i64,.int .u32]]]∧[Ct.str,Ct.bool,Ct.sl true [Ct.int IntKind.i64,Ct.int IntKind.i64]]=[.str,Ct.bool,Ct.sl true [.int .i64,.int .i64]]∧[Ct.str,Ct.int IntKind.i64,Ct.sl false [Ct.sl true [Ct.int IntKind.i64,Ct.int IntKind.i64,Ct.int IntKind.i64,Ct.int IntKind.i64,Ct.int IntKind.u32]]]=[.str,.int .i64,Ct.sl false [.sl true [.int .i64,.int .i64,.int .i64,.int .i64,.int .u32]]]∧nat_lit 508=nat_lit 508∧nat_lit 636=nat_lit 636∧nat_lit 128=nat_lit 128∧nat_lit 0=nat_lit 0∧nat_lit 9=nat_lit 9∧nat_lit 9=nat_lit 9∧(S.list.length:Int)=(S.list.length:Int)∧(S.list.length:Int)≤(8:Int)∧(0:Int)≤(0:Int)∧(0:Int)≤(S.list.length:Int)∧(0:Int)≤c.int∧c.int≤(6:Int)∧(↑(0:Nat):Int)≤(0:Int))∧bif shotsR c.int (List.drop (Int.toNat (0:Int)) S.list) then ([Ct.int IntKind.i64,Ct.int IntKind.i64,Ct.int IntKind.i64,Ct.int IntKind.i64,Ct.int IntKind.u32]=[.int .i64,.int .i64,.int .i64,.int .i64,.int .u32]∧[Ct.str,Ct.int IntKind.i64,Ct.sl false [Ct.sl true [Ct.int IntKind.i64,Ct.int IntKind.i64,Ct.int IntKind.i64,Ct.int IntKind.i64,Ct.int IntKind.u32]]]=[.str,.int .i64,Ct.sl false [.sl true [.int .i64,.int .i64,.int .i64,.int .i64,.int .u32]]]∧[Ct.str,Ct.bool,Ct.sl true [Ct.int IntKind.i64,Ct.int IntKind.i64]]=[.str,Ct.bool,Ct.sl true [.int .i64,.int .i64]]∧[Ct.str,Ct.bool,Ct.sl true [Ct.int IntKind.i64,Ct.int IntKind.i64]]=[.str,Ct.bool,Ct.sl true [.int .i64,.int .i64]]∧nat_lit 508=nat_lit 508∧nat_lit 636=nat_lit 636∧nat_lit 128=nat_lit 128∧nat_lit 0=nat_lit 0∧nat_lit 9=nat_lit 9∧nat_lit 9=nat_lit 9∧(M.list.length:Int)=(M.list.length:Int)∧(M.list.length:Int)≤(8:Int)∧(0:Int)≤(0:Int)∧(0:Int)≤(M.list.length:Int)∧(↑(0:Nat):Int)≤(0:Int))∧bif mapsR (List.drop (Int.toNat (0:Int)) M.list) then (nat_lit 508=nat_lit 508∧nat_lit 636=nat_lit 636∧nat_lit 9=nat_lit 9∧nat_lit 9=nat_lit 9∧(Q.list.length:Int)=(Q.list.length:Int)∧(0:Int)≤(0:Int)∧(0:Int)≤(Q.list.length:Int))∧bif countsR (List.drop (Int.toNat (0:Int)) Q.list) then bif unlikeR [] ([] ++ List.map e0 (List.drop (Int.toNat (0:Int)) S.list)) then R [[U.b (unlikeR [] ([] ++ List.map e0 (List.drop (Int.toNat (0:Int)) M.list)))]] else R [[U.b false]] else R [[U.b false]] else R [[U.b false]] else R [[U.b false]] else bif decide (c.int < (0:Int)) then False else bif !tableR T.list (Int.fdiv sz.int ((2:Int) ^ min (Int.toNat c.int) (IntKind.bits IntKind.i64))) c.int then R [[U.b false]] else bif decide ((S.list.length:Int) > (8:Int)) then R [[U.b false]] else bif decide ((M.list.length:Int) > (8:Int)) then R [[U.b false]] else bif decide ((Q.list.length:Int) > (65536:Int)) then R [[U.b false]] else ([Ct.int IntKind.i64,Ct.int IntKind.i64,Ct.int IntKind.i64,Ct.int IntKind.i64,Ct.int IntKind.u32]=[.int .i64,.int .i64,.int .i64,.int .i64,.int .u32]∧[Ct.str,Ct.int IntKind.i64,Ct.sl false [Ct.sl true [Ct.int IntKind.i64,Ct.int IntKind.i64,Ct.int IntKind.i64,Ct.int IntKind.i64,Ct.int IntKind.u32]]]=[.str,.int .i64,Ct.sl false [.sl true [.int .i64,.int .i64,.int .i64,.int .i64,.int .u32]]]∧[Ct.str,Ct.bool,Ct.sl true [Ct.int IntKind.i64,Ct.int IntKind.i64]]=[.str,Ct.bool,Ct.sl true [.int .i64,.int .i64]]∧[Ct.str,Ct.int IntKind.i64,Ct.sl false [Ct.sl true [Ct.int IntKind.i64,Ct.int IntKind.i64,Ct.int IntKind.i64,Ct.int IntKind.i64,Ct.int IntKind.u32]]]=[.str,.int .i64,Ct.sl false [.sl true [.int .i64,.int .i64,.int .i64,.int .i64,.int .u32]]]∧nat_lit 508=nat_lit 508∧nat_lit 636=nat_lit 636∧nat_lit 128=nat_lit 128∧nat_lit 0=nat_lit 0∧nat_lit 9=nat_lit 9∧nat_lit 9=nat_lit 9∧(S.list.length:Int)=(S.list.length:Int)∧(S.list.length:Int)≤(8:Int)∧(0:Int)≤(0:Int)∧(0:Int)≤(S.list.length:Int)∧(0:Int)≤c.int∧c.int≤(6:Int)∧(↑(0:Nat):Int)≤(0:Int))∧bif shotsR c.int (List.drop (Int.toNat (0:Int)) S.list) then ([Ct.int IntKind.i64,Ct.int IntKind.i64,Ct.int IntKind.i64,Ct.int IntKind.i64,Ct.int IntKind.u32]=[.int .i64,.int .i64,.int .i64,.int .i64,.int .u32]∧[Ct.str,Ct.int IntKind.i64,Ct.sl false [Ct.sl true [Ct.int IntKind.i64,Ct.int IntKind.i64,Ct.int IntKind.i64,Ct.int IntKind.i64,Ct.int IntKind.u32]]]=[.str,.int .i64,Ct.sl false [.sl true [.int .i64,.int .i64,.int .i64,.int .i64,.int .u32]]]∧[Ct.str,Ct.bool,Ct.sl true [Ct.int IntKind.i64,Ct.int IntKind.i64]]=[.str,Ct.bool,Ct.sl true [.int .i64,.int .i64]]∧[Ct.str,Ct.bool,Ct.sl true [Ct.int IntKind.i64,Ct.int IntKind.i64]]=[.str,Ct.bool,Ct.sl true [.int .i64,.int .i64]]∧nat_lit 508=nat_lit 508∧nat_lit 636=nat_lit 636∧nat_lit 128=nat_lit 128∧nat_lit 0=nat_lit 0∧nat_lit 9=nat_lit 9∧nat_lit 9=nat_lit 9∧(M.list.length:Int)=(M.list.length:Int)∧(M.list.length:Int)≤(8:Int)∧(0:Int)≤(0:Int)∧(0:Int)≤(M.list.length:Int)∧(↑(0:Nat):Int)≤(0:Int))∧bif mapsR (List.drop (Int.toNat (0:Int)) M.list) then (nat_lit 508=nat_lit 508∧nat_lit 636=nat_lit 636∧nat_lit 9=nat_lit 9∧nat_lit 9=nat_lit 9∧(Q.list.length:Int)=(Q.list.length:Int)∧(0:Int)≤(0:Int)∧(0:Int)≤(Q.list.length:Int))∧bif countsR (List.drop (Int.toNat (0:Int)) Q.list) then bif unlikeR [] ([] ++ List.map e0 (List.drop (Int.toNat (0:Int)) S.list)) then R [[U.b (unlikeR [] ([] ++ List.map e0 (List.drop (Int.toNat (0:Int)) M.list)))]] else R [[U.b false]] else R [[U.b false]] else R [[U.b false]] else R [[U.b false]]):=by kernel_rfl
end Go.Mat

namespace Go.Mat
open Go Go.Den Go.Proofs
theorem shr_in {n c:Int} (h:0≤c) (h':c≤6):Int.fdiv n (2 ^ min c.toNat (IntKind.bits .i64))=n / 2 ^ c.toNat:=by
 rw [shl_min h h',Int.fdiv_eq_ediv_of_nonneg _ (by have:=(pow_le h h').1;omega)]
theorem map_snoc (xs:List U) (s:U) (r:List U):xs ++ [nth (.i 0) s.list 0] ++ r.map e0=xs ++ (s :: r).map e0:=by simp
theorem shots_loop:LoopOk metaC 0 (loopBody Try.f37 0):=by
 refine loopOk_of (F:=metaLoop0) (ts:=[70,69,68,3,4,1]) (os:=[508,636,128]) rfl (fun svs _=>match svs with | .val _ i :: .val _ m :: _=>(m.int - i.int).toNat | _=>0) ?_
 intro pan svs os k ho1 ho2 h
 unfold metaLoop0 at h
 split at h
 ·rename_i i n ec L o1 o2 pp po t1 xs t2 ys c sz bk x1 T x2 S x3 M Q
  obtain ⟨⟨rfl,rfl,rfl,rfl,rfl,rfl,rfl,rfl,rfl,rfl,hn,hn8,h0,hi,hc0,hc6,hx⟩,hk⟩:=h
  refine .eq (shots_round pan _ _ k i n L c sz bk T S M Q xs ys) ?_
  refine bd (fun hlt=>dt ⟨h0,by omega⟩ ?_) (fun hlt=>?_)
  ·rw [drop_at (by omega),shotsR,← map_snoc] at hk
   simp only [U.at,e1,e2] at hk
   have hw:IntKind.wrap .i64 (i.int + 1)=i.int + 1:=i64_in (by omega) (by omega)
   have hc:(i.int + 1).toNat=i.int.toNat + 1:=by omega
   have hlt':(n.int - (i.int + 1)).toNat < (n.int - i.int).toNat:=by omega
   simp only [nth_tail,Nat.zero_add,Nat.reduceAdd,hw,hc,shr_in hc0 hc6]
   generalize nth (U.i 0) L.list i.int.toNat=s at hk ⊢
   refine broom (by simp [room];omega) rfl ⟨⟨by simpa using hc0,by simpa using hc6⟩,bi (fun h1=>?_) (fun h1=>df (by omega) (bi (fun h2=>?_) (fun h2=>?_)))⟩
   ·rw [nt h1] at hk;exact hk
   ·rw [nf h1,nt h2] at hk;exact hk
   ·rw [nf h1,nf h2] at hk
    exact blt hlt' ⟨⟨by trivial,by trivial,by trivial,by trivial,by trivial,by trivial,by trivial,by trivial,by trivial,by trivial,hn,hn8,by omega,by omega,hc0,hc6,by simp;omega⟩,hk⟩
  ·rw [List.drop_of_length_le (by omega)] at hk
   simpa [shotsR] using hk
 ·exact h.elim
theorem maps_loop:LoopOk metaC 2 (loopBody Try.f37 1):=by
 refine loopOk_of (F:=metaLoop2) (ts:=[102,101,100,3,4,1]) (os:=[508,636,128]) rfl (fun svs _=>match svs with | .val _ i :: .val _ m :: _=>(m.int - i.int).toNat | _=>0) ?_
 intro pan svs os k ho1 ho2 h
 unfold metaLoop2 at h
 split at h
 ·rename_i i n ec L o1 o2 pp po t1 xs t2 ys c sz bk x1 T x2 S x3 M Q
  obtain ⟨⟨rfl,rfl,rfl,rfl,rfl,rfl,rfl,rfl,rfl,rfl,hn,hn8,h0,hi,hx⟩,hk⟩:=h
  have hlen:∀ j,j < L.list.length→(nth (.i 0) (nth (.i 0) L.list j).list 2).list.length≤maxLen:=fun j hj=>by
   have h2:=(ho1.2.2.1.2 j hj).2.2.1.1
   simpa [U.at,elemU] using h2
  refine .eq (maps_round pan _ _ k i n L c sz bk T S M Q xs ys) ?_
  refine bd (fun hlt=>dt ⟨h0,by omega⟩ ?_) (fun hlt=>?_)
  ·have hl:=hlen i.int.toNat (by omega)
   rw [drop_at (by omega),mapsR,← map_snoc] at hk
   simp only [U.at,e1,e2] at hk
   have hw:IntKind.wrap .i64 (i.int + 1)=i.int + 1:=i64_in (by omega) (by omega)
   have hc:(i.int + 1).toNat=i.int.toNat + 1:=by omega
   have hlt':(n.int - (i.int + 1)).toNat < (n.int - i.int).toNat:=by omega
   simp only [nth_tail,nth_drop,Nat.zero_add,Nat.add_zero,Nat.reduceAdd,hw,hc]
   generalize nth (U.i 0) L.list i.int.toNat=s at hk hl ⊢
   generalize (nth (U.i 0) s.list 2).list=l at hk hl ⊢
   have hw1:0 < l.length→IntKind.wrap .i64 ((l.length:Int) - 1)=(l.length:Int) - 1:=fun h=>i64_in (by omega) (by unfold maxLen at hl;omega)
   refine broom (by simp [room];omega) rfl (bi (fun h1=>?_) (fun h1=>bd (fun h2=>?_) (fun h2=>?_)))
   ·rw [nt h1] at hk;exact hk
   ·rw [hw1 (by omega)]
    have hj:((l.length:Int) - 1).toNat=l.length - 1:=by omega
    refine dt (by omega) (bd (fun h3=>?_) (fun h3=>?_))
    ·rw [hj] at h3
     rw [nf h1,lastR,decide_eq_true (show 0 < l.length by omega)] at hk
     simp only [U.at,e1] at hk
     rw [decide_eq_false (by omega)] at hk
     exact hk
    ·rw [hj] at h3
     rw [nf h1,lastR,decide_eq_true (show 0 < l.length by omega)] at hk
     simp only [U.at,e1] at hk
     rw [decide_eq_true (by omega)] at hk
     exact blt hlt' ⟨⟨by trivial,by trivial,by trivial,by trivial,by trivial,by trivial,by trivial,by trivial,by trivial,by trivial,hn,hn8,by omega,by omega,by simp;omega⟩,hk⟩
   ·rw [nf h1,lastR,decide_eq_false (show ¬ 0 < l.length by omega)] at hk
    exact blt hlt' ⟨⟨by trivial,by trivial,by trivial,by trivial,by trivial,by trivial,by trivial,by trivial,by trivial,by trivial,hn,hn8,by omega,by omega,by simp;omega⟩,hk⟩
  ·rw [List.drop_of_length_le (by omega)] at hk
   simpa [mapsR] using hk
 ·exact h.elim
theorem counts_loop:LoopOk metaC 4 (loopBody Try.f37 2):=by
 refine loopOk_of (F:=metaLoop4) (ts:=[137,136,135,3,4]) (os:=[508,636]) rfl (fun svs _=>match svs with | .val _ i :: .val _ m :: _=>(m.int - i.int).toNat | _=>0) ?_
 intro pan svs os k ho1 ho2 h
 unfold metaLoop4 at h
 split at h
 ·rename_i i n L o1 o2 t1 xs t2 ys
  obtain ⟨⟨rfl,rfl,rfl,rfl,hn,h0,hi⟩,hk⟩:=h
  have hL:L.list.length≤maxLen:=ho1.2.2.1.1
  refine .eq (counts_round pan _ _ k i n L xs ys) ?_
  refine bd (fun hlt=>dt ⟨h0,by omega⟩ ?_) (fun hlt=>?_)
  ·rw [drop_at (by omega),countsR] at hk
   simp only [U.at] at hk
   have hw:IntKind.wrap .i64 (i.int + 1)=i.int + 1:=i64_in (by omega) (by unfold maxLen at hL;omega)
   have hc:(i.int + 1).toNat=i.int.toNat + 1:=by omega
   have hlt':(n.int - (i.int + 1)).toNat < (n.int - i.int).toNat:=by omega
   simp only [hw,hc]
   refine bd (fun h1=>?_) (fun h1=>bd (fun h2=>?_) (fun h2=>?_))
   ·rw [decide_eq_false (by omega)] at hk;exact hk
   ·rw [decide_eq_true (show 0≤(nth (U.i 0) L.list i.int.toNat).int by omega),decide_eq_false (by omega)] at hk;exact hk
   ·rw [decide_eq_true (show 0≤(nth (U.i 0) L.list i.int.toNat).int by omega),decide_eq_true (by omega)] at hk
    exact blt hlt' ⟨⟨by trivial,by trivial,by trivial,by trivial,hn,by omega,by omega⟩,hk⟩
  ·rw [List.drop_of_length_le (by omega)] at hk
   exact hk
 ·exact h.elim
theorem metaR_iff (c sz bk T S M Q:U):metaR c sz bk T S M Q=true↔0≤c.int∧c.int≤6∧sizeR sz.int c.int=true∧backR bk.str=true∧tableR T.list (sz.int / 2 ^ c.int.toNat) c.int=true∧S.list.length≤8∧M.list.length≤8∧Q.list.length≤65536∧
  shotsR c.int S.list=true∧mapsR M.list=true∧countsR Q.list=true∧unlikeR [] (S.list.map e0)=true∧unlikeR [] (M.list.map e0)=true:=by
 simp only [metaR,Bool.and_eq_true,decide_eq_true_eq,and_assoc]
theorem meta_neg {c sz bk T S M Q:U} (h:(0≤c.int∧c.int≤6∧sizeR sz.int c.int=true∧backR bk.str=true∧tableR T.list (sz.int / 2 ^ c.int.toNat) c.int=true∧S.list.length≤8∧M.list.length≤8∧Q.list.length≤65536∧
  shotsR c.int S.list=true∧mapsR M.list=true∧countsR Q.list=true∧unlikeR [] (S.list.map e0)=true∧unlikeR [] (M.list.map e0)=true)→False):([[U.b false]]:List (List U))=[[.b (metaR c sz bk T S M Q)]]:=by
 rw [show metaR c sz bk T S M Q=false from Bool.eq_false_iff.2 fun h'=>h ((metaR_iff ..).1 h')]
theorem fls {b:Bool} (h:(!b)=true) (h':b=true):False:=by rw [h'] at h;cases h
theorem flf {b:Bool} (h:b=false) (h':b=true):False:=by rw [h'] at h;cases h
theorem meta_ok:SpecF PR 37 metaS:=fun fn us hfn=>by
 have hf:PR.funcs[(37:Nat)]? = some Try.f37:=by kernel_rfl
 rw [hf] at hfn;cases hfn
 refine fn_okH (C:=metaC) (mkC_ok eqs0_ok mixed_ok (.consP size_ok (.cons name_ok (.cons tab_ok (.cons spans_ok (.cons unlike_ok .nil))))) .nil) hf (by kernel_rfl) (loops_three (by kernel_rfl) shots_loop maps_loop counts_loop) fun hok=>?_
 have hp:Try.f37.params.toList=[41]:=by kernel_rfl
 rw [hp] at hok
 obtain ⟨c,sz,bk,T,S,M,Q,hus⟩:∃ c sz bk T S M Q,us=[[c,sz,bk,T,S,M,Q]]:=by
  obtain ⟨u,rfl,h1⟩:=shape1 (by kernel_rfl:Cs PR 41=some (true,[.int .i64,.int .i64,.str,.sl false [.sl true EC],.sl true SC,.sl true BC,.sl false [.int .i64]])) hok.1
  obtain ⟨c,sz,bk,T,S,M,Q,rfl⟩:=len7 h1
  exact ⟨c,sz,bk,T,S,M,Q,rfl⟩
 subst hus
 refine .eq (meta_tree _ _ _ _ _ _ _ _) ?_
 unfold metaS
 simp only [nth_zero,nth_succ]
 have eb:(ByteArray.toList bk.str == ByteArray.toList { data:=#[] })=(bk.str.data.toList == []):=by rw [ByteArray.toList_eq,ByteArray.toList_eq]
 rw [eb]
 refine bd (fun h=>meta_neg fun h'=>by omega) (fun hc0=>bd (fun h=>meta_neg fun h'=>by omega) (fun hc6=>⟨⟨by simpa using hc0,by simpa using hc6⟩,bi (fun h=>meta_neg fun h'=>fls h h'.2.2.1) (fun hs=>?_)⟩))
 replace hc0:0≤c.int:=by omega
 replace hc6:c.int≤6:=by omega
 simp only [shr_in hc0 hc6,Int.toNat_zero,List.drop_zero,List.nil_append]
 refine bi (fun hb=>bi (fun hb2=>meta_neg fun h'=>?_) (fun hb2=>?_)) (fun hb=>?_)
 ·have:=h'.2.2.2.1
  rw [backR,nt hb,nt hb2] at this;cases this
 all_goals
  have hbk:backR bk.str=true:=by
   rw [backR]
   first | rw [nf hb2,Bool.or_true] | rw [nf hb,Bool.true_or]
  refine df (by omega) (bi (fun h=>meta_neg fun h'=>fls h h'.2.2.2.2.1) (fun ht=>?_))
  refine bd (fun h=>meta_neg fun h'=>by omega) (fun h8=>bd (fun h=>meta_neg fun h'=>by omega) (fun h9=>bd (fun h=>meta_neg fun h'=>by omega) (fun h10=>?_)))
  refine ⟨⟨by trivial,by trivial,by trivial,by trivial,by trivial,by trivial,by trivial,by trivial,by trivial,by trivial,by trivial,by omega,by omega,by omega,hc0,hc6,by simp⟩,bi (fun h11=>?_) (fun h=>meta_neg fun h'=>flf h h'.2.2.2.2.2.2.2.2.1)⟩
  refine ⟨⟨by trivial,by trivial,by trivial,by trivial,by trivial,by trivial,by trivial,by trivial,by trivial,by trivial,by trivial,by omega,by omega,by omega,by simp⟩,bi (fun h12=>?_) (fun h=>meta_neg fun h'=>flf h h'.2.2.2.2.2.2.2.2.2.1)⟩
  refine ⟨⟨by trivial,by trivial,by trivial,by trivial,by trivial,by omega,by omega⟩,bi (fun h13=>?_) (fun h=>meta_neg fun h'=>flf h h'.2.2.2.2.2.2.2.2.2.2.1)⟩
  refine bi (fun h14=>?_) (fun h=>meta_neg fun h'=>flf h h'.2.2.2.2.2.2.2.2.2.2.2.1)
  refine ubi ?_
  rw [metaR_iff]
  exact ⟨fun h=>⟨hc0,hc6,nf hs,hbk,nf ht,by omega,by omega,by omega,h11,h12,h13,h14,h⟩,fun h=>h.2.2.2.2.2.2.2.2.2.2.2.2⟩
end Go.Mat

namespace Go.Mat
open Go Go.Den Go.Proofs
def hasR (x:U):List U→Bool
 | []=>false
 | s :: r=>((e0 s).str.data.toList == x.str.data.toList) || hasR x r
def findR (x:U):Int→List U→Int
 | _,[]=>-1
 | i,s :: r=>bif (e0 s).str.data.toList == x.str.data.toList then i else findR x (i + 1) r
def shotS:List (List U)→List (List U):=fun us=>[[.i (findR (nth (.i 0) (nth [] us 1) 0) 0 (nth (.i 0) (nth [] us 0) 4).list)]]
def bitmapS:List (List U)→List (List U):=fun us=>[[.i (findR (nth (.i 0) (nth [] us 1) 0) 0 (nth (.i 0) (nth [] us 0) 0).list)]]
noncomputable def shotLoop:LoopF:=fun _ svs os k=>match svs,os with
 | [.val (.int .i64) i,.ptr pp po,.val .str x],[.box [.val (.int .i64) c,.val (.int .i64) sz,.val .str bk,.val (.sl false [.sl true x1]) T,.val (.sl true x2) S,.val (.sl true x3) M,.val (.sl false [.int .i64]) Q]]=>
  (x1=EC∧x2=SC∧x3=BC∧pp=256∧po=0∧i = .i i.int∧0≤i.int∧i.int≤(S.list.length:Int))∧
  (bif hasR x (S.list.drop i.int.toNat) then k .ret ⟨[(4,vi (.i (findR x i.int (S.list.drop i.int.toNat))))],[]⟩ else k (.exit 0) ⟨[(4,.unk)],[]⟩)
 | _,_=>False
noncomputable def shotC:Ctx:=mkC PR eqs0 fnsNil trsNil (loopCons 0 [5,2,1] [256] shotLoop noLoops) (outCons 0 [4] [] noOut) noOut
noncomputable def bitmapLoop:LoopF:=fun _ svs _ k=>match svs with
 | [.val (.int .i64) i,.val (.sl true ec) L,.val .str x]=>
  (ec=BC∧i = .i i.int∧0≤i.int∧i.int≤(L.list.length:Int))∧
  (bif hasR x (L.list.drop i.int.toNat) then k .ret ⟨[(4,vi (.i (findR x i.int (L.list.drop i.int.toNat))))],[]⟩ else k (.exit 0) ⟨[(4,.unk)],[]⟩)
 | _=>False
noncomputable def bitmapC:Ctx:=mkC PR eqs0 fnsNil trsNil (loopCons 0 [5,0,1] [] bitmapLoop noLoops) (outCons 0 [4] [] noOut) noOut
theorem shot_round (pan:KP) (μ:Mu) (N:Nat) (k:KE) (i x c sz bk T S M Q:U):(exec (shotC.panics pan) (loopBody Try.f34 0) 0 ⟨[(5,vi i),(2,.ptr 256 0),(1,vs x)],[(256,.box [vi c,vi sz,vs bk,vl (.sl true EC) T,vt SC S,vt BC M,vl (.int .i64) Q])]⟩ (again PR (some ([4],[])) none pan [5,2,1] [256] shotLoop μ N k))=(bif decide (i.int < (S.list.length:Int)) then bif decide ((0:Int)≤i.int∧i.int < (S.list.length:Int)) then bif ByteArray.toList (U.str (nth (U.i (0:Int)) (List.drop (0:Nat) (U.list (nth (U.i (0:Int)) S.list (Int.toNat i.int)))) (0:Nat))) == ByteArray.toList x.str then k Ex.ret (St.mk [(nat_lit 4,.val (.int IntKind.i64) i)] []) else bif Nat.blt (μ [.val (.int IntKind.i64) (U.i (IntKind.wrap .i64 (i.int + (1:Int)))),.ptr (nat_lit 256) (nat_lit 0),.val .str x] [.box [.val (.int IntKind.i64) c,.val (.int IntKind.i64) sz,.val .str bk,.val (.sl false [Ct.sl true [Ct.int IntKind.i64,Ct.int IntKind.i64,Ct.int IntKind.i64,Ct.int IntKind.i64,Ct.int IntKind.u32]]) T,SV.val (Ct.sl true [Ct.str,Ct.int IntKind.i64,Ct.sl false [Ct.sl true [Ct.int IntKind.i64,Ct.int IntKind.i64,Ct.int IntKind.i64,Ct.int IntKind.i64,Ct.int IntKind.u32]]]) S,SV.val (Ct.sl true [Ct.str,Ct.bool,Ct.sl true [Ct.int IntKind.i64,Ct.int IntKind.i64]]) M,SV.val (Ct.sl false [Ct.int IntKind.i64]) Q]]) N then ([Ct.int IntKind.i64,Ct.int IntKind.i64,Ct.int IntKind.i64,Ct.int IntKind.i64,Ct.int IntKind.u32]=[.int .i64,.int .i64,.int .i64,.int .i64,.int .u32]∧[Ct.str,Ct.int IntKind.i64,Ct.sl false [Ct.sl true [Ct.int IntKind.i64,Ct.int IntKind.i64,Ct.int IntKind.i64,Ct.int IntKind.i64,Ct.int IntKind.u32]]]=[.str,.int .i64,Ct.sl false [.sl true [.int .i64,.int .i64,.int .i64,.int .i64,.int .u32]]]∧[Ct.str,Ct.bool,Ct.sl true [Ct.int IntKind.i64,Ct.int IntKind.i64]]=[.str,Ct.bool,Ct.sl true [.int .i64,.int .i64]]∧nat_lit 256=nat_lit 256∧nat_lit 0=nat_lit 0∧U.i (IntKind.wrap .i64 (i.int + (1:Int)))=U.i (IntKind.wrap .i64 (i.int + (1:Int)))∧(0:Int)≤IntKind.wrap .i64 (i.int + (1:Int))∧IntKind.wrap .i64 (i.int + (1:Int))≤(S.list.length:Int))∧bif hasR x (List.drop (Int.toNat (IntKind.wrap .i64 (i.int + (1:Int)))) S.list) then k Ex.ret (St.mk [(nat_lit 4,.val (.int IntKind.i64) (U.i (findR x (IntKind.wrap .i64 (i.int + (1:Int))) (List.drop (Int.toNat (IntKind.wrap .i64 (i.int + (1:Int)))) S.list))))] []) else k (Ex.exit (nat_lit 0)) (St.mk [(nat_lit 4,.unk)] []) else False else False else k (Ex.exit (nat_lit 0)) (St.mk [(nat_lit 4,.unk)] [])):=by kernel_rfl
theorem shot_tree (R:RF) (c sz bk T S M Q x:U):(run shotC Try.f34 [[c,sz,bk,T,S,M,Q],[x]] R)=(([Ct.int IntKind.i64,Ct.int IntKind.i64,Ct.int IntKind.i64,Ct.int IntKind.i64,Ct.int IntKind.u32]=[Ct.int IntKind.i64,Ct.int IntKind.i64,Ct.int IntKind.i64,Ct.int IntKind.i64,Ct.int IntKind.u32]
 ∧ [Ct.str,Ct.int IntKind.i64,Ct.sl false [Ct.sl true [Ct.int IntKind.i64,Ct.int IntKind.i64,Ct.int IntKind.i64,Ct.int IntKind.i64,Ct.int IntKind.u32]]]=[Ct.str,Ct.int IntKind.i64,Ct.sl false
 [Ct.sl true [Ct.int IntKind.i64,Ct.int IntKind.i64,Ct.int IntKind.i64,Ct.int IntKind.i64,Ct.int IntKind.u32]]]∧[Ct.str,Ct.bool,Ct.sl true [Ct.int IntKind.i64,Ct.int IntKind.i64]]=[Ct.str,Ct.bool,
 Ct.sl true [Ct.int IntKind.i64,Ct.int IntKind.i64]]∧nat_lit 256=nat_lit 256∧nat_lit 0=nat_lit 0∧U.i (0:Int)=U.i (0:Int)∧(0:Int)≤(0:Int)∧(0:Int)≤(↑(List.length (U.list S))
 : Int))∧bif hasR x (List.drop (Int.toNat (0:Int)) (U.list S)) then R [[U.i (findR x (0:Int) (List.drop (Int.toNat (0:Int)) (U.list S)))]] else R [[U.i (-1:Int)]]):=by kernel_rfl
theorem bitmap_round (pan:KP) (μ:Mu) (N:Nat) (k:KE) (i x L:U):(exec (bitmapC.panics pan) (loopBody Try.f35 0) 0 ⟨[(5,vi i),(0,vt BC L),(1,vs x)],[]⟩ (again PR (some ([4],[])) none pan [5,0,1] [] bitmapLoop μ N k))=(bif decide (i.int < (L.list.length:Int)) then bif decide ((0:Int)≤i.int∧i.int < (L.list.length:Int)) then bif ByteArray.toList (U.str (nth (U.i (0:Int)) (List.drop (0:Nat) (U.list (nth (U.i (0:Int)) L.list (Int.toNat i.int)))) (0:Nat))) == ByteArray.toList x.str then k Ex.ret (St.mk [(nat_lit 4,.val (.int IntKind.i64) i)] []) else bif Nat.blt (μ [.val (.int IntKind.i64) (U.i (IntKind.wrap .i64 (i.int + (1:Int)))),.val (.sl true [Ct.str,Ct.bool,Ct.sl true [Ct.int IntKind.i64,Ct.int IntKind.i64]]) L,SV.val Ct.str x] []) N then ([Ct.str,Ct.bool,Ct.sl true [Ct.int IntKind.i64,Ct.int IntKind.i64]]=[.str,Ct.bool,Ct.sl true [.int .i64,.int .i64]]∧U.i (IntKind.wrap .i64 (i.int + (1:Int)))=U.i (IntKind.wrap .i64 (i.int + (1:Int)))∧(0:Int)≤IntKind.wrap .i64 (i.int + (1:Int))∧IntKind.wrap .i64 (i.int + (1:Int))≤(L.list.length:Int))∧bif hasR x (List.drop (Int.toNat (IntKind.wrap .i64 (i.int + (1:Int)))) L.list) then k Ex.ret (St.mk [(nat_lit 4,.val (.int IntKind.i64) (U.i (findR x (IntKind.wrap .i64 (i.int + (1:Int))) (List.drop (Int.toNat (IntKind.wrap .i64 (i.int + (1:Int)))) L.list))))] []) else k (Ex.exit (nat_lit 0)) (St.mk [(nat_lit 4,.unk)] []) else False else False else k (Ex.exit (nat_lit 0)) (St.mk [(nat_lit 4,.unk)] [])):=by kernel_rfl
theorem bitmap_tree (R:RF) (L x:U):(run bitmapC Try.f35 [[L],[x]] R)=(([Ct.str,Ct.bool,Ct.sl true [Ct.int IntKind.i64,Ct.int IntKind.i64]]=[Ct.str,Ct.bool,Ct.sl true [Ct.int IntKind.i64,Ct.int IntKind.i64]]∧U.i (0:Int)=U.i (0:Int)∧(0:Int)≤(0:Int)
 ∧ (0:Int)≤(↑(List.length (U.list L)):Int))∧bif hasR x (List.drop (Int.toNat (0:Int)) (U.list L)) then R [[U.i (findR x (0:Int) (List.drop (Int.toNat (0:Int)) (U.list L)))]] else R [[U.i (-1
 : Int)]]):=by kernel_rfl
def rshotsR (c:Int) (S:List U):Int→List U→Bool
 | _,[]=>true
 | i,s :: r=>nameR (e0 s).str && (findR (e0 s) 0 S == i) && sizeR (e1 s).int c && rtableR (e2 s).list ((e1 s).int / 2 ^ c.toNat) c && rshotsR c S (i + 1) r
def rmapsR (M:List U):Int→List U→Bool
 | _,[]=>true
 | i,b :: r=>nameR (e0 b).str && (findR (e0 b) 0 M == i) && spansR (-1) (e2 b).list && lastR (e2 b).list && rmapsR M (i + 1) r
def rmetaR (c sz bk T S M Q:U):Bool:=
 decide (0≤c.int) && decide (c.int≤6) && sizeR sz.int c.int && backR bk.str && decide (S.list.length≤8) && decide (M.list.length≤8) && decide (Q.list.length≤65536) && rtableR T.list (sz.int / 2 ^ c.int.toNat) c.int &&
 rshotsR c.int S.list 0 S.list && rmapsR M.list 0 M.list && countsR Q.list
def rmetaS:List (List U)→List (List U):=fun us=>[[.b (rmetaR (nth (.i 0) (nth [] us 0) 0) (nth (.i 0) (nth [] us 0) 1) (nth (.i 0) (nth [] us 0) 2) (nth (.i 0) (nth [] us 0) 3) (nth (.i 0) (nth [] us 0) 4) (nth (.i 0) (nth [] us 0) 5) (nth (.i 0) (nth [] us 0) 6))]]
noncomputable def rmetaLoop0:LoopF:=fun _ svs os k=>match svs,os with
 | [.val (.int .i64) i,.ptr pp po],[.box [.val (.int .i64) c,.val (.int .i64) sz,.val .str bk,.val (.sl false [.sl true x1]) T,.val (.sl true x2) S,.val (.sl true x3) M,.val (.sl false [.int .i64]) Q]]=>
  (x1=EC∧x2=SC∧x3=BC∧pp=128∧po=0∧S.list.length≤8∧0≤i.int∧i.int≤(S.list.length:Int)∧0≤c.int∧c.int≤6)∧
  (bif rshotsR c.int S.list i.int (S.list.drop i.int.toNat) then k (.exit 0) ⟨[(1,.ptr 128 0)],[(128,.box [vi c,vi sz,vs bk,vl (.sl true EC) T,vt SC S,vt BC M,vl (.int .i64) Q])]⟩ else k .ret noRet)
 | _,_=>False
noncomputable def rmetaLoop2:LoopF:=fun _ svs os k=>match svs,os with
 | [.val (.int .i64) i,.ptr pp po],[.box [.val (.int .i64) c,.val (.int .i64) sz,.val .str bk,.val (.sl false [.sl true x1]) T,.val (.sl true x2) S,.val (.sl true x3) M,.val (.sl false [.int .i64]) Q]]=>
  (x1=EC∧x2=SC∧x3=BC∧pp=128∧po=0∧M.list.length≤8∧0≤i.int∧i.int≤(M.list.length:Int))∧
  (bif rmapsR M.list i.int (M.list.drop i.int.toNat) then k (.exit 2) ⟨[(1,.ptr 128 0)],[(128,.box [vi c,vi sz,vs bk,vl (.sl true EC) T,vt SC S,vt BC M,vl (.int .i64) Q])]⟩ else k .ret noRet)
 | _,_=>False
noncomputable def rmetaLoop4:LoopF:=fun _ svs os k=>match svs,os with
 | [.val (.int .i64) i,.ptr pp po],[.box [.val (.int .i64) c,.val (.int .i64) sz,.val .str bk,.val (.sl false [.sl true x1]) T,.val (.sl true x2) S,.val (.sl true x3) M,.val (.sl false [.int .i64]) Q]]=>
  (x1=EC∧x2=SC∧x3=BC∧pp=128∧po=0∧Q.list.length≤65536∧0≤i.int∧i.int≤(Q.list.length:Int))∧
  (bif countsR (Q.list.drop i.int.toNat) then k (.exit 4) ⟨[(2,.unk)],[]⟩ else k .ret noRet)
 | _,_=>False
noncomputable def rmetaC:Ctx:=mkC PR eqs0 (fnsConsP 31 sizeP sizeS (fnsCons 32 nameS (fnsCons 33 rtableS (fnsCons 36 spansS (fnsCons 34 shotS (fnsCons 35 bitmapS fnsNil)))))) trsNil
 (loopCons 4 [7,1] [128] rmetaLoop4 (loopCons 2 [5,1] [128] rmetaLoop2 (loopCons 0 [3,1] [128] rmetaLoop0 noLoops)))
 (outCons 4 [2] [] (outCons 2 [1] [128] (outCons 0 [1] [128] (outCons 1048578 [2] [] (outCons 1048576 [2] [] noOut))))) noOut
theorem rshots_round (pan:KP) (μ:Mu) (N:Nat) (k:KE) (i c sz bk T S M Q:U):(exec (rmetaC.panics pan) (loopBody Try.f14 0) 0 ⟨[(3,vi i),(1,.ptr 128 0)],[(128,.box [vi c,vi sz,vs bk,vl (.sl true EC) T,vt SC S,vt BC M,vl (.int .i64) Q])]⟩ (again PR (some ([1],[128])) (some ([2],[])) pan [3,1] [128] rmetaLoop0 μ N k))=(bif decide (i.int < (S.list.length:Int)) then bif decide ((0:Int)≤i.int∧i.int < (S.list.length:Int)) then bif !nameR (U.str (nth (U.i (0:Int)) (U.list (nth (U.i (0:Int)) S.list (Int.toNat i.int))) (0:Nat))) then k Ex.ret (St.mk [(nat_lit 2,.val .bool (U.b false))] []) else bif findR (nth (U.i (0:Int)) (U.list (nth (U.i (0:Int)) S.list (Int.toNat i.int))) (0:Nat)) (0:Int) S.list != i.int then k Ex.ret (St.mk [(nat_lit 2,.val .bool (U.b false))] []) else sizeP [[nth (U.i (0:Int)) (List.tail (U.list (nth (U.i (0:Int)) S.list (Int.toNat i.int)))) (0:Nat)],[c]]∧bif !sizeR (U.int (nth (U.i (0:Int)) (List.tail (U.list (nth (U.i (0:Int)) S.list (Int.toNat i.int)))) (0:Nat))) c.int then k Ex.ret (St.mk [(nat_lit 2,.val .bool (U.b false))] []) else bif decide (IntKind.wrap .u64 c.int < (0:Int)) then False else bif !rtableR (U.list (nth (U.i (0:Int)) (List.tail (List.tail (U.list (nth (U.i (0:Int)) S.list (Int.toNat i.int))))) (0:Nat))) (Int.fdiv (U.int (nth (U.i (0:Int)) (List.tail (U.list (nth (U.i (0:Int)) S.list (Int.toNat i.int)))) (0:Nat))) ((2:Int) ^ min (Int.toNat (IntKind.wrap .u64 c.int)) (IntKind.bits IntKind.i64))) c.int then k Ex.ret (St.mk [(nat_lit 2,.val .bool (U.b false))] []) else bif Nat.blt (μ [.val (.int IntKind.i64) (U.i (IntKind.wrap .i64 (i.int + (1:Int)))),.ptr (nat_lit 128) (nat_lit 0)] [.box [.val (.int IntKind.i64) c,.val (.int IntKind.i64) sz,.val .str bk,.val (.sl false [Ct.sl true [Ct.int IntKind.i64,Ct.int IntKind.i64,Ct.int IntKind.i64,Ct.int IntKind.i64,Ct.int IntKind.u32]]) T,SV.val (Ct.sl true [Ct.str,Ct.int IntKind.i64,Ct.sl false [Ct.sl true [Ct.int IntKind.i64,Ct.int IntKind.i64,Ct.int IntKind.i64,Ct.int IntKind.i64,Ct.int IntKind.u32]]]) S,SV.val (Ct.sl true [Ct.str,Ct.bool,Ct.sl true [Ct.int IntKind.i64,Ct.int IntKind.i64]]) M,SV.val (Ct.sl false [Ct.int IntKind.i64]) Q]]) N then ([Ct.int IntKind.i64,Ct.int IntKind.i64,Ct.int IntKind.i64,Ct.int IntKind.i64,Ct.int IntKind.u32]=[.int .i64,.int .i64,.int .i64,.int .i64,.int .u32]∧[Ct.str,Ct.int IntKind.i64,Ct.sl false [Ct.sl true [Ct.int IntKind.i64,Ct.int IntKind.i64,Ct.int IntKind.i64,Ct.int IntKind.i64,Ct.int IntKind.u32]]]=[.str,.int .i64,Ct.sl false [.sl true [.int .i64,.int .i64,.int .i64,.int .i64,.int .u32]]]∧[Ct.str,Ct.bool,Ct.sl true [Ct.int IntKind.i64,Ct.int IntKind.i64]]=[.str,Ct.bool,Ct.sl true [.int .i64,.int .i64]]∧nat_lit 128=nat_lit 128∧nat_lit 0=nat_lit 0∧S.list.length≤(8:Nat)∧(0:Int)≤IntKind.wrap .i64 (i.int + (1:Int))∧IntKind.wrap .i64 (i.int + (1:Int))≤(S.list.length:Int)∧(0:Int)≤c.int∧c.int≤(6:Int))∧bif rshotsR c.int S.list (IntKind.wrap .i64 (i.int + (1:Int))) (List.drop (Int.toNat (IntKind.wrap .i64 (i.int + (1:Int)))) S.list) then k (Ex.exit (nat_lit 0)) (St.mk [(nat_lit 1,.ptr (nat_lit 128) (nat_lit 0))] [(nat_lit 128,.box [.val (.int IntKind.i64) c,.val (.int IntKind.i64) sz,.val .str bk,.val (.sl false [.sl true [.int .i64,.int .i64,.int .i64,.int .i64,.int .u32]]) T,.val (.sl true [.str,.int .i64,Ct.sl false [.sl true [.int .i64,.int .i64,.int .i64,.int .i64,.int .u32]]]) S,.val (.sl true [.str,Ct.bool,Ct.sl true [.int .i64,.int .i64]]) M,.val (.sl false [.int .i64]) Q])]) else k Ex.ret (St.mk [(nat_lit 2,.val .bool (U.b false))] []) else False else False else k (Ex.exit (nat_lit 0)) (St.mk [(nat_lit 1,.ptr (nat_lit 128) (nat_lit 0))] [(nat_lit 128,.box [.val (.int IntKind.i64) c,.val (.int IntKind.i64) sz,.val .str bk,.val (.sl false [.sl true [.int .i64,.int .i64,.int .i64,.int .i64,.int .u32]]) T,.val (.sl true [.str,.int .i64,Ct.sl false [.sl true [.int .i64,.int .i64,.int .i64,.int .i64,.int .u32]]]) S,.val (.sl true [.str,Ct.bool,Ct.sl true [.int .i64,.int .i64]]) M,.val (.sl false [.int .i64]) Q])])):=by kernel_rfl
theorem rmaps_round (pan:KP) (μ:Mu) (N:Nat) (k:KE) (i c sz bk T S M Q:U):(exec (rmetaC.panics pan) (loopBody Try.f14 1) 2 ⟨[(5,vi i),(1,.ptr 128 0)],[(128,.box [vi c,vi sz,vs bk,vl (.sl true EC) T,vt SC S,vt BC M,vl (.int .i64) Q])]⟩ (again PR (some ([1],[128])) (some ([2],[])) pan [5,1] [128] rmetaLoop2 μ N k))=(bif decide (i.int < (M.list.length:Int)) then bif decide ((0:Int)≤i.int∧i.int < (M.list.length:Int)) then bif !nameR (U.str (nth (U.i (0:Int)) (U.list (nth (U.i (0:Int)) M.list (Int.toNat i.int))) (0:Nat))) then k Ex.ret (St.mk [(nat_lit 2,.val .bool (U.b false))] []) else bif findR (nth (U.i (0:Int)) (U.list (nth (U.i (0:Int)) M.list (Int.toNat i.int))) (0:Nat)) (0:Int) M.list != i.int then k Ex.ret (St.mk [(nat_lit 2,.val .bool (U.b false))] []) else bif !spansR (-1:Int) (U.list (nth (U.i (0:Int)) (List.tail (List.tail (U.list (nth (U.i (0:Int)) M.list (Int.toNat i.int))))) (0:Nat))) then k Ex.ret (St.mk [(nat_lit 2,.val .bool (U.b false))] []) else bif decide ((↑(List.length (U.list (nth (U.i (0:Int)) (List.tail (List.tail (U.list (nth (U.i (0:Int)) M.list (Int.toNat i.int))))) (0:Nat)))):Int) > (0:Int)) then bif decide ((0:Int)≤IntKind.wrap .i64 ((↑(List.length (U.list (nth (U.i (0:Int)) (List.tail (List.tail (U.list (nth (U.i (0:Int)) M.list (Int.toNat i.int))))) (0:Nat)))):Int) - (1:Int))∧IntKind.wrap .i64 ((↑(List.length (U.list (nth (U.i (0:Int)) (List.tail (List.tail (U.list (nth (U.i (0:Int)) M.list (Int.toNat i.int))))) (0:Nat)))):Int) - (1:Int)) < (↑(List.length (U.list (nth (U.i (0:Int)) (List.tail (List.tail (U.list (nth (U.i (0:Int)) M.list (Int.toNat i.int))))) (0:Nat)))):Int)) then bif decide (U.int (nth (U.i (0:Int)) (List.drop (1:Nat) (U.list (nth (U.i (0:Int)) (U.list (nth (U.i (0:Int)) (List.tail (List.tail (U.list (nth (U.i (0:Int)) M.list (Int.toNat i.int))))) (0:Nat))) (Int.toNat (IntKind.wrap .i64 ((↑(List.length (U.list (nth (U.i (0:Int)) (List.tail (List.tail (U.list (nth (U.i (0:Int)) M.list (Int.toNat i.int))))) (0:Nat)))):Int) - (1:Int))))))) (0:Nat)) > (4096:Int)) then k Ex.ret (St.mk [(nat_lit 2,.val .bool (U.b false))] []) else bif Nat.blt (μ [.val (.int IntKind.i64) (U.i (IntKind.wrap .i64 (i.int + (1:Int)))),.ptr (nat_lit 128) (nat_lit 0)] [.box [.val (.int IntKind.i64) c,.val (.int IntKind.i64) sz,.val .str bk,.val (.sl false [Ct.sl true [Ct.int IntKind.i64,Ct.int IntKind.i64,Ct.int IntKind.i64,Ct.int IntKind.i64,Ct.int IntKind.u32]]) T,SV.val (Ct.sl true [Ct.str,Ct.int IntKind.i64,Ct.sl false [Ct.sl true [Ct.int IntKind.i64,Ct.int IntKind.i64,Ct.int IntKind.i64,Ct.int IntKind.i64,Ct.int IntKind.u32]]]) S,SV.val (Ct.sl true [Ct.str,Ct.bool,Ct.sl true [Ct.int IntKind.i64,Ct.int IntKind.i64]]) M,SV.val (Ct.sl false [Ct.int IntKind.i64]) Q]]) N then ([Ct.int IntKind.i64,Ct.int IntKind.i64,Ct.int IntKind.i64,Ct.int IntKind.i64,Ct.int IntKind.u32]=[.int .i64,.int .i64,.int .i64,.int .i64,.int .u32]∧[Ct.str,Ct.int IntKind.i64,Ct.sl false [Ct.sl true [Ct.int IntKind.i64,Ct.int IntKind.i64,Ct.int IntKind.i64,Ct.int IntKind.i64,Ct.int IntKind.u32]]]=[.str,.int .i64,Ct.sl false [.sl true [.int .i64,.int .i64,.int .i64,.int .i64,.int .u32]]]∧[Ct.str,Ct.bool,Ct.sl true [Ct.int IntKind.i64,Ct.int IntKind.i64]]=[.str,Ct.bool,Ct.sl true [.int .i64,.int .i64]]∧nat_lit 128=nat_lit 128∧nat_lit 0=nat_lit 0∧M.list.length≤(8:Nat)∧(0:Int)≤IntKind.wrap .i64 (i.int + (1:Int))∧IntKind.wrap .i64 (i.int + (1:Int))≤(M.list.length:Int))∧bif rmapsR M.list (IntKind.wrap .i64 (i.int + (1:Int))) (List.drop (Int.toNat (IntKind.wrap .i64 (i.int + (1:Int)))) M.list) then k (Ex.exit (nat_lit 2)) (St.mk [(nat_lit 1,.ptr (nat_lit 128) (nat_lit 0))] [(nat_lit 128,.box [.val (.int IntKind.i64) c,.val (.int IntKind.i64) sz,.val .str bk,.val (.sl false [Ct.sl true [Ct.int IntKind.i64,Ct.int IntKind.i64,Ct.int IntKind.i64,Ct.int IntKind.i64,Ct.int IntKind.u32]]) T,SV.val (Ct.sl true [Ct.str,Ct.int IntKind.i64,Ct.sl false [Ct.sl true [Ct.int IntKind.i64,Ct.int IntKind.i64,Ct.int IntKind.i64,Ct.int IntKind.i64,Ct.int IntKind.u32]]]) S,SV.val (Ct.sl true [Ct.str,Ct.bool,Ct.sl true [Ct.int IntKind.i64,Ct.int IntKind.i64]]) M,SV.val (Ct.sl false [Ct.int IntKind.i64]) Q])]) else k Ex.ret (St.mk [(nat_lit 2,SV.val Ct.bool (U.b false))] []) else False else False else bif Nat.blt (μ [SV.val (Ct.int IntKind.i64) (U.i (IntKind.wrap .i64 (i.int + (1:Int)))),SV.ptr (nat_lit 128) (nat_lit 0)] [Obj.box [SV.val (Ct.int IntKind.i64) c,SV.val (Ct.int IntKind.i64) sz,SV.val Ct.str bk,SV.val (Ct.sl false [Ct.sl true [Ct.int IntKind.i64,Ct.int IntKind.i64,Ct.int IntKind.i64,Ct.int IntKind.i64,Ct.int IntKind.u32]]) T,SV.val (Ct.sl true [Ct.str,Ct.int IntKind.i64,Ct.sl false [Ct.sl true [Ct.int IntKind.i64,Ct.int IntKind.i64,Ct.int IntKind.i64,Ct.int IntKind.i64,Ct.int IntKind.u32]]]) S,SV.val (Ct.sl true [Ct.str,Ct.bool,Ct.sl true [Ct.int IntKind.i64,Ct.int IntKind.i64]]) M,SV.val (Ct.sl false [Ct.int IntKind.i64]) Q]]) N then ([Ct.int IntKind.i64,Ct.int IntKind.i64,Ct.int IntKind.i64,Ct.int IntKind.i64,Ct.int IntKind.u32]=[.int .i64,.int .i64,.int .i64,.int .i64,.int .u32]∧[Ct.str,Ct.int IntKind.i64,Ct.sl false [Ct.sl true [Ct.int IntKind.i64,Ct.int IntKind.i64,Ct.int IntKind.i64,Ct.int IntKind.i64,Ct.int IntKind.u32]]]=[.str,.int .i64,Ct.sl false [.sl true [.int .i64,.int .i64,.int .i64,.int .i64,.int .u32]]]∧[Ct.str,Ct.bool,Ct.sl true [Ct.int IntKind.i64,Ct.int IntKind.i64]]=[.str,Ct.bool,Ct.sl true [.int .i64,.int .i64]]∧nat_lit 128=nat_lit 128∧nat_lit 0=nat_lit 0∧M.list.length≤(8:Nat)∧(0:Int)≤IntKind.wrap .i64 (i.int + (1:Int))∧IntKind.wrap .i64 (i.int + (1:Int))≤(M.list.length:Int))∧bif rmapsR M.list (IntKind.wrap .i64 (i.int + (1:Int))) (List.drop (Int.toNat (IntKind.wrap .i64 (i.int + (1:Int)))) M.list) then k (Ex.exit (nat_lit 2)) (St.mk [(nat_lit 1,.ptr (nat_lit 128) (nat_lit 0))] [(nat_lit 128,.box [.val (.int IntKind.i64) c,.val (.int IntKind.i64) sz,.val .str bk,.val (.sl false [.sl true [.int .i64,.int .i64,.int .i64,.int .i64,.int .u32]]) T,.val (.sl true [.str,.int .i64,Ct.sl false [.sl true [.int .i64,.int .i64,.int .i64,.int .i64,.int .u32]]]) S,.val (.sl true [.str,Ct.bool,Ct.sl true [.int .i64,.int .i64]]) M,.val (.sl false [.int .i64]) Q])]) else k Ex.ret (St.mk [(nat_lit 2,.val .bool (U.b false))] []) else False else False else k (Ex.exit (nat_lit 2)) (St.mk [(nat_lit 1,.ptr (nat_lit 128) (nat_lit 0))] [(nat_lit 128,.box [.val (.int IntKind.i64) c,.val (.int IntKind.i64) sz,.val .str bk,.val (.sl false [.sl true [.int .i64,.int .i64,.int .i64,.int .i64,.int .u32]]) T,.val (.sl true [.str,.int .i64,Ct.sl false [.sl true [.int .i64,.int .i64,.int .i64,.int .i64,.int .u32]]]) S,.val (.sl true [.str,Ct.bool,Ct.sl true [.int .i64,.int .i64]]) M,.val (.sl false [.int .i64]) Q])])):=by kernel_rfl
theorem rcounts_round (pan:KP) (μ:Mu) (N:Nat) (k:KE) (i c sz bk T S M Q:U):(exec (rmetaC.panics pan) (loopBody Try.f14 2) 4 ⟨[(7,vi i),(1,.ptr 128 0)],[(128,.box [vi c,vi sz,vs bk,vl (.sl true EC) T,vt SC S,vt BC M,vl (.int .i64) Q])]⟩ (again PR (some ([2],[])) none pan [7,1] [128] rmetaLoop4 μ N k))=(bif decide (i.int < (Q.list.length:Int)) then bif decide ((0:Int)≤i.int∧i.int < (Q.list.length:Int)) then bif decide (U.int (nth (U.i (0:Int)) Q.list (Int.toNat i.int)) < (0:Int)) then k Ex.ret (St.mk [(nat_lit 2,.val .bool (U.b false))] []) else bif decide ((0:Int)≤i.int∧i.int < (Q.list.length:Int)) then bif decide (U.int (nth (U.i (0:Int)) Q.list (Int.toNat i.int)) > (65535:Int)) then k Ex.ret (St.mk [(nat_lit 2,.val .bool (U.b false))] []) else bif Nat.blt (μ [.val (.int IntKind.i64) (U.i (IntKind.wrap .i64 (i.int + (1:Int)))),.ptr (nat_lit 128) (nat_lit 0)] [.box [.val (.int IntKind.i64) c,.val (.int IntKind.i64) sz,.val .str bk,.val (.sl false [Ct.sl true [Ct.int IntKind.i64,Ct.int IntKind.i64,Ct.int IntKind.i64,Ct.int IntKind.i64,Ct.int IntKind.u32]]) T,SV.val (Ct.sl true [Ct.str,Ct.int IntKind.i64,Ct.sl false [Ct.sl true [Ct.int IntKind.i64,Ct.int IntKind.i64,Ct.int IntKind.i64,Ct.int IntKind.i64,Ct.int IntKind.u32]]]) S,SV.val (Ct.sl true [Ct.str,Ct.bool,Ct.sl true [Ct.int IntKind.i64,Ct.int IntKind.i64]]) M,SV.val (Ct.sl false [Ct.int IntKind.i64]) Q]]) N then ([Ct.int IntKind.i64,Ct.int IntKind.i64,Ct.int IntKind.i64,Ct.int IntKind.i64,Ct.int IntKind.u32]=[.int .i64,.int .i64,.int .i64,.int .i64,.int .u32]∧[Ct.str,Ct.int IntKind.i64,Ct.sl false [Ct.sl true [Ct.int IntKind.i64,Ct.int IntKind.i64,Ct.int IntKind.i64,Ct.int IntKind.i64,Ct.int IntKind.u32]]]=[.str,.int .i64,Ct.sl false [.sl true [.int .i64,.int .i64,.int .i64,.int .i64,.int .u32]]]∧[Ct.str,Ct.bool,Ct.sl true [Ct.int IntKind.i64,Ct.int IntKind.i64]]=[.str,Ct.bool,Ct.sl true [.int .i64,.int .i64]]∧nat_lit 128=nat_lit 128∧nat_lit 0=nat_lit 0∧Q.list.length≤(65536:Nat)∧(0:Int)≤IntKind.wrap .i64 (i.int + (1:Int))∧IntKind.wrap .i64 (i.int + (1:Int))≤(Q.list.length:Int))∧bif countsR (List.drop (Int.toNat (IntKind.wrap .i64 (i.int + (1:Int)))) Q.list) then k (Ex.exit (nat_lit 4)) (St.mk [(nat_lit 2,.unk)] []) else k Ex.ret (St.mk [(nat_lit 2,.val .bool (U.b false))] []) else False else False else False else k (Ex.exit (nat_lit 4)) (St.mk [(nat_lit 2,.unk)] [])):=by kernel_rfl
theorem rmeta_tree (R:RF) (c sz bk T S M Q:U):(run rmetaC Try.f14 [[c,sz,bk,T,S,M,Q]] R)=(bif decide (c.int < (0:Int)) then R [[U.b false]] else bif decide (c.int > (6:Int)) then R [[U.b false]] else sizeP [[sz],[c]]∧bif !sizeR sz.int c.int then R [[U.b false]] else bif !ByteArray.toList bk.str == ByteArray.toList (ByteArray.mk #[]) then bif !nameR bk.str then R [[U.b false]] else bif decide ((S.list.length:Int) > (8:Int)) then R [[U.b false]] else bif decide ((M.list.length:Int) > (8:Int)) then R [[U.b false]] else bif decide ((Q.list.length:Int) > (65536:Int)) then R [[U.b false]] else bif decide (IntKind.wrap .u64 c.int < (0:Int)) then False else bif !rtableR T.list (Int.fdiv sz.int ((2:Int) ^ min (Int.toNat (IntKind.wrap .u64 c.int)) (IntKind.bits IntKind.i64))) c.int then R [[U.b false]] else ([Ct.int IntKind.i64,Ct.int IntKind.i64,Ct.int IntKind.i64,Ct.int IntKind.i64,Ct.int IntKind.u32]=[.int .i64,.int .i64,.int .i64,.int .i64,.int .u32]∧[Ct.str,Ct.int IntKind.i64,Ct.sl false [Ct.sl true [Ct.int IntKind.i64,Ct.int IntKind.i64,Ct.int IntKind.i64,Ct.int IntKind.i64,Ct.int IntKind.u32]]]=[.str,.int .i64,Ct.sl false [.sl true [.int .i64,.int .i64,.int .i64,.int .i64,.int .u32]]]∧[Ct.str,Ct.bool,Ct.sl true [Ct.int IntKind.i64,Ct.int IntKind.i64]]=[.str,Ct.bool,Ct.sl true [.int .i64,.int .i64]]∧nat_lit 128=nat_lit 128∧nat_lit 0=nat_lit 0∧S.list.length≤(8:Nat)∧(0:Int)≤(0:Int)∧(0:Int)≤(S.list.length:Int)∧(0:Int)≤c.int∧c.int≤(6:Int))∧bif rshotsR c.int S.list (0:Int) (List.drop (Int.toNat (0:Int)) S.list) then ([Ct.int IntKind.i64,Ct.int IntKind.i64,Ct.int IntKind.i64,Ct.int IntKind.i64,Ct.int IntKind.u32]=[.int .i64,.int .i64,.int .i64,.int .i64,.int .u32]∧[Ct.str,Ct.int IntKind.i64,Ct.sl false [Ct.sl true [Ct.int IntKind.i64,Ct.int IntKind.i64,Ct.int IntKind.i64,Ct.int IntKind.i64,Ct.int IntKind.u32]]]=[.str,.int .i64,Ct.sl false [.sl true [.int .i64,.int .i64,.int .i64,.int .i64,.int .u32]]]∧[Ct.str,Ct.bool,Ct.sl true [Ct.int IntKind.i64,Ct.int IntKind.i64]]=[.str,Ct.bool,Ct.sl true [.int .i64,.int .i64]]∧nat_lit 128=nat_lit 128∧nat_lit 0=nat_lit 0∧M.list.length≤(8:Nat)∧(0:Int)≤(0:Int)∧(0:Int)≤(M.list.length:Int))∧bif rmapsR M.list (0:Int) (List.drop (Int.toNat (0:Int)) M.list) then ([Ct.int IntKind.i64,Ct.int IntKind.i64,Ct.int IntKind.i64,Ct.int IntKind.i64,Ct.int IntKind.u32]=[.int .i64,.int .i64,.int .i64,.int .i64,.int .u32]∧[Ct.str,Ct.int IntKind.i64,Ct.sl false [Ct.sl true [Ct.int IntKind.i64,Ct.int IntKind.i64,Ct.int IntKind.i64,Ct.int IntKind.i64,Ct.int IntKind.u32]]]=[.str,.int .i64,Ct.sl false [.sl true [.int .i64,.int .i64,.int .i64,.int .i64,.int .u32]]]∧[Ct.str,Ct.bool,Ct.sl true [Ct.int IntKind.i64,Ct.int IntKind.i64]]=[.str,Ct.bool,Ct.sl true [.int .i64,.int .i64]]∧nat_lit 128=nat_lit 128∧nat_lit 0=nat_lit 0∧Q.list.length≤(65536:Nat)∧(0:Int)≤(0:Int)∧(0:Int)≤(Q.list.length:Int))∧bif countsR (List.drop (Int.toNat (0:Int)) Q.list) then R [[U.b true]] else R [[U.b false]] else R [[U.b false]] else R [[U.b false]] else bif decide ((S.list.length:Int) > (8:Int)) then R [[U.b false]] else bif decide ((M.list.length:Int) > (8:Int)) then R [[U.b false]] else bif decide ((Q.list.length:Int) > (65536:Int)) then R [[U.b false]] else bif decide (IntKind.wrap .u64 c.int < (0:Int)) then False else bif !rtableR T.list (Int.fdiv sz.int ((2:Int) ^ min (Int.toNat (IntKind.wrap .u64 c.int)) (IntKind.bits IntKind.i64))) c.int then R [[U.b false]] else ([Ct.int IntKind.i64,Ct.int IntKind.i64,Ct.int IntKind.i64,Ct.int IntKind.i64,Ct.int IntKind.u32]=[.int .i64,.int .i64,.int .i64,.int .i64,.int .u32]∧[Ct.str,Ct.int IntKind.i64,Ct.sl false [Ct.sl true [Ct.int IntKind.i64,Ct.int IntKind.i64,Ct.int IntKind.i64,Ct.int IntKind.i64,Ct.int IntKind.u32]]]=[.str,.int .i64,Ct.sl false [.sl true [.int .i64,.int .i64,.int .i64,.int .i64,.int .u32]]]∧[Ct.str,Ct.bool,Ct.sl true [Ct.int IntKind.i64,Ct.int IntKind.i64]]=[.str,Ct.bool,Ct.sl true [.int .i64,.int .i64]]∧nat_lit 128=nat_lit 128∧nat_lit 0=nat_lit 0∧S.list.length≤(8:Nat)∧(0:Int)≤(0:Int)∧(0:Int)≤(S.list.length:Int)∧(0:Int)≤c.int∧c.int≤(6:Int))∧bif rshotsR c.int S.list (0:Int) (List.drop (Int.toNat (0:Int)) S.list) then ([Ct.int IntKind.i64,Ct.int IntKind.i64,Ct.int IntKind.i64,Ct.int IntKind.i64,Ct.int IntKind.u32]=[.int .i64,.int .i64,.int .i64,.int .i64,.int .u32]∧[Ct.str,Ct.int IntKind.i64,Ct.sl false [Ct.sl true [Ct.int IntKind.i64,Ct.int IntKind.i64,Ct.int IntKind.i64,Ct.int IntKind.i64,Ct.int IntKind.u32]]]=[.str,.int .i64,Ct.sl false [.sl true [.int .i64,.int .i64,.int .i64,.int .i64,.int .u32]]]∧[Ct.str,Ct.bool,Ct.sl true [Ct.int IntKind.i64,Ct.int IntKind.i64]]=[.str,Ct.bool,Ct.sl true [.int .i64,.int .i64]]∧nat_lit 128=nat_lit 128∧nat_lit 0=nat_lit 0∧M.list.length≤(8:Nat)∧(0:Int)≤(0:Int)∧(0:Int)≤(M.list.length:Int))∧bif rmapsR M.list (0:Int) (List.drop (Int.toNat (0:Int)) M.list) then ([Ct.int IntKind.i64,Ct.int IntKind.i64,Ct.int IntKind.i64,Ct.int IntKind.i64,Ct.int IntKind.u32]=[.int .i64,.int .i64,.int .i64,.int .i64,.int .u32]∧[Ct.str,Ct.int IntKind.i64,Ct.sl false [Ct.sl true [Ct.int IntKind.i64,Ct.int IntKind.i64,Ct.int IntKind.i64,Ct.int IntKind.i64,Ct.int IntKind.u32]]]=[.str,.int .i64,Ct.sl false [.sl true [.int .i64,.int .i64,.int .i64,.int .i64,.int .u32]]]∧[Ct.str,Ct.bool,Ct.sl true [Ct.int IntKind.i64,Ct.int IntKind.i64]]=[.str,Ct.bool,Ct.sl true [.int .i64,.int .i64]]∧nat_lit 128=nat_lit 128∧nat_lit 0=nat_lit 0∧Q.list.length≤(65536:Nat)∧(0:Int)≤(0:Int)∧(0:Int)≤(Q.list.length:Int))∧bif countsR (List.drop (Int.toNat (0:Int)) Q.list) then R [[U.b true]] else R [[U.b false]] else R [[U.b false]] else R [[U.b false]]):=by kernel_rfl
end Go.Mat

namespace Go.Mat
open Go Go.Den Go.Proofs
theorem findR_not {x:U}:∀ {L:List U} {i:Int},hasR x L=false→findR x i L = -1
 | [],_,_=>rfl
 | s :: r,i,h=>by
  rw [hasR,Bool.or_eq_false_iff] at h
  rw [findR,h.1]
  exact findR_not h.2
theorem shot_loop:LoopOk shotC 0 (loopBody Try.f34 0):=by
 refine loopOk_of (F:=shotLoop) (ts:=[5,2,1]) (os:=[256]) rfl (fun svs os=>match svs,os with | .val _ i :: _,[.box (_ :: _ :: _ :: _ :: .val _ S :: _)]=>((S.list.length:Int) - i.int).toNat | _,_=>0) ?_
 intro pan svs os k ho1 ho2 h
 unfold shotLoop at h
 split at h
 ·rename_i i pp po x c sz bk x1 T x2 S x3 M Q
  obtain ⟨⟨rfl,rfl,rfl,rfl,rfl,hs,h0,hi⟩,hk⟩:=h
  have hS:S.list.length≤maxLen:=ho2.1.2.2.2.2.1.1
  refine .eq (shot_round pan _ _ k i x c sz bk T S M Q) ?_
  refine bd (fun hlt=>dt ⟨h0,by omega⟩ ?_) (fun hlt=>?_)
  ·rw [drop_at (by omega),hasR,findR] at hk
   have hw:IntKind.wrap .i64 (i.int + 1)=i.int + 1:=i64_in (by omega) (by unfold maxLen at hS;omega)
   have hc:(i.int + 1).toNat=i.int.toNat + 1:=by omega
   have hlt':((S.list.length:Int) - (i.int + 1)).toNat < ((S.list.length:Int) - i.int).toNat:=by omega
   simp only [U.at,e0] at hk
   simp only [nth_tail,nth_drop,Nat.zero_add,Nat.add_zero,hw,hc,ByteArray.toList_eq]
   refine bi (fun h1=>?_) (fun h1=>?_)
   ·rw [h1] at hk
    simp only [Bool.true_or,cond_true,← hs] at hk
    exact hk
   ·rw [h1] at hk
    exact blt hlt' ⟨⟨by trivial,by trivial,by trivial,by trivial,by trivial,by trivial,by omega,by omega⟩,hk⟩
  ·rw [List.drop_of_length_le (by omega)] at hk
   exact hk
 ·exact h.elim
theorem bitmap_loop:LoopOk bitmapC 0 (loopBody Try.f35 0):=by
 refine loopOk_of (F:=bitmapLoop) (ts:=[5,0,1]) (os:=[]) rfl (fun svs _=>match svs with | .val _ i :: .val _ S :: _=>((S.list.length:Int) - i.int).toNat | _=>0) ?_
 intro pan svs os k ho1 ho2 h
 unfold bitmapLoop at h
 split at h
 ·rename_i i ec L x
  obtain ⟨⟨rfl,hs,h0,hi⟩,hk⟩:=h
  have hS:L.list.length≤maxLen:=ho1.2.1.1
  refine .eq (bitmap_round pan _ _ k i x L) ?_
  refine bd (fun hlt=>dt ⟨h0,by omega⟩ ?_) (fun hlt=>?_)
  ·rw [drop_at (by omega),hasR,findR] at hk
   have hw:IntKind.wrap .i64 (i.int + 1)=i.int + 1:=i64_in (by omega) (by unfold maxLen at hS;omega)
   have hc:(i.int + 1).toNat=i.int.toNat + 1:=by omega
   have hlt':((L.list.length:Int) - (i.int + 1)).toNat < ((L.list.length:Int) - i.int).toNat:=by omega
   simp only [U.at,e0] at hk
   simp only [nth_tail,nth_drop,Nat.zero_add,Nat.add_zero,hw,hc,ByteArray.toList_eq]
   refine bi (fun h1=>?_) (fun h1=>?_)
   ·rw [h1] at hk
    simp only [Bool.true_or,cond_true,← hs] at hk
    exact hk
   ·rw [h1] at hk
    exact blt hlt' ⟨⟨by trivial,by trivial,by omega,by omega⟩,hk⟩
  ·rw [List.drop_of_length_le (by omega)] at hk
   exact hk
 ·exact h.elim
theorem shot_ok:SpecF PR 34 shotS:=fun fn us hfn=>by
 have hf:PR.funcs[(34:Nat)]? = some Try.f34:=by kernel_rfl
 rw [hf] at hfn;cases hfn
 refine fn_okH (C:=shotC) (mkC_ok eqs0_ok mixed_ok .nil .nil) hf (by kernel_rfl) (loops_one (by kernel_rfl) shot_loop) fun hok=>?_
 have hp:Try.f34.params.toList=[41,9]:=by kernel_rfl
 rw [hp] at hok
 obtain ⟨c,sz,bk,T,S,M,Q,x,hus⟩:∃ c sz bk T S M Q x,us=[[c,sz,bk,T,S,M,Q],[x]]:=by
  obtain ⟨u,u2,rfl,h1,h2⟩:=shape2 (by kernel_rfl:Cs PR 41=some (true,[.int .i64,.int .i64,.str,.sl false [.sl true EC],.sl true SC,.sl true BC,.sl false [.int .i64]])) (by kernel_rfl:Cs PR 9=some (false,[.str])) hok.1
  obtain ⟨c,sz,bk,T,S,M,Q,rfl⟩:=len7 h1
  obtain ⟨x,rfl⟩:=len1 h2
  exact ⟨c,sz,bk,T,S,M,Q,x,rfl⟩
 subst hus
 refine .eq (shot_tree _ _ _ _ _ _ _ _ _) ?_
 unfold shotS
 simp only [nth_zero,nth_succ]
 simp only [Int.toNat_zero,List.drop_zero]
 refine ⟨⟨by trivial,by trivial,by trivial,by trivial,by trivial,by trivial,by omega,by omega⟩,bi (fun _=>?_) (fun h=>?_)⟩
 ·trivial
 ·rw [findR_not h]
theorem bitmap_ok:SpecF PR 35 bitmapS:=fun fn us hfn=>by
 have hf:PR.funcs[(35:Nat)]? = some Try.f35:=by kernel_rfl
 rw [hf] at hfn;cases hfn
 refine fn_okH (C:=bitmapC) (mkC_ok eqs0_ok mixed_ok .nil .nil) hf (by kernel_rfl) (loops_one (by kernel_rfl) bitmap_loop) fun hok=>?_
 have hp:Try.f35.params.toList=[38,9]:=by kernel_rfl
 rw [hp] at hok
 obtain ⟨L,x,hus⟩:∃ L x,us=[[L],[x]]:=by
  obtain ⟨u,u2,rfl,h1,h2⟩:=shape2 (by kernel_rfl:Cs PR 38=some (false,[.sl true BC])) (by kernel_rfl:Cs PR 9=some (false,[.str])) hok.1
  obtain ⟨L,rfl⟩:=len1 h1
  obtain ⟨x,rfl⟩:=len1 h2
  exact ⟨L,x,rfl⟩
 subst hus
 refine .eq (bitmap_tree _ _ _) ?_
 unfold bitmapS
 simp only [nth_zero,nth_succ]
 simp only [Int.toNat_zero,List.drop_zero]
 refine ⟨⟨by trivial,by trivial,by omega,by omega⟩,bi (fun _=>?_) (fun h=>?_)⟩
 ·trivial
 ·rw [findR_not h]
theorem shr_inu {n c:Int} (h:0≤c) (h':c≤6):Int.fdiv n (2 ^ min (IntKind.wrap .u64 c).toNat (IntKind.bits .i64))=n / 2 ^ c.toNat:=by
 rw [u64_in h (by omega),shr_in h h']
theorem bnf {a b:Int} (h:(a != b)=true):(a == b)=false:=nt h
theorem bnt {a b:Int} (h:(a != b)=false):(a == b)=true:=nf h
theorem rshots_loop:LoopOk rmetaC 0 (loopBody Try.f14 0):=by
 refine loopOk_of (F:=rmetaLoop0) (ts:=[3,1]) (os:=[128]) rfl (fun svs os=>match svs,os with | .val _ i :: _,[.box (_ :: _ :: _ :: _ :: .val _ S :: _)]=>((S.list.length:Int) - i.int).toNat | _,_=>0) ?_
 intro pan svs os k ho1 ho2 h
 unfold rmetaLoop0 at h
 split at h
 ·rename_i i pp po c sz bk x1 T x2 S x3 M Q
  obtain ⟨⟨rfl,rfl,rfl,rfl,rfl,hS,h0,hi,hc0,hc6⟩,hk⟩:=h
  refine .eq (rshots_round pan _ _ k i c sz bk T S M Q) ?_
  refine bd (fun hlt=>dt ⟨h0,by omega⟩ ?_) (fun hlt=>?_)
  ·rw [drop_at (by omega),rshotsR] at hk
   simp only [U.at,e0,e1,e2] at hk
   have hw:IntKind.wrap .i64 (i.int + 1)=i.int + 1:=i64_in (by omega) (by omega)
   have hc:(i.int + 1).toNat=i.int.toNat + 1:=by omega
   have hlt':((S.list.length:Int) - (i.int + 1)).toNat < ((S.list.length:Int) - i.int).toNat:=by omega
   simp only [nth_tail,Nat.zero_add,Nat.reduceAdd,hw,hc,shr_inu hc0 hc6]
   generalize nth (U.i 0) S.list i.int.toNat=s at hk ⊢
   refine bi (fun h1=>?_) (fun h1=>bi (fun h2=>?_) (fun h2=>⟨⟨by simpa using hc0,by simpa using hc6⟩,bi (fun h3=>?_) (fun h3=>df (by rw [u64_in hc0 (by omega)];omega) (bi (fun h4=>?_) (fun h4=>?_)))⟩))
   ·rw [nt h1] at hk;exact hk
   ·rw [nf h1,bnf h2] at hk;exact hk
   ·rw [nf h1,bnt h2,nt h3] at hk;exact hk
   ·rw [nf h1,bnt h2,nf h3,nt h4] at hk;exact hk
   ·rw [nf h1,bnt h2,nf h3,nf h4] at hk
    exact blt hlt' ⟨⟨by trivial,by trivial,by trivial,by trivial,by trivial,hS,by omega,by omega,hc0,hc6⟩,hk⟩
  ·rw [List.drop_of_length_le (by omega)] at hk
   exact hk
 ·exact h.elim
theorem rmaps_loop:LoopOk rmetaC 2 (loopBody Try.f14 1):=by
 refine loopOk_of (F:=rmetaLoop2) (ts:=[5,1]) (os:=[128]) rfl (fun svs os=>match svs,os with | .val _ i :: _,[.box (_ :: _ :: _ :: _ :: _ :: .val _ M :: _)]=>((M.list.length:Int) - i.int).toNat | _,_=>0) ?_
 intro pan svs os k ho1 ho2 h
 unfold rmetaLoop2 at h
 split at h
 ·rename_i i pp po c sz bk x1 T x2 S x3 M Q
  obtain ⟨⟨rfl,rfl,rfl,rfl,rfl,hM,h0,hi⟩,hk⟩:=h
  have hlen:∀ j,j < M.list.length→(nth (.i 0) (nth (.i 0) M.list j).list 2).list.length≤maxLen:=fun j hj=>by
   have h2:=(ho2.1.2.2.2.2.2.1.2 j hj).2.2.1.1
   simpa [U.at,elemU] using h2
  refine .eq (rmaps_round pan _ _ k i c sz bk T S M Q) ?_
  refine bd (fun hlt=>dt ⟨h0,by omega⟩ ?_) (fun hlt=>?_)
  ·have hl:=hlen i.int.toNat (by omega)
   rw [drop_at (by omega),rmapsR] at hk
   simp only [U.at,e0,e1,e2] at hk
   have hw:IntKind.wrap .i64 (i.int + 1)=i.int + 1:=i64_in (by omega) (by omega)
   have hc:(i.int + 1).toNat=i.int.toNat + 1:=by omega
   have hlt':((M.list.length:Int) - (i.int + 1)).toNat < ((M.list.length:Int) - i.int).toNat:=by omega
   simp only [nth_tail,nth_drop,Nat.zero_add,Nat.add_zero,Nat.reduceAdd,hw,hc]
   generalize nth (U.i 0) M.list i.int.toNat=s at hk hl ⊢
   generalize (nth (U.i 0) s.list 2).list=l at hk hl ⊢
   have hw1:0 < l.length→IntKind.wrap .i64 ((l.length:Int) - 1)=(l.length:Int) - 1:=fun h=>i64_in (by omega) (by unfold maxLen at hl;omega)
   refine bi (fun h1=>?_) (fun h1=>bi (fun h2=>?_) (fun h2=>bi (fun h3=>?_) (fun h3=>bd (fun h4=>?_) (fun h4=>?_))))
   ·rw [nt h1] at hk;exact hk
   ·rw [nf h1,bnf h2] at hk;exact hk
   ·rw [nf h1,bnt h2,nt h3] at hk;exact hk
   ·rw [hw1 (by omega)]
    have hj:((l.length:Int) - 1).toNat=l.length - 1:=by omega
    refine dt (by omega) (bd (fun h5=>?_) (fun h5=>?_))
    ·rw [hj] at h5
     rw [nf h1,bnt h2,nf h3,lastR,decide_eq_true (show 0 < l.length by omega)] at hk
     simp only [U.at,e1] at hk
     rw [decide_eq_false (by omega)] at hk
     exact hk
    ·rw [hj] at h5
     rw [nf h1,bnt h2,nf h3,lastR,decide_eq_true (show 0 < l.length by omega)] at hk
     simp only [U.at,e1] at hk
     rw [decide_eq_true (by omega)] at hk
     exact blt hlt' ⟨⟨by trivial,by trivial,by trivial,by trivial,by trivial,hM,by omega,by omega⟩,hk⟩
   ·rw [nf h1,bnt h2,nf h3,lastR,decide_eq_false (show ¬ 0 < l.length by omega)] at hk
    exact blt hlt' ⟨⟨by trivial,by trivial,by trivial,by trivial,by trivial,hM,by omega,by omega⟩,hk⟩
  ·rw [List.drop_of_length_le (by omega)] at hk
   exact hk
 ·exact h.elim
theorem rcounts_loop:LoopOk rmetaC 4 (loopBody Try.f14 2):=by
 refine loopOk_of (F:=rmetaLoop4) (ts:=[7,1]) (os:=[128]) rfl (fun svs os=>match svs,os with | .val _ i :: _,[.box (_ :: _ :: _ :: _ :: _ :: _ :: .val _ Q :: _)]=>((Q.list.length:Int) - i.int).toNat | _,_=>0) ?_
 intro pan svs os k ho1 ho2 h
 unfold rmetaLoop4 at h
 split at h
 ·rename_i i pp po c sz bk x1 T x2 S x3 M Q
  obtain ⟨⟨rfl,rfl,rfl,rfl,rfl,hQ,h0,hi⟩,hk⟩:=h
  refine .eq (rcounts_round pan _ _ k i c sz bk T S M Q) ?_
  refine bd (fun hlt=>dt ⟨h0,by omega⟩ ?_) (fun hlt=>?_)
  ·rw [drop_at (by omega),countsR] at hk
   simp only [U.at] at hk
   have hw:IntKind.wrap .i64 (i.int + 1)=i.int + 1:=i64_in (by omega) (by omega)
   have hc:(i.int + 1).toNat=i.int.toNat + 1:=by omega
   have hlt':((Q.list.length:Int) - (i.int + 1)).toNat < ((Q.list.length:Int) - i.int).toNat:=by omega
   simp only [hw,hc]
   refine bd (fun h1=>?_) (fun h1=>dt ⟨h0,by omega⟩ (bd (fun h2=>?_) (fun h2=>?_)))
   ·rw [decide_eq_false (by omega)] at hk;exact hk
   ·rw [decide_eq_true (show 0≤(nth (U.i 0) Q.list i.int.toNat).int by omega),decide_eq_false (by omega)] at hk;exact hk
   ·rw [decide_eq_true (show 0≤(nth (U.i 0) Q.list i.int.toNat).int by omega),decide_eq_true (by omega)] at hk
    exact blt hlt' ⟨⟨by trivial,by trivial,by trivial,by trivial,by trivial,hQ,by omega,by omega⟩,hk⟩
  ·rw [List.drop_of_length_le (by omega)] at hk
   exact hk
 ·exact h.elim
theorem rmetaR_iff (c sz bk T S M Q:U):rmetaR c sz bk T S M Q=true↔0≤c.int∧c.int≤6∧sizeR sz.int c.int=true∧backR bk.str=true∧S.list.length≤8∧M.list.length≤8∧Q.list.length≤65536∧rtableR T.list (sz.int / 2 ^ c.int.toNat) c.int=true∧rshotsR c.int S.list 0 S.list=true∧rmapsR M.list 0 M.list=true∧countsR Q.list=true:=by
 simp only [rmetaR,Bool.and_eq_true,decide_eq_true_eq,and_assoc]
theorem rmeta_neg {c sz bk T S M Q:U} (h:(0≤c.int∧c.int≤6∧sizeR sz.int c.int=true∧backR bk.str=true∧S.list.length≤8∧M.list.length≤8∧Q.list.length≤65536∧rtableR T.list (sz.int / 2 ^ c.int.toNat) c.int=true∧rshotsR c.int S.list 0 S.list=true∧rmapsR M.list 0 M.list=true∧countsR Q.list=true)→False):([[U.b false]]:List (List U))=[[.b (rmetaR c sz bk T S M Q)]]:=by
 rw [show rmetaR c sz bk T S M Q=false from Bool.eq_false_iff.2 fun h'=>h ((rmetaR_iff ..).1 h')]
theorem rmeta_ok:SpecF PR 14 rmetaS:=fun fn us hfn=>by
 have hf:PR.funcs[(14:Nat)]? = some Try.f14:=by kernel_rfl
 rw [hf] at hfn;cases hfn
 refine fn_okH (C:=rmetaC) (mkC_ok eqs0_ok mixed_ok (.consP sized_ok (.cons rname_ok (.cons rtab_ok (.cons rspans_ok (.cons shot_ok (.cons bitmap_ok .nil)))))) .nil) hf (by kernel_rfl) (loops_three (by kernel_rfl) rshots_loop rmaps_loop rcounts_loop) fun hok=>?_
 have hp:Try.f14.params.toList=[41]:=by kernel_rfl
 rw [hp] at hok
 obtain ⟨c,sz,bk,T,S,M,Q,hus⟩:∃ c sz bk T S M Q,us=[[c,sz,bk,T,S,M,Q]]:=by
  obtain ⟨u,rfl,h1⟩:=shape1 (by kernel_rfl:Cs PR 41=some (true,[.int .i64,.int .i64,.str,.sl false [.sl true EC],.sl true SC,.sl true BC,.sl false [.int .i64]])) hok.1
  obtain ⟨c,sz,bk,T,S,M,Q,rfl⟩:=len7 h1
  exact ⟨c,sz,bk,T,S,M,Q,rfl⟩
 subst hus
 refine .eq (rmeta_tree _ _ _ _ _ _ _ _) ?_
 unfold rmetaS
 simp only [nth_zero,nth_succ]
 have eb:(ByteArray.toList bk.str == ByteArray.toList { data:=#[] })=(bk.str.data.toList == []):=by rw [ByteArray.toList_eq,ByteArray.toList_eq]
 rw [eb]
 refine bd (fun h=>rmeta_neg fun h'=>by omega) (fun hc0=>bd (fun h=>rmeta_neg fun h'=>by omega) (fun hc6=>⟨⟨by simpa using hc0,by simpa using hc6⟩,bi (fun h=>rmeta_neg fun h'=>fls h h'.2.2.1) (fun hs=>?_)⟩))
 replace hc0:0≤c.int:=by omega
 replace hc6:c.int≤6:=by omega
 simp only [shr_inu hc0 hc6,Int.toNat_zero,List.drop_zero]
 refine bi (fun hb=>bi (fun hb2=>rmeta_neg fun h'=>?_) (fun hb2=>?_)) (fun hb=>?_)
 ·have:=h'.2.2.2.1
  rw [backR,nt hb,nt hb2] at this;cases this
 all_goals
  have hbk:backR bk.str=true:=by
   rw [backR]
   first | rw [nf hb2,Bool.or_true] | rw [nf hb,Bool.true_or]
  refine bd (fun h=>rmeta_neg fun h'=>by omega) (fun h8=>bd (fun h=>rmeta_neg fun h'=>by omega) (fun h9=>bd (fun h=>rmeta_neg fun h'=>by omega) (fun h10=>?_)))
  refine df (by rw [u64_in hc0 (by omega)];omega) (bi (fun h=>rmeta_neg fun h'=>fls h h'.2.2.2.2.2.2.2.1) (fun ht=>?_))
  refine ⟨⟨by trivial,by trivial,by trivial,by trivial,by trivial,by omega,by omega,by omega,hc0,hc6⟩,bi (fun h11=>?_) (fun h=>rmeta_neg fun h'=>flf h h'.2.2.2.2.2.2.2.2.1)⟩
  refine ⟨⟨by trivial,by trivial,by trivial,by trivial,by trivial,by omega,by omega,by omega⟩,bi (fun h12=>?_) (fun h=>rmeta_neg fun h'=>flf h h'.2.2.2.2.2.2.2.2.2.1)⟩
  refine ⟨⟨by trivial,by trivial,by trivial,by trivial,by trivial,by omega,by omega,by omega⟩,bi (fun h13=>?_) (fun h=>rmeta_neg fun h'=>flf h h'.2.2.2.2.2.2.2.2.2.2)⟩
  refine ubi ?_
  rw [rmetaR_iff]
  exact ⟨fun _=>⟨hc0,hc6,nf hs,hbk,by omega,by omega,by omega,nf ht,h11,h12,h13⟩,fun _=>rfl⟩
end Go.Mat

namespace Go.Mat
open Go Go.Den Go.Proofs
theorem hasR_app (x:U):∀ p q:List U,hasR x (p ++ q)=(hasR x p || hasR x q)
 | [],q=>rfl
 | s :: r,q=>by rw [List.cons_append,hasR,hasR,hasR_app x r q,Bool.or_assoc]
theorem findR_app (x:U):∀ (p q:List U) (i:Int),hasR x p=false→findR x i (p ++ q)=findR x (i + p.length) q
 | [],q,i,_=>by simp
 | s :: r,q,i,h=>by
  rw [hasR,Bool.or_eq_false_iff] at h
  rw [List.cons_append,findR,h.1,cond_false,findR_app x r q _ h.2]
  congr 1;simp;omega
theorem findR_lt (x:U):∀ (p q:List U) (i:Int),hasR x p=true→findR x i (p ++ q) < i + p.length
 | s :: r,q,i,h=>by
  rw [List.cons_append,findR]
  cases hc:(e0 s).str.data.toList == x.str.data.toList with
  | true=>simp;omega
  | false=>
   rw [hasR,hc,Bool.false_or] at h
   have:=findR_lt x r q (i + 1) h
   simp only [cond_false,List.length_cons];omega
theorem findR_at (s:U) (p q:List U):(findR (e0 s) 0 (p ++ s :: q) == (p.length:Int)) = !hasR (e0 s) p:=by
 cases h:hasR (e0 s) p with
 | true=>have:=findR_lt (e0 s) p (s :: q) 0 h;simp;omega
 | false=>rw [findR_app _ _ _ _ h,findR];simp
theorem ueq_iff (a b:U):ueq .str a b=true↔a.str.data.toList=b.str.data.toList:=by simp [ueq]
theorem mhas_mput (y x v:U):∀ es:List (U × U),mhas .str y (mput .str x v es)=(mhas .str y es || ueq .str y x)
 | []=>by simp [mput,mhas]
 | (a,z) :: r=>by
  unfold mput
  cases hu:ueq .str x a with
  | true=>
   have h1:=(ueq_iff _ _).1 hu
   have h2:ueq .str y a=ueq .str y x:=by rw [Bool.eq_iff_iff,ueq_iff,ueq_iff,h1]
   simp only [cond_true,mhas,h2]
   cases ueq .str y x<;>simp
  | false=>simp only [cond_false,mhas,mhas_mput y x v r,Bool.or_assoc]
theorem ueq_has (y s:U):ueq .str y (e0 s)=((e0 s).str.data.toList == y.str.data.toList):=by
 rw [Bool.eq_iff_iff,ueq_iff,beq_iff_eq];exact eq_comm
theorem keys_step {es:List (U × U)} {p:List U} {s:U} (h:∀ x,mhas .str x es=hasR x p):∀ x,mhas .str x (mput .str (e0 s) (.i 1) es)=hasR x (p ++ [s]):=fun x=>by
 rw [mhas_mput,hasR_app,h x,ueq_has];simp [hasR]
theorem rshotsR_eq {c:Int} {S:List U}:∀ (r p:List U) (es:List (U × U)),S=p ++ r→(∀ x,mhas .str x es=hasR x p)→
  (∀ s ∈ r,rtableR (e2 s).list ((e1 s).int / 2 ^ c.toNat) c=tableR (e2 s).list ((e1 s).int / 2 ^ c.toNat) c)→rshotsR c S p.length r=(shotsR c r && unlikeR es (r.map e0))
 | [],_,_,_,_,_=>rfl
 | s :: r,p,es,hS,hk,ht=>by
  have hr:=rshotsR_eq (c:=c) (S:=S) r (p ++ [s]) _ (by rw [hS];simp) (keys_step (s:=s) hk) fun s hs=>ht s (by simp [hs])
  have hl:(((p ++ [s]).length:Nat):Int)=(p.length:Int) + 1:=by simp
  rw [hl] at hr
  rw [rshotsR,hr,shotsR,List.map_cons,unlikeR,ht s (by simp),hk (e0 s)]
  have hf:(findR (e0 s) 0 S == (p.length:Int)) = !hasR (e0 s) p:=by rw [hS];exact findR_at s p r
  rw [hf]
  cases nameR (e0 s).str<;>cases hasR (e0 s) p<;>cases sizeR (e1 s).int c<;>cases tableR (e2 s).list ((e1 s).int / 2 ^ c.toNat) c<;>simp
theorem rmapsR_eq {M:List U}:∀ (r p:List U) (es:List (U × U)),M=p ++ r→(∀ x,mhas .str x es=hasR x p)→rmapsR M p.length r=(mapsR r && unlikeR es (r.map e0))
 | [],_,_,_,_=>rfl
 | s :: r,p,es,hS,hk=>by
  have hr:=rmapsR_eq (M:=M) r (p ++ [s]) _ (by rw [hS];simp) (keys_step (s:=s) hk)
  have hl:(((p ++ [s]).length:Nat):Int)=(p.length:Int) + 1:=by simp
  rw [hl] at hr
  rw [rmapsR,hr,mapsR,List.map_cons,unlikeR,hk (e0 s)]
  have hf:(findR (e0 s) 0 M == (p.length:Int)) = !hasR (e0 s) p:=by rw [hS];exact findR_at s p r
  rw [hf]
  cases nameR (e0 s).str<;>cases hasR (e0 s) p<;>cases spansR (-1) (e2 s).list<;>cases lastR (e2 s).list<;>simp
theorem rmetaR_eq {c sz bk T S M Q:U} (hT:T.list.length≤1099511627776) (hS:∀ s ∈ S.list,(e2 s).list.length≤1099511627776):rmetaR c sz bk T S M Q=metaR c sz bk T S M Q:=by
 have h1:=rshotsR_eq (c:=c.int) (S:=S.list) S.list [] [] (by simp) (fun _=>rfl) fun s hs=>(rtableR_eq (hS s hs)).symm
 have h2:=rmapsR_eq (M:=M.list) M.list [] [] (by simp) (fun _=>rfl)
 simp only [List.length_nil,Int.natCast_zero] at h1 h2
 rw [rmetaR,metaR,show rshotsR c.int S.list 0 S.list=_ from h1,show rmapsR M.list 0 M.list=_ from h2,← rtableR_eq hT]
 ac_rfl
end Go.Mat

namespace Go.Mat
def crcP:BitVec 32:=0x82f63b78#32
def crcStep (c:BitVec 32):BitVec 32:=if c.getLsbD 0 then (c >>> 1) ^^^ crcP else c >>> 1
theorem crcStep_xor (x y:BitVec 32):crcStep (x ^^^ y)=crcStep x ^^^ crcStep y:=by
 unfold crcStep
 rw [BitVec.getLsbD_xor,BitVec.ushiftRight_xor_distrib]
 cases x.getLsbD 0<;>cases y.getLsbD 0<;>simp
 ·rw [BitVec.xor_assoc]
 ·rw [BitVec.xor_assoc (x >>> 1) crcP,BitVec.xor_comm crcP,BitVec.xor_assoc]
 ·rw [BitVec.xor_assoc,BitVec.xor_comm crcP,BitVec.xor_assoc (y >>> 1),BitVec.xor_self,BitVec.xor_zero]
def crc4 (c:BitVec 32):BitVec 32:=crcStep (crcStep (crcStep (crcStep c)))
theorem crc4_xor (x y:BitVec 32):crc4 (x ^^^ y)=crc4 x ^^^ crc4 y:=by
 unfold crc4
 simp only [crcStep_xor]
theorem crc15:∀ i,i < 32→(15#32).getLsbD i=decide (i < 4):=by decide
theorem crc_split (c:BitVec 32):c=(c &&& 15#32) ^^^ ((c >>> 4) <<< 4):=by
 refine BitVec.eq_of_getLsbD_eq fun i hi=>?_
 rw [BitVec.getLsbD_xor,BitVec.getLsbD_and,crc15 i hi,BitVec.getLsbD_shiftLeft,BitVec.getLsbD_ushiftRight]
 by_cases h:i < 4
 ·simp [h,hi]
 ·simp [h,hi,show 4 + (i - 4)=i by omega]
theorem crcStep_even {c:BitVec 32} (h:c.getLsbD 0=false):crcStep c=c >>> 1:=by
 unfold crcStep
 rw [h]
 rfl
theorem crc4_high (z:BitVec 32):crc4 (z <<< 4)=(z <<< 4) >>> 4:=by
 unfold crc4
 rw [crcStep_even (c:=z <<< 4) (by simp),crcStep_even (c:=(z <<< 4) >>> 1) (by simp),crcStep_even (c:=((z <<< 4) >>> 1) >>> 1) (by simp),crcStep_even (c:=(((z <<< 4) >>> 1) >>> 1) >>> 1) (by simp)]
 simp only [← BitVec.shiftRight_add]
theorem crc4_tab (c:BitVec 32):crc4 c=crc4 (c &&& 15#32) ^^^ (c >>> 4):=by
 conv=>lhs;rw [crc_split c,crc4_xor,crc4_high]
 congr 1
 refine BitVec.eq_of_getLsbD_eq fun i hi=>?_
 rw [BitVec.getLsbD_ushiftRight,BitVec.getLsbD_shiftLeft,BitVec.getLsbD_ushiftRight,BitVec.getLsbD_ushiftRight]
 simp
 intro h
 refine Decidable.byContradiction fun hn=>?_
 rw [BitVec.getLsbD_of_ge _ _ (by omega)] at h
 cases h
end Go.Mat

namespace Go.Mat
open Go Go.Den
theorem u32_bv (c:BitVec 32):IntKind.wrap .u32 (c.toNat:Int)=(c.toNat:Int):=by
 have:=c.isLt
 simp only [IntKind.wrap,IntKind.bits,IntKind.signed]
 simp
 omega
theorem bv_of {h:Int} (h0:0≤h) (h1:h < 4294967296):((BitVec.ofInt 32 h).toNat:Int)=h:=by
 rw [BitVec.toNat_ofInt]
 have:h % ((2 ^ 32:Nat):Int)=h:=Int.emod_eq_of_lt h0 (by simpa using h1)
 rw [this]
 omega
theorem bv_shr {h:Int} (h0:0≤h) (h1:h < 4294967296) (n:Nat):Int.fdiv h (2 ^ n)=((BitVec.ofInt 32 h >>> n).toNat:Int):=by
 rw [BitVec.toNat_ushiftRight,Nat.shiftRight_eq_div_pow,Int.fdiv_eq_ediv_of_nonneg _ (Int.pow_nonneg (by decide)),Int.natCast_ediv,bv_of h0 h1]
 norm_cast
def stepI (h:Int):Int:=((crcStep (BitVec.ofInt 32 h)).toNat:Int)
theorem stepI_in (h:Int):0≤stepI h∧stepI h < 4294967296:=by
 have:=(crcStep (BitVec.ofInt 32 h)).isLt
 unfold stepI
 omega
end Go.Mat

namespace Go.Mat
open Go Go.Den Go.Proofs
abbrev vw (n:U):SV:=.val (.int .u32) n
def stepsI:Nat→Int→Int
 | 0,h=>h
 | n + 1,h=>stepsI n (stepI h)
def byteI (h x:Int):Int:=stepsI 8 (IntKind.wrap .u32 (BitVec.toNat (BitVec.ofInt 32 h ^^^ BitVec.ofInt 32 (IntKind.wrap .u32 x)):Int))
def bytesI (h:Int):List U→Int
 | []=>h
 | x :: r=>bytesI (byteI h x.int) r
def sumI (s:Int) (b:List U):Int:=compl .u32 (bytesI (compl .u32 s) b)
def moreS:List (List U)→List (List U):=fun us=>[[.i (sumI (nth (.i 0) (nth [] us 0) 0).int (nth (.i 0) (nth [] us 1) 0).list)]]
def sumS:List (List U)→List (List U):=fun us=>[[.i (sumI 0 (nth (.i 0) (nth [] us 0) 0).list)]]
end Go.Mat

namespace Go.Mat
open Go Go.Den Go.Proofs
set_option maxRecDepth 100000
theorem stepsI_in:∀ (n:Nat) {h:Int},0≤h∧h < 4294967296→0≤stepsI n h∧stepsI n h < 4294967296
 | 0,_,hh=>hh
 | n + 1,h,_=>stepsI_in n (stepI_in h)
theorem w32_in (x:Int):0≤IntKind.wrap .u32 x∧IntKind.wrap .u32 x < 4294967296:=by
 simp only [IntKind.wrap,IntKind.bits,IntKind.signed]
 simp
 omega
theorem compl_in (x:Int):0≤compl .u32 x∧compl .u32 x < 4294967296:=w32_in _
theorem byteI_in (h x:Int):0≤byteI h x∧byteI h x < 4294967296:=stepsI_in 8 (w32_in _)
theorem more_args {us:List (List U)} (h:shapeOk PR [22,25] us):∃ s b,us=[[s],[b]]:=by
 obtain ⟨u,u2,rfl,h1,h2⟩:=shape2 (by kernel_rfl:Cs PR 22=some (false,[.int .u32])) (by kernel_rfl:Cs PR 25=some (false,[.sl false [.int .u8]])) h
 obtain ⟨a,rfl⟩:=len1 h1
 obtain ⟨b,rfl⟩:=len1 h2
 exact ⟨a,b,rfl⟩
theorem bytes_args {us:List (List U)} (h:shapeOk PR [25] us):∃ b,us=[[b]]:=by
 obtain ⟨u,rfl,h1⟩:=shape1 (by kernel_rfl:Cs PR 25=some (false,[.sl false [.int .u8]])) h
 obtain ⟨a,rfl⟩:=len1 h1
 exact ⟨a,rfl⟩
end Go.Mat

namespace Go.Mat
open Go Go.Proofs
set_option maxRecDepth 100000
set_option maxHeartbeats 1600000
theorem sn_disable (w:World):(callFunc 91 #[]).run Try.prog w = .ok (.value (.tuple #[])) w:=run_call_mark0 Try.func91 (by kernel_rfl) (by kernel_rfl) (by kernel_rfl) .disable (by kernel_rfl) w
theorem sn_enable (w:World):(callFunc 93 #[]).run Try.prog w = .ok (.value (.tuple #[])) w:=run_call_mark0 Try.func93 (by kernel_rfl) (by kernel_rfl) (by kernel_rfl) .enable (by kernel_rfl) w
theorem sn_acquire (a:Addr) (w:World):(callFunc 94 #[.pointer (some a)]).run Try.prog w = .ok (.value (.tuple #[])) w:=run_call_marked Try.func94 (by kernel_rfl) (by kernel_rfl) (by kernel_rfl) .acquire (by kernel_rfl) a w
theorem sn_merge (a:Addr) (w:World):(callFunc 96 #[.pointer (some a)]).run Try.prog w = .ok (.value (.tuple #[])) w:=run_call_marked Try.func96 (by kernel_rfl) (by kernel_rfl) (by kernel_rfl) .releaseMerge (by kernel_rfl) a w
theorem sn_store (a:Addr) (x:Value) (u:FrameMode) (w:World) (hc:w.cell? a=some x) (hz:w.frozen? a=false) :
  CallsD Try.prog 86 #[.pointer (some a),.bool true] u w fun e u' w'=>u' = u∧(e = .returned (.tuple #[])∧w' = w.drew.setCell a (.int .u32 1)):=by
 have hc':w.drew.cell? a=some x:=by go_simp
 have hz':w.drew.frozen? a=false:=by go_simp
 have hst:=run_call_store (P:=Try.prog) Try.func89 (by kernel_rfl) (by kernel_rfl) (by kernel_rfl) (by kernel_rfl) (k:=.u32) (y:=1) hc' hz'
 go_enter_d Try.func86,Try.ntmps86
 go_wp2
 go_region_calls
 all_goals (go_end0;exact ⟨rfl,rfl⟩)
theorem sn_unlock (a:Addr) (u:FrameMode) (w:World) (hc:w.cell? a=some (.int .i32 1)) (hz:w.frozen? a=false) :
  CallsD Try.prog 85 #[.pointer (some a)] u w fun e u' w'=>u' = u∧(e = .returned (.tuple #[])∧w' = w.setCell a (.int .i32 0)):=by
 have hd:=sn_disable
 have he:=sn_enable
 have hr:=sn_merge
 have hadd:=run_call_add (P:=Try.prog) Try.func97 (by kernel_rfl) (by kernel_rfl) (by kernel_rfl) .i32 (by kernel_rfl) (y:=-1) (s:=0) hc hz (by simp [go_sem];rfl)
 have hcv:=run_convert_to_unsafe (P:=Try.prog) (src:=148) (dst:=152) Try.underlying148 Try.underlying152 (by kernel_rfl) hc
 go_enter_d Try.func85,Try.ntmps85
 go_wp2
 go_end0
 go_wp2
 go_end0
 exact ⟨rfl,rfl⟩
theorem sn_lock (a:Addr) (w:World) (hc:w.cell? a=some (.int .i32 0)) (hz:w.frozen? a=false) :
  Calls Try.prog 84 #[.pointer (some a)] w fun e w'=>e = .returned (.tuple #[])∧w' = w.setCell a (.int .i32 1):=by
 have hd:=sn_disable
 have he:=sn_enable
 have ha:=sn_acquire
 have hcas:=run_call_cas_hit (P:=Try.prog) Try.func92 (by kernel_rfl) (by kernel_rfl) (by kernel_rfl) .i32 (by kernel_rfl) (y:=1) hc hz
 have hc':(w.setCell a (.int .i32 1)).cell? a=some (.int .i32 1):=World.cell?_setCell_same w a _ hc
 have hcv:=run_convert_to_unsafe (P:=Try.prog) (src:=148) (dst:=152) Try.underlying148 Try.underlying152 (by kernel_rfl) hc'
 go_enter Try.func84,Try.ntmps84
 go_wp2
 first | go_end0 | (simp only [Exit.inBlock,Exit.then];refine bodyPost_ret (results_none rfl _ _ _) rfl ?_) | refine bodyPost_ret (results_none rfl _ _ _) rfl ?_
 go_wp2
 go_end0
 exact ⟨rfl,rfl⟩
end Go.Mat

namespace Go.Mat
open Go Go.Proofs Go.RowKit
set_option maxRecDepth 100000
set_option maxHeartbeats 1600000
def tabW (b off:Nat) (v:Nat→Value):Nat→World→World
 | 0,w=>w
 | k + 1,w=>(tabW b off v k w).setCell ⟨b,off + 3 + k,none⟩ (v k)
def stepW:Nat→Nat→Int
 | 0,k=>k
 | n + 1,k=>stepI (stepW n k)
theorem st_odd:∀ n,n < 4→∀ k,k < 16→(bits .and .u32 (stepW n k) 1 == 1)=true→bits .xor .u32 (stepW n k / 2) 2197175160=stepW (n + 1) k:=by decide
theorem st_even:∀ n,n < 4→∀ k,k < 16→(bits .and .u32 (stepW n k) 1 == 1)=false→stepW n k / 2=stepW (n + 1) k:=by decide
theorem tab_other {b off:Nat} {v:Nat→Value} {w:World} {a:Addr}:∀ {k:Nat},(∀ j,j < k→(⟨b,off + 3 + j,none⟩:Addr)≠a)→(tabW b off v k w).cell? a=w.cell? a
 | 0,_=>rfl
 | k + 1,h=>by
  rw [tabW,World.cell?_setCell_other _ _ _ _ (h k (by omega)),tab_other fun j hj=>h j (by omega)]
theorem tab_frozen {b off:Nat} {v:Nat→Value} {w:World} {a:Addr}:∀ {k:Nat},(tabW b off v k w).frozen? a=w.frozen? a
 | 0=>rfl
 | k + 1=>by rw [tabW];simp [tab_frozen (k:=k)]
theorem sn_clo (b off:Nat) (pl:Addr) (hpb:¬ b=pl.block) (w:World) (hp:w.cell? pl=some (.pointer (some ⟨b,off,none⟩)))
  (hc:∀ k,k < 16→∃ x,w.cell? ⟨b,off + 3 + k,none⟩=some x) (hz:∀ k,k < 16→w.frozen? ⟨b,off + 3 + k,none⟩=false) :
  Calls Try.prog 78 #[.pointer (some pl)] w fun e w'=>e = .returned (.tuple #[])∧w' = tabW b off (fun k=>.int .u32 (stepW 4 k)) 16 w:=by
 go_enter Try.func78,Try.ntmps78
 go_wp2
 go_loopw [4] (fun i wr=>∃ k:Nat,k≤16∧i = .int .i64 k∧wr=tabW b off (fun k=>.int .u32 (stepW 4 k)) k w) (fun i _=>16 - (intOf i).toNat)
 case atStart=>exact ⟨0,Nat.zero_le _,rfl,rfl⟩
 case round=>
  obtain ⟨k,hk,rfl,rfl⟩:=hrel
  have hp':(tabW b off (fun k=>.int .u32 (stepW 4 k)) k w).cell? pl=some (.pointer (some ⟨b,off,none⟩)):=(tab_other fun j _ h=>hpb (by rw [← h])).trans hp
  have hx:k < 16→∃ x,(tabW b off (fun k=>.int .u32 (stepW 4 k)) k w).cell? ⟨b,off + 3 + k,none⟩=some x:=fun h=>by
   obtain ⟨x,hx⟩:=hc k h
   exact ⟨x,(tab_other fun j hj e=>by have:=congrArg Addr.off e;simp at this;omega).trans hx⟩
  have hz':k < 16→(tabW b off (fun k=>.int .u32 (stepW 4 k)) k w).frozen? ⟨b,off + 3 + k,none⟩=false:=fun h=>tab_frozen.trans (hz k h)
  by_cases hlt:(k:Int) < 16
  ·obtain ⟨x,hx⟩:=hx (by omega)
   have hz':=hz' (by omega)
   have hk16:k < 16:=by omega
   go_wp2
   go_loop [2,9] (fun c j=>∃ n:Nat,n≤4∧j = .int .i64 n∧c = .int .u32 (stepW n k)) (fun _ j=>4 - (intOf j).toNat)
   case atStart=>exact ⟨0,by omega,rfl,rfl⟩
   case round=>
    obtain ⟨n,hn,rfl,rfl⟩:=hrel
    go_wp2
    ·have h4:(n:Int) < 4:=by assumption
     have hb:(bits BinOp.and IntKind.u32 (stepW n k) 1 == 1)=true:=by assumption
     refine ⟨⟨n + 1,by omega,by go_num,by rw [st_odd n (by omega) k hk16 hb]⟩,by simp [intOf];omega⟩
    ·have h4:(n:Int) < 4:=by assumption
     have hb:(bits BinOp.and IntKind.u32 (stepW n k) 1 == 1)=false:=by assumption
     refine ⟨⟨n + 1,by omega,by go_num,by rw [st_even n (by omega) k hk16 hb]⟩,by simp [intOf];omega⟩
    ·have h4:¬ (n:Int) < 4:=by first | assumption | (intro h;omega)
     have hn4:n=4:=by omega
     subst hn4
     refine ⟨⟨k + 1,by omega,by go_num,rfl⟩,by simp [intOf];omega⟩
  ·have hk16:k=16:=by omega
   subst hk16
   go_wp2
   go_end0
   exact ⟨rfl,rfl⟩
theorem sn_done (a:Addr) (d:Int) (hd:¬ d=0) (fv:Value) (w:World) (h0:w.cell? a=some (.int .u32 d)) :
  Calls Try.prog 77 #[.pointer (some a),fv] w fun e w'=>e = .returned (.tuple #[])∧w' = w:=by
 have hl:=run_call_load (P:=Try.prog) Try.func83 (by kernel_rfl) (by kernel_rfl) (by kernel_rfl) .u32 (by kernel_rfl) h0
 have hnot:∀ (x:Bool) (w:World),(Op.unary .not (.bool x)).run Try.prog w = .ok (.bool (!x)) w:=fun _ _=>rfl
 have hd':(d != 0)=true:=by simp [hd]
 go_enter Try.func77,Try.ntmps77
 go_wp2
 go_end0
 exact ⟨rfl,rfl⟩
abbrev wordsV (k:Nat):Value:=.int .u32 (stepW 4 k)
abbrev onceW (b off:Nat) (w:World):World:=((tabW b off wordsV 16 (w.setCell ⟨b,off + 1,none⟩ (.int .i32 1))).drew.setCell ⟨b,off,none⟩ (.int .u32 1)).setCell ⟨b,off + 1,none⟩ (.int .i32 0)
theorem sn_slow (b off:Nat) (pl:Addr) (hpb:¬ b=pl.block) (w:World) (hp:w.cell? pl=some (.pointer (some ⟨b,off,none⟩)))
  (h0:w.cell? ⟨b,off,none⟩=some (.int .u32 0)) (h1:w.cell? ⟨b,off + 1,none⟩=some (.int .i32 0)) (hc:∀ k,k < 16→∃ x,w.cell? ⟨b,off + 3 + k,none⟩=some x)
  (f0:w.frozen? ⟨b,off,none⟩=false) (f1:w.frozen? ⟨b,off + 1,none⟩=false) (fz:∀ k,k < 16→w.frozen? ⟨b,off + 3 + k,none⟩=false) :
  Calls Try.prog 82 #[.pointer (some ⟨b,off,none⟩),.func (.func 78) #[] #[.pointer (some pl)]] w fun e w'=>e = .returned (.tuple #[])∧w' = onceW b off w:=by
 have hl:=run_call_load (P:=Try.prog) Try.func83 (by kernel_rfl) (by kernel_rfl) (by kernel_rfl) .u32 (by kernel_rfl) (w:=w.setCell ⟨b,off + 1,none⟩ (.int .i32 1)) (a:=⟨b,off,none⟩) (x:=0) ((World.cell?_setCell_other _ ⟨b,off + 1,none⟩ ⟨b,off,none⟩ _ (by simp)).trans h0)
 have hp1:(w.setCell ⟨b,off + 1,none⟩ (.int .i32 1)).cell? pl=some (.pointer (some ⟨b,off,none⟩)):=(World.cell?_setCell_other _ ⟨b,off + 1,none⟩ pl _ (fun h=>hpb (by rw [← h]))).trans hp
 have hc1:∀ k,k < 16→∃ x,(w.setCell ⟨b,off + 1,none⟩ (.int .i32 1)).cell? ⟨b,off + 3 + k,none⟩=some x:=fun k hk=>by
  obtain ⟨x,hx⟩:=hc k hk
  exact ⟨x,(World.cell?_setCell_other _ ⟨b,off + 1,none⟩ ⟨b,off + 3 + k,none⟩ _ (by intro e;have:=congrArg Addr.off e;simp at this;omega)).trans hx⟩
 have hz1:∀ k,k < 16→(w.setCell ⟨b,off + 1,none⟩ (.int .i32 1)).frozen? ⟨b,off + 3 + k,none⟩=false:=fun k hk=>by simp [fz k hk]
 have hnot:∀ (x:Bool) (w:World),(Op.unary .not (.bool x)).run Try.prog w = .ok (.bool (!x)) w:=fun _ _=>rfl
 go_enter_defers Try.func82,Try.ntmps82
 go_wp2_with (go_at_call 84;refine (sn_lock ⟨b,off + 1,none⟩ _ (by go_simp) (by go_simp)).mono ?_;rintro e w' ⟨rfl,rfl⟩)
 go_wp2_with (first | (go_at_call 78;refine (sn_clo b off pl hpb _ hp1 hc1 hz1).mono ?_;rintro e w' ⟨rfl,rfl⟩) | (go_at_call 81;go_in))
 refine leaves_cons (f:=86) (args:=#[.pointer (some ⟨b,off,none⟩),.bool true]) (by simp) (by simp [go_sem]) ?_
 refine (sn_store ⟨b,off,none⟩ (.int .u32 0) .returning _ ?_ (by simp [tab_frozen,f0])).mono ?_
 ·exact (tab_other fun j _ e=>by have:=congrArg Addr.off e;simp at this;omega).trans ((World.cell?_setCell_other _ ⟨b,off + 1,none⟩ ⟨b,off,none⟩ _ (by simp)).trans h0)
 rintro e u' w'' ⟨rfl,rfl,rfl⟩
 refine leaves_cons (f:=85) (args:=#[.pointer (some ⟨b,off + 1,none⟩)]) (by simp [settle]) (by simp [go_sem]) ?_
 refine (sn_unlock ⟨b,off + 1,none⟩ _ _ ?_ (by simp [tab_frozen,f1])).mono ?_
 ·refine (World.cell?_setCell_other _ ⟨b,off,none⟩ ⟨b,off + 1,none⟩ _ (by simp)).trans ?_
  rw [World.cell?_drew]
  exact (tab_other fun j _ e=>by have:=congrArg Addr.off e;simp at this;omega).trans (World.cell?_setCell_same w _ _ h1)
 rintro e u' w'' ⟨rfl,rfl,rfl⟩
 simp [Leaves,settle,results,Try.results82]
theorem sn_first (b off:Nat) (pl:Addr) (hpb:¬ b=pl.block) (w:World) (hp:w.cell? pl=some (.pointer (some ⟨b,off,none⟩)))
  (h0:w.cell? ⟨b,off,none⟩=some (.int .u32 0)) (h1:w.cell? ⟨b,off + 1,none⟩=some (.int .i32 0)) (hc:∀ k,k < 16→∃ x,w.cell? ⟨b,off + 3 + k,none⟩=some x)
  (f0:w.frozen? ⟨b,off,none⟩=false) (f1:w.frozen? ⟨b,off + 1,none⟩=false) (fz:∀ k,k < 16→w.frozen? ⟨b,off + 3 + k,none⟩=false) :
  Calls Try.prog 77 #[.pointer (some ⟨b,off,none⟩),.func (.func 78) #[] #[.pointer (some pl)]] w fun e w'=>e = .returned (.tuple #[])∧w' = onceW b off w:=by
 have hl:=run_call_load (P:=Try.prog) Try.func83 (by kernel_rfl) (by kernel_rfl) (by kernel_rfl) .u32 (by kernel_rfl) h0
 have hnot:∀ (x:Bool) (w:World),(Op.unary .not (.bool x)).run Try.prog w = .ok (.bool (!x)) w:=fun _ _=>rfl
 go_enter Try.func77,Try.ntmps77
 go_wp2_with (first | (go_at_call 82;refine (sn_slow b off pl hpb _ hp h0 h1 hc f0 f1 fz).mono ?_;rintro e w' ⟨rfl,rfl⟩) | (go_at_call 81;go_in))
 go_end0
 exact ⟨rfl,rfl⟩
theorem tab_cell {b off:Nat} {v:Nat→Value} {w:World} (hc:∀ k,k < 16→∃ x,w.cell? ⟨b,off + 3 + k,none⟩=some x):∀ {n k:Nat},n≤16→k < n→(tabW b off v n w).cell? ⟨b,off + 3 + k,none⟩=some (v k)
 | 0,k,_,h=>by omega
 | n + 1,k,hn,h=>by
  rw [tabW]
  by_cases e:k=n
  ·subst e
   obtain ⟨x,hx⟩:=hc k (by omega)
   exact World.cell?_setCell_same _ _ _ ((tab_other fun j hj e=>by have:=congrArg Addr.off e;simp at this;omega).trans hx)
  ·rw [World.cell?_setCell_other _ _ _ _ (by intro h;have:=congrArg Addr.off h;simp at this;omega)]
   exact tab_cell hc (by omega) (by omega)
theorem sn_word0 (b:Nat) (m:Nat) (w:World) (hb:b < w.heap.size)
  (h0:w.cell? ⟨b,0,none⟩=some (.int .u32 0)) (h1:w.cell? ⟨b,1,none⟩=some (.int .i32 0)) (hc:∀ k,k < 16→∃ x,w.cell? ⟨b,3 + k,none⟩=some x)
  (f0:w.frozen? ⟨b,0,none⟩=false) (f1:w.frozen? ⟨b,1,none⟩=false) (fz:∀ k,k < 16→w.frozen? ⟨b,3 + k,none⟩=false) :
  Calls Try.prog 68 #[.pointer (some ⟨b,0,none⟩),.int .u32 m] w fun e w'=>e = .returned (wordsV (m % 16))∧w' = onceW b 0 (w.alloc (.cells #[.pointer (some ⟨b,0,none⟩)] 136)):=by
 have hmf:∀ (fn:Fn) (first cap:Array Value) (w:World),(Instr.makeFunc fn first cap).run Try.prog w = .ok (.func fn first cap) w:=fun _ _ _ _=>rfl
 have nb:∀ j:Nat,(⟨b,j,none⟩:Addr)≠⟨w.heap.size,0,none⟩:=fun j h=>by
  have:=congrArg Addr.block h
  simp at this
  omega
 have p0:(w.alloc (.cells #[.pointer (some ⟨b,0,none⟩)] 136)).cell? ⟨w.heap.size,0,none⟩=some (.pointer (some ⟨b,0,none⟩)):=by simp
 have a0:(w.alloc (.cells #[.pointer (some ⟨b,0,none⟩)] 136)).cell? ⟨b,0,none⟩=some (.int .u32 0):=by rw [World.cell?_alloc_past _ _ _ hb];exact h0
 have a1:(w.alloc (.cells #[.pointer (some ⟨b,0,none⟩)] 136)).cell? ⟨b,0 + 1,none⟩=some (.int .i32 0):=by rw [World.cell?_alloc_past _ _ _ hb];exact h1
 have ac:∀ k,k < 16→∃ x,(w.alloc (.cells #[.pointer (some ⟨b,0,none⟩)] 136)).cell? ⟨b,0 + 3 + k,none⟩=some x:=fun k hk=>by
  rw [World.cell?_alloc_past _ _ _ hb,Nat.zero_add];exact hc k hk
 have z0:(w.alloc (.cells #[.pointer (some ⟨b,0,none⟩)] 136)).frozen? ⟨b,0,none⟩=false:=by rw [World.frozen?_alloc_past _ _ _ hb];exact f0
 have z1:(w.alloc (.cells #[.pointer (some ⟨b,0,none⟩)] 136)).frozen? ⟨b,0 + 1,none⟩=false:=by rw [World.frozen?_alloc_past _ _ _ hb];exact f1
 have zc:∀ k,k < 16→(w.alloc (.cells #[.pointer (some ⟨b,0,none⟩)] 136)).frozen? ⟨b,0 + 3 + k,none⟩=false:=fun k hk=>by
  rw [World.frozen?_alloc_past _ _ _ hb,Nat.zero_add];exact fz k hk
 generalize hw1:w.alloc (.cells #[.pointer (some ⟨b,0,none⟩)] 136)=w1 at *
 have pE:(onceW b 0 w1).cell? ⟨w.heap.size,0,none⟩=some (.pointer (some ⟨b,0,none⟩)):=by
  unfold onceW
  rw [World.cell?_setCell_other _ _ _ _ (nb _),World.cell?_setCell_other _ _ _ _ (nb _),World.cell?_drew,tab_other fun j _=>nb _,World.cell?_setCell_other _ _ _ _ (nb _)]
  exact p0
 have vE:∀ k,k < 16→(onceW b 0 w1).cell? ⟨b,3 + k,none⟩=some (wordsV k):=fun k hk=>by
  unfold onceW
  rw [World.cell?_setCell_other _ _ _ _ (by intro h;have:=congrArg Addr.off h;simp at this;omega),World.cell?_setCell_other _ _ _ _ (by intro h;have:0=3 + k:=congrArg Addr.off h;omega),World.cell?_drew,show 3 + k=0 + 3 + k by omega]
  refine tab_cell (fun k hk=>?_) (Nat.le_refl _) hk
  obtain ⟨x,hx⟩:=ac k hk
  exact ⟨x,(World.cell?_setCell_other _ _ _ _ (by intro h;have:=congrArg Addr.off h;simp at this;omega)).trans hx⟩
 have hk:=vE (m % 16) (Nat.mod_lt _ (by decide))
 go_enter Try.func68,Try.ntmps68
 go_wp2_with (go_at_call 77;refine (sn_first b 0 ⟨w.heap.size,0,none⟩ (by simp;omega) _ p0 a0 a1 ac z0 z1 zc).mono ?_;rintro e w' ⟨rfl,rfl⟩)
 go_ret
 exact ⟨rfl,rfl⟩
theorem sn_word1 (b:Nat) (m:Nat) (w:World) (hb:b < w.heap.size) (h0:w.cell? ⟨b,0,none⟩=some (.int .u32 1)) (hc:∀ k,k < 16→w.cell? ⟨b,3 + k,none⟩=some (wordsV k)) :
  Calls Try.prog 68 #[.pointer (some ⟨b,0,none⟩),.int .u32 m] w fun e w'=>e = .returned (wordsV (m % 16))∧w' = w.alloc (.cells #[.pointer (some ⟨b,0,none⟩)] 136):=by
 have hmf:∀ (fn:Fn) (first cap:Array Value) (w:World),(Instr.makeFunc fn first cap).run Try.prog w = .ok (.func fn first cap) w:=fun _ _ _ _=>rfl
 have p0:(w.alloc (.cells #[.pointer (some ⟨b,0,none⟩)] 136)).cell? ⟨w.heap.size,0,none⟩=some (.pointer (some ⟨b,0,none⟩)):=by simp
 have a0:(w.alloc (.cells #[.pointer (some ⟨b,0,none⟩)] 136)).cell? ⟨b,0,none⟩=some (.int .u32 1):=by rw [World.cell?_alloc_past _ _ _ hb];exact h0
 have hk:(w.alloc (.cells #[.pointer (some ⟨b,0,none⟩)] 136)).cell? ⟨b,3 + m % 16,none⟩=some (wordsV (m % 16)):=by
  rw [World.cell?_alloc_past _ _ _ hb];exact hc _ (Nat.mod_lt _ (by decide))
 generalize hw1:w.alloc (.cells #[.pointer (some ⟨b,0,none⟩)] 136)=w1 at *
 go_enter Try.func68,Try.ntmps68
 go_wp2_with (go_at_call 77;refine (sn_done ⟨b,0,none⟩ 1 (by decide) _ _ a0).mono ?_;rintro e w' ⟨rfl,rfl⟩)
 go_ret
 exact ⟨rfl,rfl⟩
theorem hp_same {w:World} {b j:Nat} {v:Value} {C:Array Value} {t:TypeId} {z:Nat × Nat} (h:w.heap[b]? = some (.cells C t z)):(w.setCell ⟨b,j,none⟩ v).heap[b]? = some (.cells (C.setIfInBounds j v) t z):=by
 unfold World.setCell
 simp only [Array.getElem?_modify,if_true,h]
 rfl
theorem hp_other {w:World} {b j k:Nat} {v:Value} (h:k≠b):(w.setCell ⟨b,j,none⟩ v).heap[k]? = w.heap[k]?:=by
 unfold World.setCell
 simp only [Array.getElem?_modify]
 rw [if_neg (fun e=>h e.symm)]
def setV (C:Array Value):Nat→Array Value
 | 0=>C
 | n + 1=>(setV C n).setIfInBounds (0 + 3 + n) (wordsV n)
theorem hp_tab {w:World} {b:Nat} {C:Array Value} {t:TypeId} {z:Nat × Nat} (h:w.heap[b]? = some (.cells C t z)):∀ n,(tabW b 0 wordsV n w).heap[b]? = some (.cells (setV C n) t z)
 | 0=>h
 | n + 1=>by rw [tabW,setV];exact hp_same (hp_tab h n)
theorem hp_tab_other {w:World} {b k:Nat} (h:k≠b):∀ n,(tabW b 0 wordsV n w).heap[k]? = w.heap[k]?
 | 0=>rfl
 | n + 1=>by rw [tabW,hp_other h,hp_tab_other h n]
theorem tab_keeps {w:World} {b:Nat}:∀ n,(tabW b 0 wordsV n w).heap.size=w.heap.size
 | 0=>rfl
 | n + 1=>by rw [tabW,World.size_setCell,tab_keeps n]
end Go.Mat

namespace Go.Mat
open Go Go.Den Go.Proofs
def wdL0:List SV:=[vw (.i 0),.val (.int .i32) (.i 0),vw (.i 0),vw (.i 0),vw (.i 0),vw (.i 0),vw (.i 0),vw (.i 0),vw (.i 0),vw (.i 0),vw (.i 0),vw (.i 0),vw (.i 0),vw (.i 0),vw (.i 0),vw (.i 0),vw (.i 0),vw (.i 0),vw (.i 0)]
def wdL1:List SV:=[vw (.i 1),.val (.int .i32) (.i 0),vw (.i 0),vw (.i 0),vw (.i 274646895),vw (.i 549293790),vw (.i 820201905),vw (.i 1098587580),vw (.i 1361435347),vw (.i 1640403810),vw (.i 1905808397),vw (.i 2197175160),vw (.i 2460548119),vw (.i 2722870694),vw (.i 2987750089),vw (.i 3280807620),vw (.i 3553878443),vw (.i 3811616794),vw (.i 4084100981)]
def sameI:SV→SV→Bool
 | .val (.int k) (.i n),.val (.int j) (.i m)=>IntKind.same k j && decide (n=m)
 | _,_=>false
def sameL:List SV→List SV→Bool
 | [],[]=>true
 | a :: r,b :: s=>sameI a b && sameL r s
 | _,_=>false
def wdB (l:List SV):Bool:=sameL l wdL0 || sameL l wdL1
noncomputable def wordF:Tr:=fun vs objs R=>match vs,objs with
 | [.ptr i off,.val (.int .u32) u],[(j,.box cells)]=>(i=j∧off=0)∧bif wdB cells then R (.ret [vw (.i (stepW 4 (u.int.toNat % 16)))]) [(j,.box wdL1)] else False
 | _,_=>False
noncomputable def moreLoop:LoopF:=fun _ svs os k=>match svs,os with
 | [.val (.int .i64) i,.val (.int .i64) n,.val (.sl false [.int .u8]) b,.val (.int .u32) c,.ptr p o],[.box cells]=>
  (p=640∧o=0∧n = .i b.list.length∧c = .i c.int∧0≤i.int∧i.int≤b.list.length∧0≤c.int∧c.int < 4294967296)∧bif wdB cells then k (.exit 0) ⟨[(6,vw (.i (bytesI c.int (b.list.drop i.int.toNat))))],[]⟩ else False
 | _,_=>False
noncomputable def moreC:Ctx:=mkC PR eqs0 fnsNil (trsCons 68 [] wordF trsNil) (loopCons 0 [13,12,11,6,5] [640] moreLoop noLoops) (outCons 0 [6] [] noOut) noOut
theorem more_round0 (pan:KP) (μ:Mu) (N:Nat) (k:KE) (i b c:U):(exec (moreC.panics pan) (loopBody Try.f52 0) 0 ⟨[(13,vi i),(12,vi (.i b.list.length)),(11,vl (.int .u8) b),(6,vw c),(5,.ptr 640 0)],[(640,.box wdL0)]⟩ (again PR (some ([6],[])) none pan [13,12,11,6,5] [640] moreLoop μ N k))=(bif decide (i.int < (b.list.length:Int)) then bif decide ((0:Int)≤i.int∧i.int < (b.list.length:Int)) then (2097153=nat_lit 2097153∧nat_lit 0=nat_lit 0)∧(2097153=nat_lit 2097153∧nat_lit 0=nat_lit 0)∧bif Nat.blt (μ [vi (U.i (IntKind.wrap .i64 (i.int + 1))),vi (U.i (b.list.length:Int)),.val (.sl false [.int .u8]) b,.val (.int .u32) (U.i (IntKind.wrap .u32 (↑(BitVec.toNat (BitVec.ofInt (IntKind.bits IntKind.u32) (stepW (4:Nat) (Int.toNat (IntKind.wrap .u32 (↑(BitVec.toNat (BitVec.ofInt (IntKind.bits IntKind.u32) (stepW (4:Nat) (Int.toNat (IntKind.wrap .u32 (↑(BitVec.toNat (BitVec.ofInt (IntKind.bits IntKind.u32) c.int ^^^ BitVec.ofInt (IntKind.bits IntKind.u32) (IntKind.wrap .u32 (U.int (nth (U.i 0) b.list (Int.toNat i.int)))))):Int)) % (16:Nat))) ^^^ BitVec.ofInt (IntKind.bits IntKind.u32) (Int.fdiv (IntKind.wrap .u32 (↑(BitVec.toNat (BitVec.ofInt (IntKind.bits IntKind.u32) c.int ^^^ BitVec.ofInt (IntKind.bits IntKind.u32) (IntKind.wrap .u32 (U.int (nth (U.i 0) b.list (Int.toNat i.int)))))):Int)) ((2:Int) ^ min (Int.toNat 4) (IntKind.bits IntKind.u32))))):Int)) % (16:Nat))) ^^^ BitVec.ofInt (IntKind.bits IntKind.u32) (Int.fdiv (IntKind.wrap .u32 (↑(BitVec.toNat (BitVec.ofInt (IntKind.bits IntKind.u32) (stepW (4:Nat) (Int.toNat (IntKind.wrap .u32 (↑(BitVec.toNat (BitVec.ofInt (IntKind.bits IntKind.u32) c.int ^^^ BitVec.ofInt (IntKind.bits IntKind.u32) (IntKind.wrap .u32 (U.int (nth (U.i 0) b.list (Int.toNat i.int)))))):Int)) % (16:Nat))) ^^^ BitVec.ofInt (IntKind.bits IntKind.u32) (Int.fdiv (IntKind.wrap .u32 (↑(BitVec.toNat (BitVec.ofInt (IntKind.bits IntKind.u32) c.int ^^^ BitVec.ofInt (IntKind.bits IntKind.u32) (IntKind.wrap .u32 (U.int (nth (U.i 0) b.list (Int.toNat i.int)))))):Int)) ((2:Int) ^ min (Int.toNat 4) (IntKind.bits IntKind.u32))))):Int)) ((2:Int) ^ min (Int.toNat 4) (IntKind.bits IntKind.u32))))):Int))),.ptr 640 0] [.box [.val (.int .u32) (U.i 1),.val (.int .i32) (U.i 0),.val (.int .u32) (U.i 0),.val (.int .u32) (U.i 0),.val (.int .u32) (U.i 274646895),.val (.int .u32) (U.i 549293790),.val (.int .u32) (U.i 820201905),.val (.int .u32) (U.i 1098587580),.val (.int .u32) (U.i 1361435347),.val (.int .u32) (U.i 1640403810),.val (.int .u32) (U.i 1905808397),.val (.int .u32) (U.i 2197175160),.val (.int .u32) (U.i 2460548119),.val (.int .u32) (U.i 2722870694),.val (.int .u32) (U.i 2987750089),.val (.int .u32) (U.i 3280807620),.val (.int .u32) (U.i 3553878443),.val (.int .u32) (U.i 3811616794),.val (.int .u32) (U.i 4084100981)]]) N then (640=nat_lit 640∧nat_lit 0=nat_lit 0∧U.i (b.list.length:Int)=U.i (b.list.length:Int)∧U.i (IntKind.wrap .u32 (↑(BitVec.toNat (BitVec.ofInt (IntKind.bits IntKind.u32) (stepW (4:Nat) (Int.toNat (IntKind.wrap .u32 (↑(BitVec.toNat (BitVec.ofInt (IntKind.bits IntKind.u32) (stepW (4:Nat) (Int.toNat (IntKind.wrap .u32 (↑(BitVec.toNat (BitVec.ofInt (IntKind.bits IntKind.u32) c.int ^^^ BitVec.ofInt (IntKind.bits IntKind.u32) (IntKind.wrap .u32 (U.int (nth (U.i 0) b.list (Int.toNat i.int)))))):Int)) % (16:Nat))) ^^^ BitVec.ofInt (IntKind.bits IntKind.u32) (Int.fdiv (IntKind.wrap .u32 (↑(BitVec.toNat (BitVec.ofInt (IntKind.bits IntKind.u32) c.int ^^^ BitVec.ofInt (IntKind.bits IntKind.u32) (IntKind.wrap .u32 (U.int (nth (U.i 0) b.list (Int.toNat i.int)))))):Int)) ((2:Int) ^ min (Int.toNat 4) (IntKind.bits IntKind.u32))))):Int)) % (16:Nat))) ^^^ BitVec.ofInt (IntKind.bits IntKind.u32) (Int.fdiv (IntKind.wrap .u32 (↑(BitVec.toNat (BitVec.ofInt (IntKind.bits IntKind.u32) (stepW (4:Nat) (Int.toNat (IntKind.wrap .u32 (↑(BitVec.toNat (BitVec.ofInt (IntKind.bits IntKind.u32) c.int ^^^ BitVec.ofInt (IntKind.bits IntKind.u32) (IntKind.wrap .u32 (U.int (nth (U.i 0) b.list (Int.toNat i.int)))))):Int)) % (16:Nat))) ^^^ BitVec.ofInt (IntKind.bits IntKind.u32) (Int.fdiv (IntKind.wrap .u32 (↑(BitVec.toNat (BitVec.ofInt (IntKind.bits IntKind.u32) c.int ^^^ BitVec.ofInt (IntKind.bits IntKind.u32) (IntKind.wrap .u32 (U.int (nth (U.i 0) b.list (Int.toNat i.int)))))):Int)) ((2:Int) ^ min (Int.toNat 4) (IntKind.bits IntKind.u32))))):Int)) ((2:Int) ^ min (Int.toNat 4) (IntKind.bits IntKind.u32))))):Int))=U.i (IntKind.wrap .u32 (↑(BitVec.toNat (BitVec.ofInt (IntKind.bits IntKind.u32) (stepW (4:Nat) (Int.toNat (IntKind.wrap .u32 (↑(BitVec.toNat (BitVec.ofInt (IntKind.bits IntKind.u32) (stepW (4:Nat) (Int.toNat (IntKind.wrap .u32 (↑(BitVec.toNat (BitVec.ofInt (IntKind.bits IntKind.u32) c.int ^^^ BitVec.ofInt (IntKind.bits IntKind.u32) (IntKind.wrap .u32 (U.int (nth (U.i 0) b.list (Int.toNat i.int)))))):Int)) % (16:Nat))) ^^^ BitVec.ofInt (IntKind.bits IntKind.u32) (Int.fdiv (IntKind.wrap .u32 (↑(BitVec.toNat (BitVec.ofInt (IntKind.bits IntKind.u32) c.int ^^^ BitVec.ofInt (IntKind.bits IntKind.u32) (IntKind.wrap .u32 (U.int (nth (U.i 0) b.list (Int.toNat i.int)))))):Int)) ((2:Int) ^ min (Int.toNat 4) (IntKind.bits IntKind.u32))))):Int)) % (16:Nat))) ^^^ BitVec.ofInt (IntKind.bits IntKind.u32) (Int.fdiv (IntKind.wrap .u32 (↑(BitVec.toNat (BitVec.ofInt (IntKind.bits IntKind.u32) (stepW (4:Nat) (Int.toNat (IntKind.wrap .u32 (↑(BitVec.toNat (BitVec.ofInt (IntKind.bits IntKind.u32) c.int ^^^ BitVec.ofInt (IntKind.bits IntKind.u32) (IntKind.wrap .u32 (U.int (nth (U.i 0) b.list (Int.toNat i.int)))))):Int)) % (16:Nat))) ^^^ BitVec.ofInt (IntKind.bits IntKind.u32) (Int.fdiv (IntKind.wrap .u32 (↑(BitVec.toNat (BitVec.ofInt (IntKind.bits IntKind.u32) c.int ^^^ BitVec.ofInt (IntKind.bits IntKind.u32) (IntKind.wrap .u32 (U.int (nth (U.i 0) b.list (Int.toNat i.int)))))):Int)) ((2:Int) ^ min (Int.toNat 4) (IntKind.bits IntKind.u32))))):Int)) ((2:Int) ^ min (Int.toNat 4) (IntKind.bits IntKind.u32))))):Int))∧(0:Int)≤IntKind.wrap .i64 (i.int + 1)∧IntKind.wrap .i64 (i.int + 1)≤(b.list.length:Int)∧(0:Int)≤IntKind.wrap .u32 (↑(BitVec.toNat (BitVec.ofInt (IntKind.bits IntKind.u32) (stepW (4:Nat) (Int.toNat (IntKind.wrap .u32 (↑(BitVec.toNat (BitVec.ofInt (IntKind.bits IntKind.u32) (stepW (4:Nat) (Int.toNat (IntKind.wrap .u32 (↑(BitVec.toNat (BitVec.ofInt (IntKind.bits IntKind.u32) c.int ^^^ BitVec.ofInt (IntKind.bits IntKind.u32) (IntKind.wrap .u32 (U.int (nth (U.i 0) b.list (Int.toNat i.int)))))):Int)) % (16:Nat))) ^^^ BitVec.ofInt (IntKind.bits IntKind.u32) (Int.fdiv (IntKind.wrap .u32 (↑(BitVec.toNat (BitVec.ofInt (IntKind.bits IntKind.u32) c.int ^^^ BitVec.ofInt (IntKind.bits IntKind.u32) (IntKind.wrap .u32 (U.int (nth (U.i 0) b.list (Int.toNat i.int)))))):Int)) ((2:Int) ^ min (Int.toNat 4) (IntKind.bits IntKind.u32))))):Int)) % (16:Nat))) ^^^ BitVec.ofInt (IntKind.bits IntKind.u32) (Int.fdiv (IntKind.wrap .u32 (↑(BitVec.toNat (BitVec.ofInt (IntKind.bits IntKind.u32) (stepW (4:Nat) (Int.toNat (IntKind.wrap .u32 (↑(BitVec.toNat (BitVec.ofInt (IntKind.bits IntKind.u32) c.int ^^^ BitVec.ofInt (IntKind.bits IntKind.u32) (IntKind.wrap .u32 (U.int (nth (U.i 0) b.list (Int.toNat i.int)))))):Int)) % (16:Nat))) ^^^ BitVec.ofInt (IntKind.bits IntKind.u32) (Int.fdiv (IntKind.wrap .u32 (↑(BitVec.toNat (BitVec.ofInt (IntKind.bits IntKind.u32) c.int ^^^ BitVec.ofInt (IntKind.bits IntKind.u32) (IntKind.wrap .u32 (U.int (nth (U.i 0) b.list (Int.toNat i.int)))))):Int)) ((2:Int) ^ min (Int.toNat 4) (IntKind.bits IntKind.u32))))):Int)) ((2:Int) ^ min (Int.toNat 4) (IntKind.bits IntKind.u32))))):Int)∧IntKind.wrap .u32 (↑(BitVec.toNat (BitVec.ofInt (IntKind.bits IntKind.u32) (stepW (4:Nat) (Int.toNat (IntKind.wrap .u32 (↑(BitVec.toNat (BitVec.ofInt (IntKind.bits IntKind.u32) (stepW (4:Nat) (Int.toNat (IntKind.wrap .u32 (↑(BitVec.toNat (BitVec.ofInt (IntKind.bits IntKind.u32) c.int ^^^ BitVec.ofInt (IntKind.bits IntKind.u32) (IntKind.wrap .u32 (U.int (nth (U.i 0) b.list (Int.toNat i.int)))))):Int)) % (16:Nat))) ^^^ BitVec.ofInt (IntKind.bits IntKind.u32) (Int.fdiv (IntKind.wrap .u32 (↑(BitVec.toNat (BitVec.ofInt (IntKind.bits IntKind.u32) c.int ^^^ BitVec.ofInt (IntKind.bits IntKind.u32) (IntKind.wrap .u32 (U.int (nth (U.i 0) b.list (Int.toNat i.int)))))):Int)) ((2:Int) ^ min (Int.toNat 4) (IntKind.bits IntKind.u32))))):Int)) % (16:Nat))) ^^^ BitVec.ofInt (IntKind.bits IntKind.u32) (Int.fdiv (IntKind.wrap .u32 (↑(BitVec.toNat (BitVec.ofInt (IntKind.bits IntKind.u32) (stepW (4:Nat) (Int.toNat (IntKind.wrap .u32 (↑(BitVec.toNat (BitVec.ofInt (IntKind.bits IntKind.u32) c.int ^^^ BitVec.ofInt (IntKind.bits IntKind.u32) (IntKind.wrap .u32 (U.int (nth (U.i 0) b.list (Int.toNat i.int)))))):Int)) % (16:Nat))) ^^^ BitVec.ofInt (IntKind.bits IntKind.u32) (Int.fdiv (IntKind.wrap .u32 (↑(BitVec.toNat (BitVec.ofInt (IntKind.bits IntKind.u32) c.int ^^^ BitVec.ofInt (IntKind.bits IntKind.u32) (IntKind.wrap .u32 (U.int (nth (U.i 0) b.list (Int.toNat i.int)))))):Int)) ((2:Int) ^ min (Int.toNat 4) (IntKind.bits IntKind.u32))))):Int)) ((2:Int) ^ min (Int.toNat 4) (IntKind.bits IntKind.u32))))):Int) < 4294967296)∧k (Ex.exit 0) (St.mk [(6,.val (.int .u32) (U.i (bytesI (IntKind.wrap .u32 (↑(BitVec.toNat (BitVec.ofInt (IntKind.bits IntKind.u32) (stepW (4:Nat) (Int.toNat (IntKind.wrap .u32 (↑(BitVec.toNat (BitVec.ofInt (IntKind.bits IntKind.u32) (stepW (4:Nat) (Int.toNat (IntKind.wrap .u32 (↑(BitVec.toNat (BitVec.ofInt (IntKind.bits IntKind.u32) c.int ^^^ BitVec.ofInt (IntKind.bits IntKind.u32) (IntKind.wrap .u32 (U.int (nth (U.i 0) b.list (Int.toNat i.int)))))):Int)) % (16:Nat))) ^^^ BitVec.ofInt (IntKind.bits IntKind.u32) (Int.fdiv (IntKind.wrap .u32 (↑(BitVec.toNat (BitVec.ofInt (IntKind.bits IntKind.u32) c.int ^^^ BitVec.ofInt (IntKind.bits IntKind.u32) (IntKind.wrap .u32 (U.int (nth (U.i 0) b.list (Int.toNat i.int)))))):Int)) ((2:Int) ^ min (Int.toNat 4) (IntKind.bits IntKind.u32))))):Int)) % (16:Nat))) ^^^ BitVec.ofInt (IntKind.bits IntKind.u32) (Int.fdiv (IntKind.wrap .u32 (↑(BitVec.toNat (BitVec.ofInt (IntKind.bits IntKind.u32) (stepW (4:Nat) (Int.toNat (IntKind.wrap .u32 (↑(BitVec.toNat (BitVec.ofInt (IntKind.bits IntKind.u32) c.int ^^^ BitVec.ofInt (IntKind.bits IntKind.u32) (IntKind.wrap .u32 (U.int (nth (U.i 0) b.list (Int.toNat i.int)))))):Int)) % (16:Nat))) ^^^ BitVec.ofInt (IntKind.bits IntKind.u32) (Int.fdiv (IntKind.wrap .u32 (↑(BitVec.toNat (BitVec.ofInt (IntKind.bits IntKind.u32) c.int ^^^ BitVec.ofInt (IntKind.bits IntKind.u32) (IntKind.wrap .u32 (U.int (nth (U.i 0) b.list (Int.toNat i.int)))))):Int)) ((2:Int) ^ min (Int.toNat 4) (IntKind.bits IntKind.u32))))):Int)) ((2:Int) ^ min (Int.toNat 4) (IntKind.bits IntKind.u32))))):Int)) (List.drop (Int.toNat (IntKind.wrap .i64 (i.int + 1))) b.list))))] []) else False else False else k (Ex.exit 0) (St.mk [(6,.val (.int .u32) c)] [])):=by kernel_rfl
theorem more_round1 (pan:KP) (μ:Mu) (N:Nat) (k:KE) (i b c:U):(exec (moreC.panics pan) (loopBody Try.f52 0) 0 ⟨[(13,vi i),(12,vi (.i b.list.length)),(11,vl (.int .u8) b),(6,vw c),(5,.ptr 640 0)],[(640,.box wdL1)]⟩ (again PR (some ([6],[])) none pan [13,12,11,6,5] [640] moreLoop μ N k))=(bif decide (i.int < (b.list.length:Int)) then bif decide ((0:Int)≤i.int∧i.int < (b.list.length:Int)) then (2097153=nat_lit 2097153∧nat_lit 0=nat_lit 0)∧(2097153=nat_lit 2097153∧nat_lit 0=nat_lit 0)∧bif Nat.blt (μ [vi (U.i (IntKind.wrap .i64 (i.int + 1))),vi (U.i (b.list.length:Int)),.val (.sl false [.int .u8]) b,.val (.int .u32) (U.i (IntKind.wrap .u32 (↑(BitVec.toNat (BitVec.ofInt (IntKind.bits IntKind.u32) (stepW (4:Nat) (Int.toNat (IntKind.wrap .u32 (↑(BitVec.toNat (BitVec.ofInt (IntKind.bits IntKind.u32) (stepW (4:Nat) (Int.toNat (IntKind.wrap .u32 (↑(BitVec.toNat (BitVec.ofInt (IntKind.bits IntKind.u32) c.int ^^^ BitVec.ofInt (IntKind.bits IntKind.u32) (IntKind.wrap .u32 (U.int (nth (U.i 0) b.list (Int.toNat i.int)))))):Int)) % (16:Nat))) ^^^ BitVec.ofInt (IntKind.bits IntKind.u32) (Int.fdiv (IntKind.wrap .u32 (↑(BitVec.toNat (BitVec.ofInt (IntKind.bits IntKind.u32) c.int ^^^ BitVec.ofInt (IntKind.bits IntKind.u32) (IntKind.wrap .u32 (U.int (nth (U.i 0) b.list (Int.toNat i.int)))))):Int)) ((2:Int) ^ min (Int.toNat 4) (IntKind.bits IntKind.u32))))):Int)) % (16:Nat))) ^^^ BitVec.ofInt (IntKind.bits IntKind.u32) (Int.fdiv (IntKind.wrap .u32 (↑(BitVec.toNat (BitVec.ofInt (IntKind.bits IntKind.u32) (stepW (4:Nat) (Int.toNat (IntKind.wrap .u32 (↑(BitVec.toNat (BitVec.ofInt (IntKind.bits IntKind.u32) c.int ^^^ BitVec.ofInt (IntKind.bits IntKind.u32) (IntKind.wrap .u32 (U.int (nth (U.i 0) b.list (Int.toNat i.int)))))):Int)) % (16:Nat))) ^^^ BitVec.ofInt (IntKind.bits IntKind.u32) (Int.fdiv (IntKind.wrap .u32 (↑(BitVec.toNat (BitVec.ofInt (IntKind.bits IntKind.u32) c.int ^^^ BitVec.ofInt (IntKind.bits IntKind.u32) (IntKind.wrap .u32 (U.int (nth (U.i 0) b.list (Int.toNat i.int)))))):Int)) ((2:Int) ^ min (Int.toNat 4) (IntKind.bits IntKind.u32))))):Int)) ((2:Int) ^ min (Int.toNat 4) (IntKind.bits IntKind.u32))))):Int))),.ptr 640 0] [.box [.val (.int .u32) (U.i 1),.val (.int .i32) (U.i 0),.val (.int .u32) (U.i 0),.val (.int .u32) (U.i 0),.val (.int .u32) (U.i 274646895),.val (.int .u32) (U.i 549293790),.val (.int .u32) (U.i 820201905),.val (.int .u32) (U.i 1098587580),.val (.int .u32) (U.i 1361435347),.val (.int .u32) (U.i 1640403810),.val (.int .u32) (U.i 1905808397),.val (.int .u32) (U.i 2197175160),.val (.int .u32) (U.i 2460548119),.val (.int .u32) (U.i 2722870694),.val (.int .u32) (U.i 2987750089),.val (.int .u32) (U.i 3280807620),.val (.int .u32) (U.i 3553878443),.val (.int .u32) (U.i 3811616794),.val (.int .u32) (U.i 4084100981)]]) N then (640=nat_lit 640∧nat_lit 0=nat_lit 0∧U.i (b.list.length:Int)=U.i (b.list.length:Int)∧U.i (IntKind.wrap .u32 (↑(BitVec.toNat (BitVec.ofInt (IntKind.bits IntKind.u32) (stepW (4:Nat) (Int.toNat (IntKind.wrap .u32 (↑(BitVec.toNat (BitVec.ofInt (IntKind.bits IntKind.u32) (stepW (4:Nat) (Int.toNat (IntKind.wrap .u32 (↑(BitVec.toNat (BitVec.ofInt (IntKind.bits IntKind.u32) c.int ^^^ BitVec.ofInt (IntKind.bits IntKind.u32) (IntKind.wrap .u32 (U.int (nth (U.i 0) b.list (Int.toNat i.int)))))):Int)) % (16:Nat))) ^^^ BitVec.ofInt (IntKind.bits IntKind.u32) (Int.fdiv (IntKind.wrap .u32 (↑(BitVec.toNat (BitVec.ofInt (IntKind.bits IntKind.u32) c.int ^^^ BitVec.ofInt (IntKind.bits IntKind.u32) (IntKind.wrap .u32 (U.int (nth (U.i 0) b.list (Int.toNat i.int)))))):Int)) ((2:Int) ^ min (Int.toNat 4) (IntKind.bits IntKind.u32))))):Int)) % (16:Nat))) ^^^ BitVec.ofInt (IntKind.bits IntKind.u32) (Int.fdiv (IntKind.wrap .u32 (↑(BitVec.toNat (BitVec.ofInt (IntKind.bits IntKind.u32) (stepW (4:Nat) (Int.toNat (IntKind.wrap .u32 (↑(BitVec.toNat (BitVec.ofInt (IntKind.bits IntKind.u32) c.int ^^^ BitVec.ofInt (IntKind.bits IntKind.u32) (IntKind.wrap .u32 (U.int (nth (U.i 0) b.list (Int.toNat i.int)))))):Int)) % (16:Nat))) ^^^ BitVec.ofInt (IntKind.bits IntKind.u32) (Int.fdiv (IntKind.wrap .u32 (↑(BitVec.toNat (BitVec.ofInt (IntKind.bits IntKind.u32) c.int ^^^ BitVec.ofInt (IntKind.bits IntKind.u32) (IntKind.wrap .u32 (U.int (nth (U.i 0) b.list (Int.toNat i.int)))))):Int)) ((2:Int) ^ min (Int.toNat 4) (IntKind.bits IntKind.u32))))):Int)) ((2:Int) ^ min (Int.toNat 4) (IntKind.bits IntKind.u32))))):Int))=U.i (IntKind.wrap .u32 (↑(BitVec.toNat (BitVec.ofInt (IntKind.bits IntKind.u32) (stepW (4:Nat) (Int.toNat (IntKind.wrap .u32 (↑(BitVec.toNat (BitVec.ofInt (IntKind.bits IntKind.u32) (stepW (4:Nat) (Int.toNat (IntKind.wrap .u32 (↑(BitVec.toNat (BitVec.ofInt (IntKind.bits IntKind.u32) c.int ^^^ BitVec.ofInt (IntKind.bits IntKind.u32) (IntKind.wrap .u32 (U.int (nth (U.i 0) b.list (Int.toNat i.int)))))):Int)) % (16:Nat))) ^^^ BitVec.ofInt (IntKind.bits IntKind.u32) (Int.fdiv (IntKind.wrap .u32 (↑(BitVec.toNat (BitVec.ofInt (IntKind.bits IntKind.u32) c.int ^^^ BitVec.ofInt (IntKind.bits IntKind.u32) (IntKind.wrap .u32 (U.int (nth (U.i 0) b.list (Int.toNat i.int)))))):Int)) ((2:Int) ^ min (Int.toNat 4) (IntKind.bits IntKind.u32))))):Int)) % (16:Nat))) ^^^ BitVec.ofInt (IntKind.bits IntKind.u32) (Int.fdiv (IntKind.wrap .u32 (↑(BitVec.toNat (BitVec.ofInt (IntKind.bits IntKind.u32) (stepW (4:Nat) (Int.toNat (IntKind.wrap .u32 (↑(BitVec.toNat (BitVec.ofInt (IntKind.bits IntKind.u32) c.int ^^^ BitVec.ofInt (IntKind.bits IntKind.u32) (IntKind.wrap .u32 (U.int (nth (U.i 0) b.list (Int.toNat i.int)))))):Int)) % (16:Nat))) ^^^ BitVec.ofInt (IntKind.bits IntKind.u32) (Int.fdiv (IntKind.wrap .u32 (↑(BitVec.toNat (BitVec.ofInt (IntKind.bits IntKind.u32) c.int ^^^ BitVec.ofInt (IntKind.bits IntKind.u32) (IntKind.wrap .u32 (U.int (nth (U.i 0) b.list (Int.toNat i.int)))))):Int)) ((2:Int) ^ min (Int.toNat 4) (IntKind.bits IntKind.u32))))):Int)) ((2:Int) ^ min (Int.toNat 4) (IntKind.bits IntKind.u32))))):Int))∧(0:Int)≤IntKind.wrap .i64 (i.int + 1)∧IntKind.wrap .i64 (i.int + 1)≤(b.list.length:Int)∧(0:Int)≤IntKind.wrap .u32 (↑(BitVec.toNat (BitVec.ofInt (IntKind.bits IntKind.u32) (stepW (4:Nat) (Int.toNat (IntKind.wrap .u32 (↑(BitVec.toNat (BitVec.ofInt (IntKind.bits IntKind.u32) (stepW (4:Nat) (Int.toNat (IntKind.wrap .u32 (↑(BitVec.toNat (BitVec.ofInt (IntKind.bits IntKind.u32) c.int ^^^ BitVec.ofInt (IntKind.bits IntKind.u32) (IntKind.wrap .u32 (U.int (nth (U.i 0) b.list (Int.toNat i.int)))))):Int)) % (16:Nat))) ^^^ BitVec.ofInt (IntKind.bits IntKind.u32) (Int.fdiv (IntKind.wrap .u32 (↑(BitVec.toNat (BitVec.ofInt (IntKind.bits IntKind.u32) c.int ^^^ BitVec.ofInt (IntKind.bits IntKind.u32) (IntKind.wrap .u32 (U.int (nth (U.i 0) b.list (Int.toNat i.int)))))):Int)) ((2:Int) ^ min (Int.toNat 4) (IntKind.bits IntKind.u32))))):Int)) % (16:Nat))) ^^^ BitVec.ofInt (IntKind.bits IntKind.u32) (Int.fdiv (IntKind.wrap .u32 (↑(BitVec.toNat (BitVec.ofInt (IntKind.bits IntKind.u32) (stepW (4:Nat) (Int.toNat (IntKind.wrap .u32 (↑(BitVec.toNat (BitVec.ofInt (IntKind.bits IntKind.u32) c.int ^^^ BitVec.ofInt (IntKind.bits IntKind.u32) (IntKind.wrap .u32 (U.int (nth (U.i 0) b.list (Int.toNat i.int)))))):Int)) % (16:Nat))) ^^^ BitVec.ofInt (IntKind.bits IntKind.u32) (Int.fdiv (IntKind.wrap .u32 (↑(BitVec.toNat (BitVec.ofInt (IntKind.bits IntKind.u32) c.int ^^^ BitVec.ofInt (IntKind.bits IntKind.u32) (IntKind.wrap .u32 (U.int (nth (U.i 0) b.list (Int.toNat i.int)))))):Int)) ((2:Int) ^ min (Int.toNat 4) (IntKind.bits IntKind.u32))))):Int)) ((2:Int) ^ min (Int.toNat 4) (IntKind.bits IntKind.u32))))):Int)∧IntKind.wrap .u32 (↑(BitVec.toNat (BitVec.ofInt (IntKind.bits IntKind.u32) (stepW (4:Nat) (Int.toNat (IntKind.wrap .u32 (↑(BitVec.toNat (BitVec.ofInt (IntKind.bits IntKind.u32) (stepW (4:Nat) (Int.toNat (IntKind.wrap .u32 (↑(BitVec.toNat (BitVec.ofInt (IntKind.bits IntKind.u32) c.int ^^^ BitVec.ofInt (IntKind.bits IntKind.u32) (IntKind.wrap .u32 (U.int (nth (U.i 0) b.list (Int.toNat i.int)))))):Int)) % (16:Nat))) ^^^ BitVec.ofInt (IntKind.bits IntKind.u32) (Int.fdiv (IntKind.wrap .u32 (↑(BitVec.toNat (BitVec.ofInt (IntKind.bits IntKind.u32) c.int ^^^ BitVec.ofInt (IntKind.bits IntKind.u32) (IntKind.wrap .u32 (U.int (nth (U.i 0) b.list (Int.toNat i.int)))))):Int)) ((2:Int) ^ min (Int.toNat 4) (IntKind.bits IntKind.u32))))):Int)) % (16:Nat))) ^^^ BitVec.ofInt (IntKind.bits IntKind.u32) (Int.fdiv (IntKind.wrap .u32 (↑(BitVec.toNat (BitVec.ofInt (IntKind.bits IntKind.u32) (stepW (4:Nat) (Int.toNat (IntKind.wrap .u32 (↑(BitVec.toNat (BitVec.ofInt (IntKind.bits IntKind.u32) c.int ^^^ BitVec.ofInt (IntKind.bits IntKind.u32) (IntKind.wrap .u32 (U.int (nth (U.i 0) b.list (Int.toNat i.int)))))):Int)) % (16:Nat))) ^^^ BitVec.ofInt (IntKind.bits IntKind.u32) (Int.fdiv (IntKind.wrap .u32 (↑(BitVec.toNat (BitVec.ofInt (IntKind.bits IntKind.u32) c.int ^^^ BitVec.ofInt (IntKind.bits IntKind.u32) (IntKind.wrap .u32 (U.int (nth (U.i 0) b.list (Int.toNat i.int)))))):Int)) ((2:Int) ^ min (Int.toNat 4) (IntKind.bits IntKind.u32))))):Int)) ((2:Int) ^ min (Int.toNat 4) (IntKind.bits IntKind.u32))))):Int) < 4294967296)∧k (Ex.exit 0) (St.mk [(6,.val (.int .u32) (U.i (bytesI (IntKind.wrap .u32 (↑(BitVec.toNat (BitVec.ofInt (IntKind.bits IntKind.u32) (stepW (4:Nat) (Int.toNat (IntKind.wrap .u32 (↑(BitVec.toNat (BitVec.ofInt (IntKind.bits IntKind.u32) (stepW (4:Nat) (Int.toNat (IntKind.wrap .u32 (↑(BitVec.toNat (BitVec.ofInt (IntKind.bits IntKind.u32) c.int ^^^ BitVec.ofInt (IntKind.bits IntKind.u32) (IntKind.wrap .u32 (U.int (nth (U.i 0) b.list (Int.toNat i.int)))))):Int)) % (16:Nat))) ^^^ BitVec.ofInt (IntKind.bits IntKind.u32) (Int.fdiv (IntKind.wrap .u32 (↑(BitVec.toNat (BitVec.ofInt (IntKind.bits IntKind.u32) c.int ^^^ BitVec.ofInt (IntKind.bits IntKind.u32) (IntKind.wrap .u32 (U.int (nth (U.i 0) b.list (Int.toNat i.int)))))):Int)) ((2:Int) ^ min (Int.toNat 4) (IntKind.bits IntKind.u32))))):Int)) % (16:Nat))) ^^^ BitVec.ofInt (IntKind.bits IntKind.u32) (Int.fdiv (IntKind.wrap .u32 (↑(BitVec.toNat (BitVec.ofInt (IntKind.bits IntKind.u32) (stepW (4:Nat) (Int.toNat (IntKind.wrap .u32 (↑(BitVec.toNat (BitVec.ofInt (IntKind.bits IntKind.u32) c.int ^^^ BitVec.ofInt (IntKind.bits IntKind.u32) (IntKind.wrap .u32 (U.int (nth (U.i 0) b.list (Int.toNat i.int)))))):Int)) % (16:Nat))) ^^^ BitVec.ofInt (IntKind.bits IntKind.u32) (Int.fdiv (IntKind.wrap .u32 (↑(BitVec.toNat (BitVec.ofInt (IntKind.bits IntKind.u32) c.int ^^^ BitVec.ofInt (IntKind.bits IntKind.u32) (IntKind.wrap .u32 (U.int (nth (U.i 0) b.list (Int.toNat i.int)))))):Int)) ((2:Int) ^ min (Int.toNat 4) (IntKind.bits IntKind.u32))))):Int)) ((2:Int) ^ min (Int.toNat 4) (IntKind.bits IntKind.u32))))):Int)) (List.drop (Int.toNat (IntKind.wrap .i64 (i.int + 1))) b.list))))] []) else False else False else k (Ex.exit 0) (St.mk [(6,.val (.int .u32) c)] [])):=by kernel_rfl
theorem more_tree (R:RF) (s b:U):(run moreC Try.f52 [[s],[b]] R)=((640=nat_lit 640∧nat_lit 0=nat_lit 0∧U.i (↑(List.length b.list):Int)=U.i (↑(List.length b.list):Int)∧U.i (compl IntKind.u32 s.int)=U.i (compl IntKind.u32 s.int)∧(0:Int)≤0∧(0 :
 Int)≤(↑(List.length b.list):Int)∧(0:Int)≤compl IntKind.u32 s.int∧compl IntKind.u32 s.int < 4294967296)∧R [[U.i (compl IntKind.u32 (bytesI (compl IntKind.u32 s.int) (List.drop (Int.toNat 0)
 b.list)))]]):=by kernel_rfl
noncomputable def gsumC:Ctx:=mkC PR eqs0 (fnsCons 52 moreS fnsNil) trsNil noLoops noOut noOut
theorem sum_tree (R:RF) (b:U):(run gsumC Try.f26 [[b]] R)=(R [[U.i (sumI 0 b.list)]]):=by kernel_rfl
end Go.Mat

namespace Go.Mat
open Go Go.Den Go.Proofs
set_option maxRecDepth 100000
theorem sameI_eq {a b:SV} (h:sameI a b=true):a=b:=by
 unfold sameI at h
 split at h
 ·rw [Bool.and_eq_true] at h
  rw [same_eq h.1,of_decide_eq_true h.2]
 ·cases h
theorem sameL_eq:∀ {l m:List SV},sameL l m=true→l=m
 | [],[],_=>rfl
 | a :: r,b :: s,h=>by
  unfold sameL at h
  rw [Bool.and_eq_true] at h
  rw [sameI_eq h.1,sameL_eq h.2]
 | [],_ :: _,h=>by cases h
 | _ :: _,[],h=>by cases h
theorem wdB_or {l:List SV} (h:wdB l=true):l=wdL0∨l=wdL1:=by
 unfold wdB at h
 rw [Bool.or_eq_true] at h
 exact h.imp sameL_eq sameL_eq
def svV:SV→Value
 | .val (.int k) (.i n)=>.int k n
 | _=>undef
def svOk:SV→Bool
 | .val (.int k) (.i n)=>decide (k.min≤n) && decide (n≤k.max)
 | _=>false
theorem svOk_i {a:SV} (h:svOk a=true):∃ k n,a = .val (.int k) (.i n)∧k.min≤n∧n≤k.max:=by
 unfold svOk at h
 split at h
 ·rename_i k n
  rw [Bool.and_eq_true] at h
  exact ⟨k,n,rfl,of_decide_eq_true h.1,of_decide_eq_true h.2⟩
 ·cases h
theorem svV_rep {w:World} {Z:Nat→Prop} {G:Nat→Value}:∀ {l:List SV} {vs:List Value},l.all svOk=true→RepSVs w Z G l vs→vs=l.map svV
 | [],vs,_,h=>h
 | a :: l,vs,hl,h=>by
  rw [List.all_cons,Bool.and_eq_true] at hl
  obtain ⟨k,n,rfl,_,_⟩:=svOk_i hl.1
  obtain ⟨v,r,rfl,h1,h2⟩:=h
  have h1:v = .int k n:=h1.1
  rw [h1,svV_rep hl.2 h2]
  rfl
theorem rep_svV {w:World} {Z:Nat→Prop} {G:Nat→Value}:∀ {l:List SV},l.all svOk=true→RepSVs w Z G l (l.map svV)
 | [],_=>rfl
 | a :: l,hl=>by
  rw [List.all_cons,Bool.and_eq_true] at hl
  obtain ⟨k,n,rfl,h1,h2⟩:=svOk_i hl.1
  exact ⟨_,_,rfl,⟨rfl,h1,h2⟩,rep_svV hl.2⟩
theorem cell_hp {w:World} {b k:Nat} {C:Array Value} {t:TypeId} {z:Nat × Nat} (h:w.heap[b]? = some (.cells C t z)):w.cell? ⟨b,k,none⟩=C[k]?:=by
 unfold World.cell?
 simp only [h]
 rfl
theorem fz_hp {w:World} {b k:Nat} {C:Array Value} {t:TypeId} (h:w.heap[b]? = some (.cells C t (0,0))):w.frozen? ⟨b,k,none⟩=false:=by
 unfold World.frozen?
 simp [h]
def onceV (C:Array Value):Array Value:=((setV (C.setIfInBounds (0 + 1) (.int .i32 1)) 16).setIfInBounds 0 (.int .u32 1)).setIfInBounds (0 + 1) (.int .i32 0)
theorem hp_once {w:World} {b:Nat} {C:Array Value} {t:TypeId} {z:Nat × Nat} (h:w.heap[b]? = some (.cells C t z)):(onceW b 0 w).heap[b]? = some (.cells (onceV C) t z):=by
 have h2:=hp_tab (hp_same (j:=0 + 1) (v:=.int .i32 1) h) 16
 unfold onceW onceV
 generalize tabW b 0 wordsV 16 (w.setCell ⟨b,0 + 1,none⟩ (.int .i32 1))=w2 at h2 ⊢
 generalize setV (C.setIfInBounds (0 + 1) (.int .i32 1)) 16=C2 at h2 ⊢
 have h3:w2.drew.heap[b]? = some (.cells C2 t z):=h2
 exact hp_same (hp_same h3)
theorem once_other {w:World} {b k:Nat} (hne:k≠b):(onceW b 0 w).heap[k]? = w.heap[k]?:=by
 unfold onceW
 have h2:=hp_tab_other (w:=w.setCell ⟨b,0 + 1,none⟩ (.int .i32 1)) hne 16
 rw [hp_other hne] at h2
 generalize tabW b 0 wordsV 16 (w.setCell ⟨b,0 + 1,none⟩ (.int .i32 1))=w2 at h2 ⊢
 rw [hp_other hne,hp_other hne]
 exact h2
theorem once_size {w:World} {b:Nat}:(onceW b 0 w).heap.size=w.heap.size:=by
 unfold onceW
 have h2:=tab_keeps (b:=b) (w:=w.setCell ⟨b,0 + 1,none⟩ (.int .i32 1)) 16
 generalize tabW b 0 wordsV 16 (w.setCell ⟨b,0 + 1,none⟩ (.int .i32 1))=w2 at h2 ⊢
 rw [World.size_setCell,World.size_setCell,World.size_drew,h2,World.size_setCell]
theorem tab_rest {w:World} {b:Nat}:∀ n,(tabW b 0 wordsV n w).os=w.os∧(tabW b 0 wordsV n w).tape=w.tape∧(tabW b 0 wordsV n w).output=w.output
 | 0=>⟨rfl,rfl,rfl⟩
 | n + 1=>tab_rest n
theorem once_rest {w:World} {b:Nat}:(onceW b 0 w).os=w.os∧(onceW b 0 w).tape=w.tape∧(onceW b 0 w).output=w.output:=by
 unfold onceW
 have h2:=tab_rest (b:=b) (w:=w.setCell ⟨b,0 + 1,none⟩ (.int .i32 1)) 16
 generalize tabW b 0 wordsV 16 (w.setCell ⟨b,0 + 1,none⟩ (.int .i32 1))=w2 at h2 ⊢
 exact h2
def wdV0:Array Value:=(wdL0.map svV).toArray
def wdV1:Array Value:=(wdL1.map svV).toArray
theorem onceV_0:onceV wdV0=wdV1:=by kernel_rfl
theorem wdV0_0:wdV0[0]? = some (.int .u32 0):=by kernel_rfl
theorem wdV0_1:wdV0[1]? = some (.int .i32 0):=by kernel_rfl
theorem wdV0_s:wdV0.size=19:=by kernel_rfl
theorem wdV1_0:wdV1[0]? = some (.int .u32 1):=by kernel_rfl
theorem wdV1_all:((List.range 16).map fun k=>wdV1[3 + k]?)=(List.range 16).map fun k=>some (wordsV k):=by kernel_rfl
theorem wdV1_k (k:Nat) (hk:k < 16):wdV1[3 + k]? = some (wordsV k):=by
 have h:=congrArg (fun l=>l[k]?) wdV1_all
 simp only [List.getElem?_map,List.getElem?_range hk,Option.map_some,Option.some.injEq] at h
 exact h
theorem word_calls0 {w:World} {b:Nat} {m:Nat} {t:TypeId} (h:w.heap[b]? = some (.cells wdV0 t (0,0))) (hb:b < w.heap.size) :
  Calls PR 68 #[.pointer (some ⟨b,0,none⟩),.int .u32 m] w fun e w'=>e = .returned (wordsV (m % 16))∧w'.heap[b]? = some (.cells wdV1 t (0,0))∧Fut (· = b) w w':=by
 refine (sn_word0 b m w hb ((cell_hp h).trans wdV0_0) ((cell_hp h).trans wdV0_1) (fun k hk=>?_) (fz_hp h) (fz_hp h) (fun k _=>fz_hp h)).mono ?_
 ·rw [cell_hp h]
  exact ⟨_,Array.getElem?_eq_getElem (by rw [wdV0_s];omega)⟩
 ·rintro e w' ⟨he,hw⟩
  refine ⟨he,?_⟩
  rw [hw]
  generalize hw1:w.alloc (.cells #[.pointer (some ⟨b,0,none⟩)] 136)=w1
  have h1:w1.heap[b]? = some (.cells wdV0 t (0,0)):=by rw [← hw1];exact (heap_alloc_old _ _ hb).trans h
  have hs:w1.heap.size=w.heap.size + 1:=by rw [← hw1];simp
  have hr:=once_rest (w:=w1) (b:=b)
  refine ⟨by rw [hp_once h1,onceV_0],?_,?_,?_,by rw [once_size,hs];omega,fun k hk hne=>?_⟩
  ·rw [hr.1,← hw1];rfl
  ·rw [hr.2.1,← hw1];rfl
  ·rw [hr.2.2,← hw1];rfl
  ·rw [once_other hne,← hw1];exact heap_alloc_old _ _ hk
theorem word_calls1 {w:World} {b:Nat} {m:Nat} {t:TypeId} (h:w.heap[b]? = some (.cells wdV1 t (0,0))) (hb:b < w.heap.size) :
  Calls PR 68 #[.pointer (some ⟨b,0,none⟩),.int .u32 m] w fun e w'=>e = .returned (wordsV (m % 16))∧w'.heap[b]? = some (.cells wdV1 t (0,0))∧Fut (· = b) w w':=by
 refine (sn_word1 b m w hb ((cell_hp h).trans wdV1_0) (fun k hk=>(cell_hp h).trans (wdV1_k k hk))).mono ?_
 rintro e w' ⟨he,hw⟩
 refine ⟨he,?_⟩
 rw [hw]
 exact ⟨(heap_alloc_old _ _ hb).trans h,rfl,rfl,rfl,by rw [World.size_alloc];omega,fun k hk _=>heap_alloc_old _ _ hk⟩
theorem word_calls {w:World} {b:Nat} {m:Nat} {t:TypeId} {cs:List SV} (h:w.heap[b]? = some (.cells (cs.map svV).toArray t (0,0))) (hb:b < w.heap.size) (hw:cs=wdL0∨cs=wdL1) :
  Calls PR 68 #[.pointer (some ⟨b,0,none⟩),.int .u32 m] w fun e w'=>e = .returned (wordsV (m % 16))∧w'.heap[b]? = some (.cells wdV1 t (0,0))∧Fut (· = b) w w':=by
 rcases hw with rfl | rfl
 ·exact word_calls0 h hb
 ·exact word_calls1 h hb
theorem words_in:∀ r,r < 16→IntKind.min .u32≤stepW 4 r∧stepW 4 r≤IntKind.max .u32:=by decide
theorem word_ok:SpecT PR 68 wordF:=fun fn hfn=>by
 have hf:PR.funcs[(68:Nat)]? = some Try.f68:=by kernel_rfl
 rw [hf] at hfn;cases hfn
 refine { body:=by kernel_rfl,name:=by kernel_rfl,calls:=?_ }
 intro vs objs R hcan hF w Z G args hargs hst
 unfold wordF at hF
 split at hF
 ·rename_i i off u j cells
  obtain ⟨⟨rfl,rfl⟩,hF⟩:=hF
  cases hw:wdB cells with
  | false=>rw [hw] at hF;exact hF.elim
  | true=>
   rw [hw,cond_true] at hF
   have hor:=wdB_or hw
   have hall:cells.all svOk=true:=by rcases hor with rfl | rfl<;>decide
   obtain ⟨pv,t1,rfl,hp,uv,t2,rfl,hu,ht2⟩:=hargs
   have ht2:t2=[]:=ht2
   subst ht2
   obtain ⟨b,hG,rfl⟩:=hp
   obtain ⟨hu1,hu2,hu3⟩:=hu
   have hg1:getO [(i,Obj.box cells)] i=some (.box cells):=by simp [getO]
   have only:∀ (cs:List SV) (k:Nat) (o:Den.Obj),getO [(i,Obj.box cs)] k=some o→k=i∧o = .box cs:=by
    intro cs k o h
    rw [getO_cons] at h
    split at h
    ·rename_i e;cases h;exact ⟨e.symm,rfl⟩
    ·cases h
   obtain ⟨b',ty,c,hG',hheap,hc⟩:=hst.obj i _ hg1
   rw [hG] at hG'
   cases hG'
   have hu2:(0:Int)≤u.int:=hu2
   have hlt:b < w.heap.size:=(Array.getElem?_eq_some_iff.1 hheap).1
   have hcl:c.toList=cells.map svV:=svV_rep hall hc
   have hheap2:w.heap[b]? = some (.cells (cells.map svV).toArray ty (0,0)):=by rw [hheap,← hcl]
   have huv:uv = .int .u32 (u.int.toNat:Nat):=by rw [hu1];congr 1;omega
   have hblk:Blocks G [(i,Obj.box cells)] b:=⟨i,_,hg1,by rw [hG];rfl⟩
   rw [huv]
   refine (word_calls (m:=u.int.toNat) hheap2 hlt hor).mono fun e w' ⟨he,hh,hfut⟩=>?_
   have hin:=words_in _ (Nat.mod_lt u.int.toNat (by decide:0 < 16))
   refine ⟨_,_,Z,G,hF,⟨_,he,rfl,hin.1,hin.2⟩,?_⟩
   exact {
    stand:={
     lt:=fun k hk=>Nat.lt_of_lt_of_le (hst.lt k hk) hfut.size
     flat:=hst.flat
     obj:=fun k o ho=>by
      obtain ⟨rfl,rfl⟩:=only _ _ _ ho
      exact ⟨b,ty,_,hG,hh,rep_svV (by decide)⟩
     sep:=fun k k' o o' c' h1 h2 _ _=>by rw [(only _ _ _ h1).1,(only _ _ _ h2).1]
     free:=fun k o c' h1 h2=>by
      obtain ⟨rfl,rfl⟩:=only _ _ _ h1
      exact hst.free k _ c' hg1 h2 }
    fut:=⟨hfut.os,hfut.tape,hfut.output,hfut.size,fun k hk hnb=>hfut.block k hk fun e=>hnb (by rw [show k=b from e];exact hblk)⟩
    sub:=fun _ h=>h
    new:=fun _ h=>.inl h
    row:=fun _ h=>.inl h
    own:=fun k o c' h1 h2=>by
     obtain ⟨rfl,rfl⟩:=only _ _ _ h1
     rw [hG] at h2
     have h2:some b=some c':=h2
     injection h2 with h2
     subst h2
     exact .inl hblk
    keep:=fun _ _ _ _=>rfl }
 ·exact hF.elim
theorem wd_tab:∀ r:Nat,r < 16→BitVec.ofInt 32 (stepW 4 r)=crc4 (BitVec.ofNat 32 r):=by decide
theorem steps4 {x:Int} (h0:0≤x) (h1:x < 4294967296):stepsI 4 x=((crc4 (BitVec.ofInt 32 x)).toNat:Int):=by
 have e:∀ c:BitVec 32,stepI (c.toNat:Int)=((crcStep c).toNat:Int):=fun c=>by
  unfold stepI
  rw [BitVec.ofInt_natCast,BitVec.ofNat_toNat,BitVec.setWidth_eq]
 show stepI (stepI (stepI (stepI x)))=_
 rw [show x=((BitVec.ofInt 32 x).toNat:Int) from (bv_of h0 h1).symm,e,e,e,e]
 rw [BitVec.ofInt_natCast,BitVec.ofNat_toNat,BitVec.setWidth_eq]
 rfl
theorem crcW_eq {x:Int} (h0:0≤x) (h1:x < 4294967296) :
  IntKind.wrap .u32 ((BitVec.ofInt (IntKind.bits .u32) (stepW 4 (x.toNat % 16)) ^^^ BitVec.ofInt (IntKind.bits .u32) (Int.fdiv x ((2:Int) ^ min (Int.toNat 4) (IntKind.bits .u32)))).toNat:Int)=stepsI 4 x:=by
 rw [show IntKind.bits .u32=32 from rfl,u32_bv,show min (Int.toNat 4) 32=4 from rfl,bv_shr h0 h1,steps4 h0 h1,wd_tab _ (Nat.mod_lt _ (by decide)),crc4_tab (BitVec.ofInt 32 x)]
 have e:BitVec.ofInt 32 x &&& 15#32=BitVec.ofNat 32 (x.toNat % 16):=by
  refine BitVec.eq_of_toNat_eq ?_
  have hx:(BitVec.ofInt 32 x).toNat=x.toNat:=by
   have:=bv_of h0 h1
   omega
  rw [BitVec.toNat_and,hx,show (15#32).toNat=2 ^ 4 - 1 from rfl,Nat.and_two_pow_sub_one_eq_mod,BitVec.toNat_ofNat]
  omega
 rw [e,BitVec.ofInt_natCast,BitVec.ofNat_toNat,BitVec.setWidth_eq]
theorem more_loop:LoopOk moreC 0 (loopBody Try.f52 0):=by
 refine loopOk_of (F:=moreLoop) (ts:=[13,12,11,6,5]) (os:=[640]) rfl (fun svs _=>match svs with | .val _ i :: .val _ n :: _=>(n.int - i.int).toNat | _=>0) ?_
 intro pan svs os k ho1 ho2 h
 unfold moreLoop at h
 split at h
 ·rename_i i n b c p o cells
  obtain ⟨⟨rfl,rfl,rfl,hc',h0,hi,hc0,hc1⟩,hk⟩:=h
  have hb:b.list.length≤maxLen:=ho1.2.2.1.1
  have main:∀ {p q r:Prop},(i.int < b.list.length→p)→(¬ i.int < b.list.length→q)→(bif decide (i.int < (b.list.length:Int)) then bif decide ((0:Int)≤i.int∧i.int < (b.list.length:Int)) then p else r else q):=
   fun h1 h2=>bd (fun hlt=>dt ⟨h0,hlt⟩ (h1 hlt)) h2
  cases hw:wdB cells with
  | false=>rw [hw] at hk;exact hk.elim
  | true=>
   rw [hw,cond_true] at hk
   have hy:=byteI_in c.int (U.at b.list i.int.toNat).int
   have hwi:i.int < b.list.length→IntKind.wrap .i64 (i.int + 1)=i.int + 1:=fun hlt=>i64_in (by omega) (by unfold maxLen at hb;omega)
   have hcn:(i.int + 1).toNat=i.int.toNat + 1:=by omega
   have e8:∀ z:Int,stepsI 4 (stepsI 4 z)=stepsI 8 z:=fun z=>rfl
   have hk1:i.int < b.list.length→k (.exit 0) ⟨[(6,vw (.i (bytesI (byteI c.int (U.at b.list i.int.toNat).int) (b.list.drop (i.int.toNat + 1)))))],[]⟩:=fun hlt=>by
    rw [drop_at (by omega),bytesI] at hk
    exact hk
   have hk2:¬ i.int < b.list.length→k (.exit 0) ⟨[(6,vw c)],[]⟩:=fun hlt=>by
    rw [List.drop_of_length_le (by omega),bytesI,← hc'] at hk
    exact hk
   rcases wdB_or hw with rfl | rfl
   ·refine .eq (more_round0 pan _ _ k i b c) ?_
    refine main (fun hlt=>⟨⟨by trivial,by trivial⟩,⟨by trivial,by trivial⟩,?_⟩) hk2
    rw [crcW_eq (w32_in _).1 (w32_in _).2,crcW_eq (w32_in _).1 (w32_in _).2,e8,hwi hlt,hcn]
    exact blt (by simp only [U.int_i];omega) ⟨⟨by trivial,by trivial,by trivial,by trivial,by omega,by omega,hy.1,hy.2⟩,hk1 hlt⟩
   ·refine .eq (more_round1 pan _ _ k i b c) ?_
    refine main (fun hlt=>⟨⟨by trivial,by trivial⟩,⟨by trivial,by trivial⟩,?_⟩) hk2
    rw [crcW_eq (w32_in _).1 (w32_in _).2,crcW_eq (w32_in _).1 (w32_in _).2,e8,hwi hlt,hcn]
    exact blt (by simp only [U.int_i];omega) ⟨⟨by trivial,by trivial,by trivial,by trivial,by omega,by omega,hy.1,hy.2⟩,hk1 hlt⟩
 ·exact h.elim
theorem more_ok:SpecF PR 52 moreS:=fun fn us hfn=>by
 have hf:PR.funcs[(52:Nat)]? = some Try.f52:=by kernel_rfl
 rw [hf] at hfn;cases hfn
 refine fn_okH (C:=moreC) (mkC_ok eqs0_ok mixed_ok .nil (.cons word_ok .nil)) hf (by kernel_rfl) (loops_one (by kernel_rfl) more_loop) fun hok=>?_
 have hp:Try.f52.params.toList=[22,25]:=by kernel_rfl
 rw [hp] at hok
 obtain ⟨s,b,hus⟩:=more_args hok.1
 subst hus
 refine .eq (more_tree _ s b) ?_
 exact ⟨⟨by trivial,by trivial,by trivial,by trivial,by omega,by omega,(compl_in _).1,(compl_in _).2⟩,rfl⟩
theorem sum_ok:SpecF PR 26 sumS:=fun fn us hfn=>by
 have hf:PR.funcs[(26:Nat)]? = some Try.f26:=by kernel_rfl
 rw [hf] at hfn;cases hfn
 refine fn_okH (C:=gsumC) (mkC_ok eqs0_ok mixed_ok (.cons more_ok .nil) .nil) hf (by kernel_rfl) (loops_none (by kernel_rfl)) fun hok=>?_
 have hp:Try.f26.params.toList=[25]:=by kernel_rfl
 rw [hp] at hok
 obtain ⟨b,hus⟩:=bytes_args hok.1
 subst hus
 exact .eq (sum_tree _ b) rfl
end Go.Mat

namespace Go.Mat
open Go Go.Den Go.Proofs
def lOk:List U→Bool
 | []=>false
 | x :: r=>bif x.int == 255 then lOk r else true
def lK:List U→Nat
 | []=>0
 | x :: r=>bif x.int == 255 then lK r + 1 else 1
def lN:List U→Int→Int
 | [],n=>n
 | x :: r,n=>bif x.int == 255 then lN r (n + 255) else n + x.int
def hOk (h:Int) (r:List U):Bool:=bif decide (h < 15) then true else lOk r
def hK (h:Int) (r:List U):Nat:=bif decide (h < 15) then 0 else lK r
def hN (h:Int) (r:List U):Int:=bif decide (h < 15) then h else lN r h
noncomputable def K62:Ctx:=mkC PR eqs0 fnsNil trsNil noLoops noOut noOut
def cloneS:List (List U)→List (List U):=fun us=>[[.l (nth (.i 0) (nth [] us 0) 0).list]]
def cloneP:List (List U)→Prop:=fun us=>(nth (.i 0) (nth [] us 0) 0).list.length≤1073741824
theorem clone_tree (R:RF) (b:U):(run K62 Try.f24 [[b]] R)=(NilOr (U.list (U.at [b] (0:Nat))=[]) (R [[U.l []]]) (bif decide ((0:Nat) + List.length b.list≤room) && true then R [[U.l ([] ++ b.list)]] else False)):=by kernel_rfl
abbrev nxObjs (a:Int) (b:U):Objs:=[(2097153,.box [vi (.i a)]),(2097281,.box [vl (.int .u8) b])]
noncomputable def nextF:Tr:=fun vs objs k=>match vs,objs with
 | [.ptr pa oa,.ptr pb ob],[(ia,.box [.val (.int .i64) a]),(ib,.box [.val (.sl false [.int .u8]) b])]=>
  (pa=2097153∧oa=0∧pb=2097281∧ob=0∧ia=2097153∧ib=2097281∧0≤a.int∧b.list.length≤1099511627776)∧
  (bif decide (a.int < (b.list.length:Int)) then k (.ret [.val (.int .u8) (U.at b.list a.int.toNat),vb (.b true)]) (nxObjs (a.int + 1) b) else k (.ret [.val (.int .u8) (.i 0),vb (.b false)]) [(2097153,.box [vi a]),(2097281,.box [vl (.int .u8) b])])
 | _,_=>False
theorem next_tree (R:RT) (a b:U):(runD K62 Try.f50 [.ptr 2097153 0,.ptr 2097281 0] [(2097153,.box [vi a]),(2097281,.box [vl (.int .u8) b])] R)=(bif decide (a.int ≥ (↑(List.length b.list):Int)) then R (Out.ret [SV.val (.int .u8) (U.i 0),SV.val Ct.bool (U.b false)]) [(2097153,Obj.box [vi a]),(2097281,Obj.box [SV.val (Ct.sl false [.int .u8])
 b])] else bif decide ((0:Int)≤IntKind.wrap IntKind.i64 (IntKind.wrap IntKind.i64 (a.int + 1) - 1)∧IntKind.wrap IntKind.i64 (IntKind.wrap IntKind.i64 (a.int + 1) - 1) < (↑(List.length b.list):Int))
 then R (Out.ret [SV.val (.int .u8) (nth (U.i 0) b.list (Int.toNat (IntKind.wrap IntKind.i64 (IntKind.wrap IntKind.i64 (a.int + 1) - 1)))),SV.val Ct.bool (U.b true)]) [(2097153,Obj.box [vi (U.i (IntKind.wrap
 IntKind.i64 (a.int + 1)))]),(2097281,Obj.box [SV.val (Ct.sl false [.int .u8]) b])] else False):=by kernel_rfl
abbrev nextV (a b:Nat):SV:=.clo 50 [.ptr a 0,.ptr b 0]
abbrev lenObjs (a:Int) (b:U):Objs:=[(2097153,.box [nextV 2097281 2097409]),(2097281,.box [vi (.i a)]),(2097409,.box [vl (.int .u8) b])]
noncomputable def lenF:Tr:=fun vs objs k=>match vs,objs with
 | [.val (.int .i64) n,.ptr p o],[(i0,.box [.clo f [.ptr pa oa,.ptr pb ob]]),(ia,.box [.val (.int .i64) a]),(ib,.box [.val (.sl false [.int .u8]) b])]=>
  (p=2097153∧o=0∧f=50∧pa=2097281∧oa=0∧pb=2097409∧ob=0∧i0=2097153∧ia=2097281∧ib=2097409∧n = .i n.int∧a = .i a.int∧0≤a.int∧a.int≤b.list.length∧b.list.length≤1099511627776∧0≤n.int∧n.int≤15)∧
  (bif hOk n.int (b.list.drop a.int.toNat) then k (.ret [vi (.i (hN n.int (b.list.drop a.int.toNat))),vb (.b true)]) (lenObjs (a.int + hK n.int (b.list.drop a.int.toNat)) b)
    else ∀ x:U,k (.ret [vi (.i 0),vb (.b false)]) [(2097153,.box [nextV 2097281 2097409]),(2097281,.box [vi x]),(2097409,.box [vl (.int .u8) b])])
 | _,_=>False
noncomputable def lenLoop:LoopF:=fun _ svs os k=>match svs,os with
 | [.val (.int .i64) n,.val (.int .u8) x,.ptr p o],[.box [.clo f [.ptr pa oa,.ptr pb ob]],.box [.val (.int .i64) a],.box [.val (.sl false [.int .u8]) b]]=>
  (p=2097153∧o=0∧f=50∧pa=2097281∧oa=0∧pb=2097409∧ob=0∧n = .i n.int∧0≤a.int∧a = .i a.int∧a.int≤b.list.length∧b.list.length≤1099511627776∧0≤n.int∧n.int≤15 + 255 * a.int)∧
  (bif decide (n.int < 15) || !(x.int == 255) then k (.exit 0) ⟨[(0,vi n),(1,.ptr 2097153 0)],[(2097153,.box [nextV 2097281 2097409]),(2097281,.box [vi a]),(2097409,.box [vl (.int .u8) b])]⟩
    else bif lOk (b.list.drop a.int.toNat) then k (.exit 0) ⟨[(0,vi (.i (lN (b.list.drop a.int.toNat) n.int))),(1,.ptr 2097153 0)],lenObjs (a.int + lK (b.list.drop a.int.toNat)) b⟩
    else ∀ y:U,k .ret ⟨[(3,vi (.i 0)),(4,vb (.b false))],[(2097153,.box [nextV 2097281 2097409]),(2097281,.box [vi y]),(2097409,.box [vl (.int .u8) b])]⟩)
 | _,_=>False
noncomputable def lenC:Ctx:=mkC PR eqs0 fnsNil (trsCons 50 [] nextF trsNil) (loopCons 0 [0,5,1] [2097153,2097281,2097409] lenLoop noLoops)
 (outCons 1048576 [3,4] [2097153,2097281,2097409] (outCons 0 [0,1] [2097153,2097281,2097409] noOut)) noOut
theorem len_round (pan:KP) (μ:Mu) (N:Nat) (k:KE) (n x a b:U):(exec (lenC.panics pan) (loopBody Try.f51 0) 0 ⟨[(0,vi n),(5,.val (.int .u8) x),(1,.ptr 2097153 0)],[(2097153,.box [nextV 2097281 2097409]),(2097281,.box [vi a]),(2097409,.box [vl (.int .u8) b])]⟩ (again PR (some ([0,1],[2097153,2097281,2097409])) (some ([3,4],[2097153,2097281,2097409])) pan [0,5,1] [2097153,2097281,2097409] lenLoop μ N k))=(bif decide (n.int ≥ 15) then bif x.int == 255 then (2097153=nat_lit 2097153∧nat_lit 0=nat_lit 0∧nat_lit 2097281=nat_lit 2097281∧nat_lit 0=nat_lit 0∧nat_lit 2097153=nat_lit 2097153∧nat_lit 2097281=nat_lit 2097281∧(0:Int)≤a.int∧b.list.length≤(1099511627776:Nat))∧bif decide (a.int < (b.list.length:Int)) then bif Nat.blt (μ [vi (U.i (IntKind.wrap .i64 (n.int + IntKind.wrap .i64 (U.int (nth (U.i 0) b.list (Int.toNat a.int)))))),.val (.int .u8) (nth (U.i 0) b.list (Int.toNat a.int)),.ptr 2097153 0] [.box [.clo 50 [.ptr 2097281 0,.ptr 2097409 0]],.box [vi (U.i (a.int + 1))],.box [.val (.sl false [.int .u8]) b]]) N then (2097153=nat_lit 2097153∧nat_lit 0=nat_lit 0∧nat_lit 50=nat_lit 50∧nat_lit 2097281=nat_lit 2097281∧nat_lit 0=nat_lit 0∧nat_lit 2097409=nat_lit 2097409∧nat_lit 0=nat_lit 0∧U.i (IntKind.wrap .i64 (n.int + IntKind.wrap .i64 (U.int (nth (U.i 0) b.list (Int.toNat a.int)))))=U.i (IntKind.wrap .i64 (n.int + IntKind.wrap .i64 (U.int (nth (U.i 0) b.list (Int.toNat a.int)))))∧(0:Int)≤a.int + 1∧U.i (a.int + 1)=U.i (a.int + 1)∧a.int + (1:Int)≤(b.list.length:Int)∧b.list.length≤(1099511627776:Nat)∧(0:Int)≤IntKind.wrap .i64 (n.int + IntKind.wrap .i64 (U.int (nth (U.i 0) b.list (Int.toNat a.int))))∧IntKind.wrap .i64 (n.int + IntKind.wrap .i64 (U.int (nth (U.i 0) b.list (Int.toNat a.int))))≤15 + 255 * (a.int + 1))∧bif decide (IntKind.wrap .i64 (n.int + IntKind.wrap .i64 (U.int (nth (U.i 0) b.list (Int.toNat a.int)))) < 15) || !U.int (nth (U.i 0) b.list (Int.toNat a.int)) == 255 then k (Ex.exit 0) (St.mk [(0,vi (U.i (IntKind.wrap .i64 (n.int + IntKind.wrap .i64 (U.int (nth (U.i 0) b.list (Int.toNat a.int))))))),(1,.ptr 2097153 0)] [(2097153,.box [.clo 50 [.ptr 2097281 0,.ptr 2097409 0]]),(2097281,.box [vi (U.i (a.int + 1))]),(2097409,.box [.val (.sl false [.int .u8]) b])]) else bif lOk (List.drop (Int.toNat (a.int + 1)) b.list) then k (Ex.exit 0) (St.mk [(0,vi (U.i (lN (List.drop (Int.toNat (a.int + 1)) b.list) (IntKind.wrap .i64 (n.int + IntKind.wrap .i64 (U.int (nth (U.i 0) b.list (Int.toNat a.int)))))))),(1,.ptr 2097153 0)] [(2097153,.box [.clo 50 [.ptr 2097281 0,.ptr 2097409 0]]),(2097281,.box [vi (U.i (a.int + 1 + (↑(lK (List.drop (Int.toNat (a.int + 1)) b.list)):Int)))]),(2097409,.box [.val (.sl false [.int .u8]) b])]) else ∀ (y:U),k Ex.ret (St.mk [(3,vi (U.i 0)),(4,.val .bool (U.b false))] [(2097153,.box [.clo 50 [.ptr 2097281 0,.ptr 2097409 0]]),(2097281,.box [vi y]),(2097409,.box [.val (.sl false [.int .u8]) b])]) else False else k Ex.ret (St.mk [(3,vi (U.i 0)),(4,.val .bool (U.b false))] [(2097153,.box [.clo 50 [.ptr 2097281 0,.ptr 2097409 0]]),(2097281,.box [vi a]),(2097409,.box [.val (.sl false [.int .u8]) b])]) else k (Ex.exit 0) (St.mk [(0,vi n),(1,.ptr 2097153 0)] [(2097153,.box [.clo 50 [.ptr 2097281 0,.ptr 2097409 0]]),(2097281,.box [vi a]),(2097409,.box [.val (.sl false [.int .u8]) b])]) else k (Ex.exit 0) (St.mk [(0,vi n),(1,.ptr 2097153 0)] [(2097153,.box [.clo 50 [.ptr 2097281 0,.ptr 2097409 0]]),(2097281,.box [vi a]),(2097409,.box [.val (.sl false [.int .u8]) b])])):=by kernel_rfl
theorem len_tree (R:RT) (n a b:U):(runD lenC Try.f51 [vi n,.ptr 2097153 0] [(2097153,.box [nextV 2097281 2097409]),(2097281,.box [vi a]),(2097409,.box [vl (.int .u8) b])] R)=((2097153=nat_lit 2097153∧nat_lit 0=nat_lit 0∧nat_lit 50=nat_lit 50∧nat_lit 2097281=nat_lit 2097281∧nat_lit 0=nat_lit 0∧nat_lit 2097409=nat_lit 2097409∧nat_lit 0=nat_lit 0∧n
 = U.i n.int∧(0:Int)≤a.int∧a=U.i a.int∧a.int≤(↑(List.length b.list):Int)∧List.length b.list≤(1099511627776:Nat)∧(0:Int)≤n.int∧n.int≤15 + 255 * a.int)∧bif decide (n.int
 < 15) || !(255:Int) == 255 then R (Out.ret [vi n,SV.val Ct.bool (U.b true)]) [(2097153,Obj.box [SV.clo 50 [SV.ptr 2097281 0,SV.ptr 2097409 0]]),(2097281,Obj.box [vi a]),(2097409,Obj.box [SV.val
 (Ct.sl false [.int .u8]) b])] else bif lOk (List.drop (Int.toNat a.int) b.list) then R (Out.ret [vi (U.i (lN (List.drop (Int.toNat a.int) b.list) n.int)),SV.val Ct.bool (U.b true)]) [(2097153,Obj.box
 [SV.clo 50 [SV.ptr 2097281 0,SV.ptr 2097409 0]]),(2097281,Obj.box [vi (U.i (a.int + (↑(lK (List.drop (Int.toNat a.int) b.list)):Int)))]),(2097409,Obj.box [SV.val (Ct.sl false [.int .u8]) b])] else
 ∀ (y:U),R (Out.ret [vi (U.i 0),SV.val Ct.bool (U.b false)]) [(2097153,Obj.box [SV.clo 50 [SV.ptr 2097281 0,SV.ptr 2097409 0]]),(2097281,Obj.box [vi y]),(2097409,Obj.box [SV.val (Ct.sl false [.int
 .u8]) b])]):=by kernel_rfl
end Go.Mat

namespace Go.Mat
open Go Go.Den Go.Proofs
set_option maxRecDepth 100000
theorem u8_row {b:U} (h:okC (.sl false [.int .u8]) b) {k:Nat} (hk:k < b.list.length):0≤(U.at b.list k).int∧(U.at b.list k).int≤255:=(h.2 k hk).1
theorem norP {e:Prop} {x y:Prop} (hx:e→x) (hy:y):NilOr e x y:=⟨hx,hy⟩
theorem clone_ok:SpecFP PR 24 cloneP cloneS:=fun fn us hfn hpre=>by
 have hf:PR.funcs[(24:Nat)]? = some Try.f24:=by kernel_rfl
 rw [hf] at hfn;cases hfn
 refine fn_okH (C:=K62) (mkC_ok eqs0_ok mixed_ok .nil .nil) hf (by kernel_rfl) (loops_none (by kernel_rfl)) fun hok=>?_
 have hp:Try.f24.params.toList=[25]:=by kernel_rfl
 rw [hp] at hok
 obtain ⟨b,hus⟩:=bytes_args hok.1
 subst hus
 refine .eq (clone_tree _ b) (norP (fun h=>?_) (broom ?_ rfl ?_))
 ·have h:b.list=[]:=h
  show [[U.l []]]=[[U.l b.list]]
  rw [h]
 ·have h:b.list.length≤1073741824:=hpre
  unfold room
  omega
 ·rfl
theorem next_ok:SpecT PR 50 nextF:=fun fn hfn=>by
 have hf:PR.funcs[(50:Nat)]? = some Try.f50:=by kernel_rfl
 rw [hf] at hfn;cases hfn
 refine fnT_okH (C:=K62) (mkC_ok eqs0_ok mixed_ok .nil .nil) hf (by kernel_rfl) (loops_none (by kernel_rfl)) fun vs objs R g1 g2 h=>?_
 clear g1 g2
 unfold nextF at h
 split at h
 ·rename_i pa oa pb ob ia a ib b
  obtain ⟨⟨rfl,rfl,rfl,rfl,rfl,rfl,h0,hb⟩,h⟩:=h
  refine .eq (next_tree R a b) ?_
  refine bd (fun hge=>?_) (fun hlt=>?_)
  ·rw [decide_eq_false (by omega),cond_false] at h
   exact h
  ·rw [decide_eq_true (by omega),cond_true] at h
   rw [i64_in (x:=a.int + 1) (by omega) (by omega),show a.int + 1 - 1=a.int by omega,i64_in (x:=a.int) (by omega) (by omega)]
   exact dt ⟨h0,by omega⟩ h
 ·exact h.elim
theorem lK_le:∀ (r:List U),lK r≤r.length
 | []=>Nat.le_refl _
 | x :: r=>by
  unfold lK
  have:=lK_le r
  cases (x.int == 255)<;>simp only [cond_true,cond_false,List.length_cons]<;>omega
theorem lN_bd:∀ (r:List U) {n:Int},(∀ k,k < r.length→0≤(U.at r k).int∧(U.at r k).int≤255)→n≤lN r n∧lN r n≤n + 255 * r.length
 | [],n,_=>by simp [lN]
 | x :: r,n,h=>by
  unfold lN
  have h0:=h 0 (by simp)
  have h0:0≤x.int∧x.int≤255:=h0
  have hr:=lN_bd r (n:=n + 255) (fun k hk=>h (k + 1) (by simpa using hk))
  cases (x.int == 255)<;>simp only [cond_true,cond_false,List.length_cons]<;>omega
theorem u8_drop {b:List U} {n:Nat} (h:∀ k,k < b.length→0≤(U.at b k).int∧(U.at b k).int≤255):∀ k,k < (b.drop n).length→0≤(U.at (b.drop n) k).int∧(U.at (b.drop n) k).int≤255:=fun k hk=>by
 rw [List.length_drop] at hk
 rw [U.at,nth_drop]
 exact h (n + k) (by omega)
theorem hN_bd {h:Int} {r:List U} (h0:0≤h) (hr:∀ k,k < r.length→0≤(U.at r k).int∧(U.at r k).int≤255):0≤hN h r∧hN h r≤h + 255 * r.length:=by
 unfold hN
 have:=lN_bd r (n:=h) hr
 cases decide (h < 15)<;>simp only [cond_true,cond_false]<;>omega
theorem hK_le (h:Int) (r:List U):hK h r≤r.length:=by
 unfold hK
 have:=lK_le r
 cases decide (h < 15)<;>simp only [cond_true,cond_false]<;>omega
theorem len_loop:LoopOk lenC 0 (loopBody Try.f51 0):=by
 refine loopOk_of (F:=lenLoop) (ts:=[0,5,1]) (os:=[2097153,2097281,2097409]) rfl (fun _ os=>match os with | [_,.box [.val _ a],.box [.val _ b]]=>((b.list.length:Int) - a.int).toNat | _=>0) ?_
 intro pan svs os k ho1 ho2 h
 unfold lenLoop at h
 split at h
 ·rename_i n x p o f pa oa pb ob a b
  obtain ⟨⟨rfl,rfl,rfl,rfl,rfl,rfl,rfl,hn,ha0,ha,hab,hb,hn0,hn1⟩,hk⟩:=h
  have hbk:=fun k hk=>u8_row (k:=k) ho2.2.2.1.1 hk
  refine .eq (len_round pan _ _ k n x a b) ?_
  refine bd (fun h15=>?_) (fun h15=>?_)
  ·rw [show decide (n.int < 15)=false from decide_eq_false (by omega),Bool.false_or] at hk
   refine bi (fun hx=>?_) (fun hx=>?_)
   ·rw [hx,Bool.not_true,cond_false] at hk
    refine ⟨⟨by trivial,by trivial,by trivial,by trivial,by trivial,by trivial,ha0,hb⟩,bd (fun hlt=>?_) (fun hlt=>?_)⟩
    ·have hy:=hbk a.int.toNat (by omega)
     have hw:IntKind.wrap .i64 (nth (.i 0) b.list a.int.toNat).int=(nth (.i 0) b.list a.int.toNat).int:=i64_in (by have:=hy.1;unfold U.at at this;omega) (by have:=hy.2;unfold U.at at this;omega)
     have hy:0≤(nth (.i 0) b.list a.int.toNat).int∧(nth (.i 0) b.list a.int.toNat).int≤255:=hy
     rw [hw,i64_in (x:=n.int + _) (by omega) (by omega)]
     rw [drop_at (by omega),lOk,lK,lN] at hk
     have hc:(a.int + 1).toNat=a.int.toNat + 1:=by omega
     rw [hc]
     refine blt (by simp only [U.int_i];omega) ⟨⟨by trivial,by trivial,by trivial,by trivial,by trivial,by trivial,by trivial,by trivial,by omega,by trivial,by omega,hb,by omega,by omega⟩,?_⟩
     rw [show decide (n.int + (nth (.i 0) b.list a.int.toNat).int < 15)=false from decide_eq_false (by omega),Bool.false_or]
     have hu:U.at b.list a.int.toNat=nth (.i 0) b.list a.int.toNat:=rfl
     cases he:((nth (.i 0) b.list a.int.toNat).int == 255) with
     | true=>
      have hev:(nth (.i 0) b.list a.int.toNat).int=255:=by simpa using he
      rw [hu,he] at hk
      rw [Bool.not_true,cond_false,hev]
      simp only [cond_true] at hk
      refine bi (fun hl=>?_) (fun hl=>?_)
      ·rw [hl,cond_true] at hk
       have e:a.int + ((lK (b.list.drop (a.int.toNat + 1)) + 1:Nat):Int)=a.int + 1 + (lK (b.list.drop (a.int.toNat + 1)):Int):=by omega
       rw [e] at hk
       exact hk
      ·rw [hl,cond_false] at hk
       exact hk
     | false=>
      rw [hu,he] at hk
      simp only [cond_false,cond_true] at hk
      exact hk
    ·rw [List.drop_of_length_le (by omega),lOk,cond_false] at hk
     exact hk a
   ·rw [hx,Bool.not_false,cond_true] at hk
    exact hk
  ·rw [show decide (n.int < 15)=true from decide_eq_true (by omega),Bool.true_or,cond_true] at hk
   exact hk
 ·exact h.elim
theorem len_ok:SpecT PR 51 lenF:=fun fn hfn=>by
 have hf:PR.funcs[(51:Nat)]? = some Try.f51:=by kernel_rfl
 rw [hf] at hfn;cases hfn
 refine fnT_okH (C:=lenC) (mkC_ok eqs0_ok mixed_ok .nil (.cons next_ok .nil)) hf (by kernel_rfl) (loops_one (by kernel_rfl) len_loop) fun vs objs R g1 g2 h=>?_
 unfold lenF at h
 split at h
 ·rename_i n p o i0 f pa oa pb ob ia a ib b
  obtain ⟨⟨rfl,rfl,rfl,rfl,rfl,rfl,rfl,rfl,rfl,rfl,hn,ha,ha0,hab,hb,hn0,hn1⟩,h⟩:=h
  clear g1 g2
  refine .eq (len_tree R n a b) ?_
  refine ⟨⟨by trivial,by trivial,by trivial,by trivial,by trivial,by trivial,by trivial,hn,ha0,ha,hab,hb,hn0,by omega⟩,?_⟩
  unfold hOk hK hN at h
  rw [show ((255:Int) == 255)=true from rfl,Bool.not_true,Bool.or_false]
  refine bd (fun h15=>?_) (fun h15=>?_)
  ·rw [decide_eq_true h15,cond_true,cond_true,cond_true,cond_true,← hn,show a.int + ((0:Nat):Int)=a.int by omega,] at h
   rw [lenObjs,← ha] at h
   exact h
  ·rw [decide_eq_false h15] at h
   simp only [cond_false] at h
   exact h
 ·exact h.elim
end Go.Mat

namespace Go.Mat
open Go Go.Den Go.Proofs
def litE:Nat→List U→Nat→Int
 | 0,_,_=>0
 | _ + 1,[],_=>3
 | n + 1,_ :: r,f=>bif decide (f=0) then 2 else litE n r (f - 1)
def cpL:Nat→Nat→List U→List U
 | 0,_,out=>out
 | m + 1,d,out=>cpL m d (out ++ [U.at out (out.length - d)])
def uH (b:List U) (a:Int):Int:=(U.at b a.toNat).int / 16
def uL (b:List U) (a:Int):Int:=(U.at b a.toNat).int % 16
def uOk (b:List U) (a:Int):Bool:=hOk (uH b a) (b.drop (a + 1).toNat)
def uN (b:List U) (a:Int):Int:=hN (uH b a) (b.drop (a + 1).toNat)
def uA (b:List U) (a:Int):Int:=a + 1 + hK (uH b a) (b.drop (a + 1).toNat)
def uB (b:List U) (a:Int):Int:=uA b a + uN b a
def uOut (b:List U) (a:Int) (out:List U):List U:=out ++ (b.drop (uA b a).toNat).take (uN b a).toNat
def uD (b:List U) (a:Int):Int:=(U.at b (uB b a).toNat).int + 256 * (U.at b (uB b a + 1).toNat).int
def uBad (b:List U) (a:Int) (out:List U):Bool:=decide ((b.length:Int) < uB b a + 2) || (uD b a == 0) || decide (((uOut b a out).length:Int) < uD b a) || !(hOk (uL b a) (b.drop (uB b a + 2).toNat))
def uM (b:List U) (a:Int):Int:=hN (uL b a) (b.drop (uB b a + 2).toNat)
def uC (b:List U) (a:Int):Int:=uB b a + 2 + hK (uL b a) (b.drop (uB b a + 2).toNat)
def unp (b:List U) (room:Int):Nat→Int→List U→Int × List U
 | 0,_,_=>(3,[])
 | f + 1,a,out=>bif decide (a < (b.length:Int)) && uOk b a then
   bif litE (uN b a).toNat (b.drop (uA b a).toNat) (room - out.length).toNat == 0 then
    bif decide (uB b a=(b.length:Int)) then (0,uOut b a out) else
    bif uBad b a out then (3,[]) else
    bif decide (room - (uOut b a out).length < uM b a + 4) then (2,[]) else
    bif decide (uC b a=(b.length:Int)) then (0,cpL (uM b a + 4).toNat (uD b a).toNat (uOut b a out)) else unp b room f (uC b a) (cpL (uM b a + 4).toNat (uD b a).toNat (uOut b a out))
   else (litE (uN b a).toNat (b.drop (uA b a).toNat) (room - out.length).toNat,[])
  else (3,[])
def unpX (b:List U) (room:Int):Int × List U:=bif decide (room < 0) || decide (1048576 < room) then (1,[]) else unp b room (b.length + 1) 0 []
def unpP:List (List U)→Prop:=fun us=>(nth (.i 0) (nth [] us 0) 0).list.length≤1073741824
def unpS:List (List U)→List (List U):=fun us=>[[.l (bif (unpX (nth (.i 0) (nth [] us 0) 0).list (nth (.i 0) (nth [] us 1) 0).int).1 == 0 then (unpX (nth (.i 0) (nth [] us 0) 0).list (nth (.i 0) (nth [] us 1) 0).int).2 else [])],[.i (unpX (nth (.i 0) (nth [] us 0) 0).list (nth (.i 0) (nth [] us 1) 0).int).1]]
abbrev lenV:SV:=.clo 51 [.ptr 896 0]
abbrev uObjs (b:U) (a:Int) (xs:List U):Objs:=[(256,.box [vl (.int .u8) b]),(768,.box [vi (.i a)]),(896,.box [nextV 768 256]),(1276,.arr u8T xs)]
noncomputable def unpLoop0:LoopF:=fun _ svs os k=>match svs,os with
 | [.ptr p7 o7,.clo g [.ptr pg og],.own o,.val (.int .i64) m,.ptr p6 o6,.ptr p2 o2],[.box [.val (.sl false [.int .u8]) b],.box [.val (.int .i64) a],.box [.clo f [.ptr pa oa,.ptr pb ob]],.arr e xs]=>
  (p7=896∧o7=0∧g=51∧pg=896∧og=0∧o=1276∧p6=768∧o6=0∧p2=256∧o2=0∧f=50∧pa=768∧oa=0∧pb=256∧ob=0∧e=u8T∧a = .i a.int∧
    0≤a.int∧a.int≤b.list.length∧b.list.length≤1073741824∧0≤m.int∧m.int≤1048576∧(xs.length:Int)≤m.int)∧
  (bif (unp b.list m.int (b.list.length + 1 - a.int.toNat) a.int xs).1 == 0 then k .ret ⟨[(4,.own 1276),(5,vi (.i 0))],[(1276,.arr u8T (unp b.list m.int (b.list.length + 1 - a.int.toNat) a.int xs).2)]⟩
    else ∀ x:U,k .ret ⟨[(4,.own 636),(5,vi (.i (unp b.list m.int (b.list.length + 1 - a.int.toNat) a.int xs).1))],[(636,.arr u8T []),(1276,.arr u8T x.list)]⟩)
 | _,_=>False
noncomputable def unpLoop2:LoopF:=fun _ svs os k=>match svs,os with
 | [.val (.int .i64) i,.val (.int .i64) n,.ptr p7 o7,.clo g [.ptr pg og],.own o,.val (.int .i64) m,.ptr p6 o6,.ptr p2 o2,.val (.int .u8) t],[.box [.val (.sl false [.int .u8]) b],.box [.val (.int .i64) a],.box [.clo f [.ptr pa oa,.ptr pb ob]],.arr e xs]=>
  (p7=896∧o7=0∧g=51∧pg=896∧og=0∧o=1276∧p6=768∧o6=0∧p2=256∧o2=0∧f=50∧pa=768∧oa=0∧pb=256∧ob=0∧e=u8T∧a = .i a.int∧
    0≤a.int∧a.int≤b.list.length∧b.list.length≤1073741824∧0≤m.int∧m.int≤1048576∧(xs.length:Int)≤m.int∧0≤i.int∧i.int≤n.int∧n.int≤1099511627776)∧
  (bif litE (n.int - i.int).toNat (b.list.drop a.int.toNat) (m.int - xs.length).toNat == 0 then
    k (.exit 2) ⟨[(7,.ptr 896 0),(8,lenV),(9,.own 1276),(1,vi m),(6,.ptr 768 0),(2,.ptr 256 0),(10,.val (.int .u8) t)],uObjs b (a.int + (n.int - i.int)) (xs ++ (b.list.drop a.int.toNat).take (n.int - i.int).toNat)⟩
    else ∀ x:U,k .ret ⟨[(4,.own 636),(5,vi (.i (litE (n.int - i.int).toNat (b.list.drop a.int.toNat) (m.int - xs.length).toNat)))],[(636,.arr u8T []),(1276,.arr u8T x.list)]⟩)
 | _,_=>False
noncomputable def unpLoop5:LoopF:=fun _ svs os k=>match svs,os with
 | [.val (.int .i64) i,.val (.int .i64) n,.ptr p7 o7,.clo g [.ptr pg og],.own o,.val (.int .i64) m,.ptr p6 o6,.ptr p2 o2,.val (.int .i64) d],[.box [.val (.sl false [.int .u8]) b],.box [.val (.int .i64) a],.box [.clo f [.ptr pa oa,.ptr pb ob]],.arr e xs]=>
  (p7=896∧o7=0∧g=51∧pg=896∧og=0∧o=1276∧p6=768∧o6=0∧p2=256∧o2=0∧f=50∧pa=768∧oa=0∧pb=256∧ob=0∧e=u8T∧a = .i a.int∧
    0≤a.int∧a.int≤b.list.length∧b.list.length≤1073741824∧0≤m.int∧m.int≤1048576∧(xs.length:Int)≤m.int∧0≤i.int∧i.int≤n.int∧n.int≤1099511627776∧1≤d.int∧d.int≤(xs.length:Int))∧
  (bif decide (m.int - xs.length < n.int - i.int) then ∀ x:U,k .ret ⟨[(4,.own 636),(5,vi (.i 2))],[(636,.arr u8T []),(1276,.arr u8T x.list)]⟩
    else k (.exit 5) ⟨[(7,.ptr 896 0),(8,lenV),(9,.own 1276),(1,vi m),(6,.ptr 768 0),(2,.ptr 256 0)],uObjs b a.int (cpL (n.int - i.int).toNat d.int.toNat xs)⟩)
 | _,_=>False
noncomputable def unpC:Ctx:=mkC PR eqs0 fnsNil (trsCons 50 [] nextF (trsCons 51 [] lenF trsNil))
 (loopCons 0 [7,8,9,1,6,2] [256,768,896,1276] unpLoop0 (loopCons 2 [45,44,7,8,9,1,6,2,10] [256,768,896,1276] unpLoop2 (loopCons 5 [110,109,7,8,9,1,6,2,18] [256,768,896,1276] unpLoop5 noLoops)))
 (outCons 1048576 [4,5] [636,1276] (outCons 1048578 [4,5] [636,1276] (outCons 1048581 [4,5] [636,1276] (outCons 2 [7,8,9,1,6,2,10] [256,768,896,1276] (outCons 5 [7,8,9,1,6,2] [256,768,896,1276] noOut))))) noOut
def tH (b a:U):Int:=IntKind.wrap IntKind.i64 (Int.fdiv (U.int (nth (U.i 0) b.list (Int.toNat a.int))) ((2:Int) ^ min (Int.toNat 4) (IntKind.bits IntKind.u8)))
def tA (b a:U):Int:=a.int + 1 + ((hK (tH b a) (List.drop (Int.toNat (a.int + 1)) b.list):Nat):Int)
def tN (b a:U):Int:=hN (tH b a) (List.drop (Int.toNat (a.int + 1)) b.list)
def tB (b a:U):Int:=tA b a + (tN b a - 0)
def tO (b a:U) (xs:List U):List U:=xs ++ List.take (Int.toNat (tN b a - 0)) (List.drop (Int.toNat (tA b a)) b.list)
def tL (b a:U):Int:=IntKind.wrap IntKind.i64 (IntKind.wrap IntKind.u8 ((BitVec.toNat (BitVec.ofInt (IntKind.bits IntKind.u8) (U.int (nth (U.i 0) b.list (Int.toNat a.int))) &&& BitVec.ofInt (IntKind.bits IntKind.u8) 15):Nat):Int))
def tD (b a:U):Int:=IntKind.wrap IntKind.i64 ((BitVec.toNat (BitVec.ofInt (IntKind.bits IntKind.i64) (IntKind.wrap IntKind.i64 (U.int (nth (U.i 0) b.list (Int.toNat (tB b a))))) ||| BitVec.ofInt (IntKind.bits IntKind.i64) (IntKind.wrap IntKind.i64 (IntKind.wrap IntKind.i64 (U.int (nth (U.i 0) b.list (Int.toNat (tB b a + 1)))) * 2 ^ min (Int.toNat 8) (IntKind.bits IntKind.i64)))):Nat):Int)
def tC (b a:U):Int:=tB b a + 1 + 1 + ((hK (tL b a) (List.drop (Int.toNat (tB b a + 1 + 1)) b.list):Nat):Int)
def tM (b a:U):Int:=IntKind.wrap IntKind.i64 (hN (tL b a) (List.drop (Int.toNat (tB b a + 1 + 1)) b.list) + 4)
def tP (b a:U) (xs:List U):List U:=cpL (Int.toNat (tM b a - 0)) (Int.toNat (tD b a)) (tO b a xs)
theorem unp_round2 (pan:KP) (μ:Mu) (N:Nat) (k:KE) (i n m t b a:U) (xs:List U):(exec (unpC.panics pan) (loopBody Try.f25 1) 2 ⟨[(45,vi i),(44,vi n),(7,.ptr 896 0),(8,lenV),(9,.own 1276),(1,vi m),(6,.ptr 768 0),(2,.ptr 256 0),(10,.val (.int .u8) t)],[(256,.box [vl (.int .u8) b]),(768,.box [vi a]),(896,.box [nextV 768 256]),(1276,.arr u8T xs)]⟩ (again PR (some ([7,8,9,1,6,2,10],[256,768,896,1276])) (some ([4,5],[636,1276])) pan [45,44,7,8,9,1,6,2,10] [256,768,896,1276] unpLoop2 μ N k))=(bif decide (i.int < n.int) then (2097153=nat_lit 2097153∧nat_lit 0=nat_lit 0∧nat_lit 2097281=nat_lit 2097281∧nat_lit 0=nat_lit 0∧nat_lit 2097153=nat_lit 2097153∧nat_lit 2097281=nat_lit 2097281∧(0:Int)≤a.int∧b.list.length≤(1099511627776:Nat))∧bif decide (a.int < (b.list.length:Int)) then bif (xs.length:Int) == m.int then k Ex.ret (St.mk [(4,.own 636),(5,vi (U.i 2))] [(636,.arr 5 []),(1276,.arr 5 xs)]) else bif decide (List.length xs + 1≤room) && true then bif Nat.blt (μ [vi (U.i (IntKind.wrap .i64 (i.int + 1))),vi n,.ptr 896 0,.clo 51 [.ptr 896 0],.own 1276,vi m,.ptr 768 0,.ptr 256 0,.val (.int .u8) t] [.box [.val (.sl false [.int .u8]) b],.box [vi (U.i (a.int + 1))],.box [.clo 50 [.ptr 768 0,.ptr 256 0]],.arr 5 (xs ++ [nth (U.i 0) b.list (Int.toNat a.int)])]) N then (896=nat_lit 896∧nat_lit 0=nat_lit 0∧nat_lit 51=nat_lit 51∧nat_lit 896=nat_lit 896∧nat_lit 0=nat_lit 0∧nat_lit 1276=nat_lit 1276∧nat_lit 768=nat_lit 768∧nat_lit 0=nat_lit 0∧nat_lit 256=nat_lit 256∧nat_lit 0=nat_lit 0∧nat_lit 50=nat_lit 50∧nat_lit 768=nat_lit 768∧nat_lit 0=nat_lit 0∧nat_lit 256=nat_lit 256∧nat_lit 0=nat_lit 0∧nat_lit 5=nat_lit 5∧U.i (a.int + 1)=U.i (a.int + 1)∧(0:Int)≤a.int + 1∧a.int + (1:Int)≤(b.list.length:Int)∧b.list.length≤(1073741824:Nat)∧(0:Int)≤m.int∧m.int≤1048576∧(↑(List.length (xs ++ [nth (U.i 0) b.list (Int.toNat a.int)])):Int)≤m.int∧(0:Int)≤IntKind.wrap .i64 (i.int + 1)∧IntKind.wrap .i64 (i.int + 1)≤n.int∧n.int≤1099511627776)∧bif litE (Int.toNat (n.int - IntKind.wrap .i64 (i.int + 1))) (List.drop (Int.toNat (a.int + 1)) b.list) (Int.toNat (m.int - (↑(List.length (xs ++ [nth (U.i 0) b.list (Int.toNat a.int)])):Int))) == 0 then k (Ex.exit 2) (St.mk [(7,.ptr 896 0),(8,.clo 51 [.ptr 896 0]),(9,.own 1276),(1,vi m),(6,.ptr 768 0),(2,.ptr 256 0),(10,.val (.int .u8) t)] [(256,.box [.val (.sl false [.int .u8]) b]),(768,.box [vi (U.i (a.int + 1 + (n.int - IntKind.wrap .i64 (i.int + 1))))]),(896,.box [.clo 50 [.ptr 768 0,.ptr 256 0]]),(1276,.arr 5 (xs ++ [nth (U.i 0) b.list (Int.toNat a.int)] ++ List.take (Int.toNat (n.int - IntKind.wrap .i64 (i.int + 1))) (List.drop (Int.toNat (a.int + 1)) b.list)))]) else ∀ (x:U),k Ex.ret (St.mk [(4,.own 636),(5,vi (U.i (litE (Int.toNat (n.int - IntKind.wrap .i64 (i.int + 1))) (List.drop (Int.toNat (a.int + 1)) b.list) (Int.toNat (m.int - (↑(List.length (xs ++ [nth (U.i 0) b.list (Int.toNat a.int)])):Int))))))] [(636,.arr 5 []),(1276,.arr 5 x.list)]) else False else False else k Ex.ret (St.mk [(4,.own 636),(5,vi (U.i 3))] [(636,.arr 5 []),(1276,.arr 5 xs)]) else k (Ex.exit 2) (St.mk [(7,.ptr 896 0),(8,.clo 51 [.ptr 896 0]),(9,.own 1276),(1,vi m),(6,.ptr 768 0),(2,.ptr 256 0),(10,.val (.int .u8) t)] [(256,.box [.val (.sl false [.int .u8]) b]),(768,.box [vi a]),(896,.box [.clo 50 [.ptr 768 0,.ptr 256 0]]),(1276,.arr 5 xs)])):=by kernel_rfl
theorem unp_round5 (pan:KP) (μ:Mu) (N:Nat) (k:KE) (i n m d b a:U) (xs:List U):(exec (unpC.panics pan) (loopBody Try.f25 2) 5 ⟨[(110,vi i),(109,vi n),(7,.ptr 896 0),(8,lenV),(9,.own 1276),(1,vi m),(6,.ptr 768 0),(2,.ptr 256 0),(18,vi d)],[(256,.box [vl (.int .u8) b]),(768,.box [vi a]),(896,.box [nextV 768 256]),(1276,.arr u8T xs)]⟩ (again PR (some ([7,8,9,1,6,2],[256,768,896,1276])) (some ([4,5],[636,1276])) pan [110,109,7,8,9,1,6,2,18] [256,768,896,1276] unpLoop5 μ N k))=(bif decide (i.int < n.int) then bif (xs.length:Int) == m.int then k Ex.ret (St.mk [(4,.own 636),(5,vi (U.i 2))] [(636,.arr 5 []),(1276,.arr 5 xs)]) else bif decide ((0:Int)≤IntKind.wrap .i64 ((xs.length:Int) - d.int)∧IntKind.wrap .i64 ((xs.length:Int) - d.int) < (xs.length:Int)) then bif Nat.blt (Int.toNat (IntKind.wrap .i64 ((xs.length:Int) - d.int))) (List.length xs) then bif decide (List.length xs + 1≤room) && true then bif Nat.blt (μ [vi (U.i (IntKind.wrap .i64 (i.int + 1))),vi n,.ptr 896 0,.clo 51 [.ptr 896 0],.own 1276,vi m,.ptr 768 0,.ptr 256 0,vi d] [.box [.val (.sl false [.int .u8]) b],.box [vi a],.box [.clo 50 [.ptr 768 0,.ptr 256 0]],.arr 5 (xs ++ [nth (U.i 0) xs (Int.toNat (IntKind.wrap .i64 ((xs.length:Int) - d.int)))])]) N then (896=nat_lit 896∧nat_lit 0=nat_lit 0∧nat_lit 51=nat_lit 51∧nat_lit 896=nat_lit 896∧nat_lit 0=nat_lit 0∧nat_lit 1276=nat_lit 1276∧nat_lit 768=nat_lit 768∧nat_lit 0=nat_lit 0∧nat_lit 256=nat_lit 256∧nat_lit 0=nat_lit 0∧nat_lit 50=nat_lit 50∧nat_lit 768=nat_lit 768∧nat_lit 0=nat_lit 0∧nat_lit 256=nat_lit 256∧nat_lit 0=nat_lit 0∧nat_lit 5=nat_lit 5∧a=U.i a.int∧(0:Int)≤a.int∧a.int≤(b.list.length:Int)∧b.list.length≤(1073741824:Nat)∧(0:Int)≤m.int∧m.int≤1048576∧(↑(List.length (xs ++ [nth (U.i 0) xs (Int.toNat (IntKind.wrap .i64 ((xs.length:Int) - d.int)))])):Int)≤m.int∧(0:Int)≤IntKind.wrap .i64 (i.int + 1)∧IntKind.wrap .i64 (i.int + 1)≤n.int∧n.int≤1099511627776∧(1:Int)≤d.int∧d.int≤(↑(List.length (xs ++ [nth (U.i 0) xs (Int.toNat (IntKind.wrap .i64 ((xs.length:Int) - d.int)))])):Int))∧bif decide (m.int - (↑(List.length (xs ++ [nth (U.i 0) xs (Int.toNat (IntKind.wrap .i64 ((xs.length:Int) - d.int)))])):Int) < n.int - IntKind.wrap .i64 (i.int + 1)) then ∀ (x:U),k Ex.ret (St.mk [(4,.own 636),(5,vi (U.i 2))] [(636,.arr 5 []),(1276,.arr 5 x.list)]) else k (Ex.exit 5) (St.mk [(7,.ptr 896 0),(8,.clo 51 [.ptr 896 0]),(9,.own 1276),(1,vi m),(6,.ptr 768 0),(2,.ptr 256 0)] [(256,.box [.val (.sl false [.int .u8]) b]),(768,.box [vi (U.i a.int)]),(896,.box [.clo 50 [.ptr 768 0,.ptr 256 0]]),(1276,.arr 5 (cpL (Int.toNat (n.int - IntKind.wrap .i64 (i.int + 1))) (Int.toNat d.int) (xs ++ [nth (U.i 0) xs (Int.toNat (IntKind.wrap .i64 ((xs.length:Int) - d.int)))])))]) else False else False else False else False else k (Ex.exit 5) (St.mk [(7,.ptr 896 0),(8,.clo 51 [.ptr 896 0]),(9,.own 1276),(1,vi m),(6,.ptr 768 0),(2,.ptr 256 0)] [(256,.box [.val (.sl false [.int .u8]) b]),(768,.box [vi a]),(896,.box [.clo 50 [.ptr 768 0,.ptr 256 0]]),(1276,.arr 5 xs)])):=by kernel_rfl
theorem unp_round0 (pan:KP) (μ:Mu) (N:Nat) (k:KE) (m b a:U) (xs:List U):(exec (unpC.panics pan) (loopBody Try.f25 0) 0 ⟨[(7,.ptr 896 0),(8,lenV),(9,.own 1276),(1,vi m),(6,.ptr 768 0),(2,.ptr 256 0)],[(256,.box [vl (.int .u8) b]),(768,.box [vi a]),(896,.box [nextV 768 256]),(1276,.arr u8T xs)]⟩ (again PR none (some ([4,5],[636,1276])) pan [7,8,9,1,6,2] [256,768,896,1276] unpLoop0 μ N k))=((2097153=nat_lit 2097153∧nat_lit 0=nat_lit 0∧nat_lit 2097281=nat_lit 2097281∧nat_lit 0=nat_lit 0∧nat_lit 2097153=nat_lit 2097153∧nat_lit 2097281=nat_lit 2097281∧(0:Int)≤a.int∧b.list.length≤(1099511627776:Nat))∧bif decide (a.int < (b.list.length:Int)) then (2097153=nat_lit 2097153∧nat_lit 0=nat_lit 0∧nat_lit 50=nat_lit 50∧nat_lit 2097281=nat_lit 2097281∧nat_lit 0=nat_lit 0∧nat_lit 2097409=nat_lit 2097409∧nat_lit 0=nat_lit 0∧nat_lit 2097153=nat_lit 2097153∧nat_lit 2097281=nat_lit 2097281∧nat_lit 2097409=nat_lit 2097409∧U.i (tH b a)=U.i (tH b a)∧U.i (a.int + 1)=U.i (a.int + 1)∧(0:Int)≤a.int + 1∧a.int + (1:Int)≤(b.list.length:Int)∧b.list.length≤(1099511627776:Nat)∧(0:Int)≤tH b a∧tH b a≤15)∧bif hOk (tH b a) (List.drop (Int.toNat (a.int + 1)) b.list) then (896=nat_lit 896∧nat_lit 0=nat_lit 0∧nat_lit 51=nat_lit 51∧nat_lit 896=nat_lit 896∧nat_lit 0=nat_lit 0∧nat_lit 1276=nat_lit 1276∧nat_lit 768=nat_lit 768∧nat_lit 0=nat_lit 0∧nat_lit 256=nat_lit 256∧nat_lit 0=nat_lit 0∧nat_lit 50=nat_lit 50∧nat_lit 768=nat_lit 768∧nat_lit 0=nat_lit 0∧nat_lit 256=nat_lit 256∧nat_lit 0=nat_lit 0∧nat_lit 5=nat_lit 5∧U.i (tA b a)=U.i (tA b a)∧(0:Int)≤tA b a∧tA b a≤(b.list.length:Int)∧b.list.length≤(1073741824:Nat)∧(0:Int)≤m.int∧m.int≤1048576∧(xs.length:Int)≤m.int∧(0:Int)≤0∧(0:Int)≤tN b a∧tN b a≤1099511627776)∧bif litE (Int.toNat (tN b a - 0)) (List.drop (Int.toNat (tA b a)) b.list) (Int.toNat (m.int - (xs.length:Int))) == 0 then bif tB b a == (b.list.length:Int) then k Ex.ret (St.mk [(4,.own 1276),(5,vi (U.i 0))] [(1276,.arr 5 (tO b a xs))]) else (2097153=nat_lit 2097153∧nat_lit 0=nat_lit 0∧nat_lit 2097281=nat_lit 2097281∧nat_lit 0=nat_lit 0∧nat_lit 2097153=nat_lit 2097153∧nat_lit 2097281=nat_lit 2097281∧(0:Int)≤tB b a∧b.list.length≤(1099511627776:Nat))∧bif decide (tB b a < (b.list.length:Int)) then (2097153=nat_lit 2097153∧nat_lit 0=nat_lit 0∧nat_lit 2097281=nat_lit 2097281∧nat_lit 0=nat_lit 0∧nat_lit 2097153=nat_lit 2097153∧nat_lit 2097281=nat_lit 2097281∧(0:Int)≤tB b a + 1∧b.list.length≤(1099511627776:Nat))∧bif decide (tB b a + (1:Int) < (b.list.length:Int)) then bif tD b a == 0 then k Ex.ret (St.mk [(4,.own 636),(5,vi (U.i 3))] [(636,.arr 5 []),(1276,.arr 5 (tO b a xs))]) else bif decide (tD b a > (↑(List.length (tO b a xs)):Int)) then k Ex.ret (St.mk [(4,.own 636),(5,vi (U.i 3))] [(636,.arr 5 []),(1276,.arr 5 (tO b a xs))]) else (2097153=nat_lit 2097153∧nat_lit 0=nat_lit 0∧nat_lit 50=nat_lit 50∧nat_lit 2097281=nat_lit 2097281∧nat_lit 0=nat_lit 0∧nat_lit 2097409=nat_lit 2097409∧nat_lit 0=nat_lit 0∧nat_lit 2097153=nat_lit 2097153∧nat_lit 2097281=nat_lit 2097281∧nat_lit 2097409=nat_lit 2097409∧U.i (tL b a)=U.i (tL b a)∧U.i (tB b a + 1 + 1)=U.i (tB b a + 1 + 1)∧(0:Int)≤tB b a + 1 + 1∧tB b a + 1 + (1:Int)≤(b.list.length:Int)∧b.list.length≤(1099511627776:Nat)∧(0:Int)≤tL b a∧tL b a≤15)∧bif hOk (tL b a) (List.drop (Int.toNat (tB b a + 1 + 1)) b.list) then (896=nat_lit 896∧nat_lit 0=nat_lit 0∧nat_lit 51=nat_lit 51∧nat_lit 896=nat_lit 896∧nat_lit 0=nat_lit 0∧nat_lit 1276=nat_lit 1276∧nat_lit 768=nat_lit 768∧nat_lit 0=nat_lit 0∧nat_lit 256=nat_lit 256∧nat_lit 0=nat_lit 0∧nat_lit 50=nat_lit 50∧nat_lit 768=nat_lit 768∧nat_lit 0=nat_lit 0∧nat_lit 256=nat_lit 256∧nat_lit 0=nat_lit 0∧nat_lit 5=nat_lit 5∧U.i (tC b a)=U.i (tC b a)∧(0:Int)≤tC b a∧tC b a≤(b.list.length:Int)∧b.list.length≤(1073741824:Nat)∧(0:Int)≤m.int∧m.int≤1048576∧(↑(List.length (tO b a xs)):Int)≤m.int∧(0:Int)≤0∧(0:Int)≤tM b a∧tM b a≤1099511627776∧(1:Int)≤tD b a∧tD b a≤(↑(List.length (tO b a xs)):Int))∧bif decide (m.int - (↑(List.length (tO b a xs)):Int) < tM b a - 0) then ∀ (x:U),k Ex.ret (St.mk [(4,.own 636),(5,vi (U.i 2))] [(636,.arr 5 []),(1276,.arr 5 x.list)]) else bif tC b a == (b.list.length:Int) then k Ex.ret (St.mk [(4,.own 1276),(5,vi (U.i 0))] [(1276,.arr 5 (tP b a xs))]) else bif Nat.blt (μ [.ptr 896 0,.clo 51 [.ptr 896 0],.own 1276,vi m,.ptr 768 0,.ptr 256 0] [.box [.val (.sl false [.int .u8]) b],.box [vi (U.i (tC b a))],.box [.clo 50 [.ptr 768 0,.ptr 256 0]],.arr 5 (tP b a xs)]) N then (896=nat_lit 896∧nat_lit 0=nat_lit 0∧nat_lit 51=nat_lit 51∧nat_lit 896=nat_lit 896∧nat_lit 0=nat_lit 0∧nat_lit 1276=nat_lit 1276∧nat_lit 768=nat_lit 768∧nat_lit 0=nat_lit 0∧nat_lit 256=nat_lit 256∧nat_lit 0=nat_lit 0∧nat_lit 50=nat_lit 50∧nat_lit 768=nat_lit 768∧nat_lit 0=nat_lit 0∧nat_lit 256=nat_lit 256∧nat_lit 0=nat_lit 0∧nat_lit 5=nat_lit 5∧U.i (tC b a)=U.i (tC b a)∧(0:Int)≤tC b a∧tC b a≤(b.list.length:Int)∧b.list.length≤(1073741824:Nat)∧(0:Int)≤m.int∧m.int≤1048576∧(↑(List.length (tP b a xs)):Int)≤m.int)∧bif Prod.fst (unp b.list m.int (b.list.length + (1:Nat) - Int.toNat (tC b a)) (tC b a) (tP b a xs)) == 0 then k Ex.ret (St.mk [(4,.own 1276),(5,vi (U.i 0))] [(1276,.arr 5 (Prod.snd (unp b.list m.int (b.list.length + (1:Nat) - Int.toNat (tC b a)) (tC b a) (tP b a xs))))]) else ∀ (x:U),k Ex.ret (St.mk [(4,.own 636),(5,vi (U.i (Prod.fst (unp b.list m.int (b.list.length + (1:Nat) - Int.toNat (tC b a)) (tC b a) (tP b a xs)))))] [(636,.arr 5 []),(1276,.arr 5 x.list)]) else False else ∀ (x:U),k Ex.ret (St.mk [(4,.own 636),(5,vi (U.i 3))] [(636,.arr 5 []),(1276,.arr 5 (tO b a xs))]) else k Ex.ret (St.mk [(4,.own 636),(5,vi (U.i 3))] [(636,.arr 5 []),(1276,.arr 5 (tO b a xs))]) else (2097153=nat_lit 2097153∧nat_lit 0=nat_lit 0∧nat_lit 2097281=nat_lit 2097281∧nat_lit 0=nat_lit 0∧nat_lit 2097153=nat_lit 2097153∧nat_lit 2097281=nat_lit 2097281∧(0:Int)≤tB b a∧b.list.length≤(1099511627776:Nat))∧bif decide (tB b a < (b.list.length:Int)) then bif IntKind.wrap .i64 (↑(BitVec.toNat (BitVec.ofInt (IntKind.bits IntKind.i64) (IntKind.wrap .i64 0) ||| BitVec.ofInt (IntKind.bits IntKind.i64) (IntKind.wrap .i64 (IntKind.wrap .i64 (U.int (nth (U.i 0) b.list (Int.toNat (tB b a)))) * 2 ^ min (Int.toNat 8) (IntKind.bits IntKind.i64))))):Int) == 0 then k Ex.ret (St.mk [(4,.own 636),(5,vi (U.i 3))] [(636,.arr 5 []),(1276,.arr 5 (tO b a xs))]) else bif decide (IntKind.wrap .i64 (↑(BitVec.toNat (BitVec.ofInt (IntKind.bits IntKind.i64) (IntKind.wrap .i64 0) ||| BitVec.ofInt (IntKind.bits IntKind.i64) (IntKind.wrap .i64 (IntKind.wrap .i64 (U.int (nth (U.i 0) b.list (Int.toNat (tB b a)))) * 2 ^ min (Int.toNat 8) (IntKind.bits IntKind.i64))))):Int) > (↑(List.length (tO b a xs)):Int)) then k Ex.ret (St.mk [(4,.own 636),(5,vi (U.i 3))] [(636,.arr 5 []),(1276,.arr 5 (tO b a xs))]) else (2097153=nat_lit 2097153∧nat_lit 0=nat_lit 0∧nat_lit 50=nat_lit 50∧nat_lit 2097281=nat_lit 2097281∧nat_lit 0=nat_lit 0∧nat_lit 2097409=nat_lit 2097409∧nat_lit 0=nat_lit 0∧nat_lit 2097153=nat_lit 2097153∧nat_lit 2097281=nat_lit 2097281∧nat_lit 2097409=nat_lit 2097409∧U.i (tL b a)=U.i (tL b a)∧U.i (tB b a + 1)=U.i (tB b a + 1)∧(0:Int)≤tB b a + 1∧tB b a + (1:Int)≤(b.list.length:Int)∧b.list.length≤(1099511627776:Nat)∧(0:Int)≤tL b a∧tL b a≤15)∧bif hOk (tL b a) (List.drop (Int.toNat (tB b a + 1)) b.list) then (896=nat_lit 896∧nat_lit 0=nat_lit 0∧nat_lit 51=nat_lit 51∧nat_lit 896=nat_lit 896∧nat_lit 0=nat_lit 0∧nat_lit 1276=nat_lit 1276∧nat_lit 768=nat_lit 768∧nat_lit 0=nat_lit 0∧nat_lit 256=nat_lit 256∧nat_lit 0=nat_lit 0∧nat_lit 50=nat_lit 50∧nat_lit 768=nat_lit 768∧nat_lit 0=nat_lit 0∧nat_lit 256=nat_lit 256∧nat_lit 0=nat_lit 0∧nat_lit 5=nat_lit 5∧U.i (tB b a + 1 + (↑(hK (tL b a) (List.drop (Int.toNat (tB b a + 1)) b.list)):Int))=U.i (tB b a + 1 + (↑(hK (tL b a) (List.drop (Int.toNat (tB b a + 1)) b.list)):Int))∧(0:Int)≤tB b a + 1 + (↑(hK (tL b a) (List.drop (Int.toNat (tB b a + 1)) b.list)):Int)∧tB b a + 1 + (↑(hK (tL b a) (List.drop (Int.toNat (tB b a + 1)) b.list)):Int)≤(b.list.length:Int)∧b.list.length≤(1073741824:Nat)∧(0:Int)≤m.int∧m.int≤1048576∧(↑(List.length (tO b a xs)):Int)≤m.int∧(0:Int)≤0∧(0:Int)≤IntKind.wrap .i64 (hN (tL b a) (List.drop (Int.toNat (tB b a + 1)) b.list) + 4)∧IntKind.wrap .i64 (hN (tL b a) (List.drop (Int.toNat (tB b a + 1)) b.list) + 4)≤1099511627776∧(1:Int)≤IntKind.wrap .i64 (↑(BitVec.toNat (BitVec.ofInt (IntKind.bits IntKind.i64) (IntKind.wrap .i64 0) ||| BitVec.ofInt (IntKind.bits IntKind.i64) (IntKind.wrap .i64 (IntKind.wrap .i64 (U.int (nth (U.i 0) b.list (Int.toNat (tB b a)))) * 2 ^ min (Int.toNat 8) (IntKind.bits IntKind.i64))))):Int)∧IntKind.wrap .i64 (↑(BitVec.toNat (BitVec.ofInt (IntKind.bits IntKind.i64) (IntKind.wrap .i64 0) ||| BitVec.ofInt (IntKind.bits IntKind.i64) (IntKind.wrap .i64 (IntKind.wrap .i64 (U.int (nth (U.i 0) b.list (Int.toNat (tB b a)))) * 2 ^ min (Int.toNat 8) (IntKind.bits IntKind.i64))))):Int)≤(↑(List.length (tO b a xs)):Int))∧bif decide (m.int - (↑(List.length (tO b a xs)):Int) < IntKind.wrap .i64 (hN (tL b a) (List.drop (Int.toNat (tB b a + 1)) b.list) + 4) - 0) then ∀ (x:U),k Ex.ret (St.mk [(4,.own 636),(5,vi (U.i 2))] [(636,.arr 5 []),(1276,.arr 5 x.list)]) else bif tB b a + 1 + (↑(hK (tL b a) (List.drop (Int.toNat (tB b a + 1)) b.list)):Int) == (b.list.length:Int) then k Ex.ret (St.mk [(4,.own 1276),(5,vi (U.i 0))] [(1276,.arr 5 (cpL (Int.toNat (IntKind.wrap .i64 (hN (tL b a) (List.drop (Int.toNat (tB b a + 1)) b.list) + 4) - 0)) (Int.toNat (IntKind.wrap .i64 (↑(BitVec.toNat (BitVec.ofInt (IntKind.bits IntKind.i64) (IntKind.wrap .i64 0) ||| BitVec.ofInt (IntKind.bits IntKind.i64) (IntKind.wrap .i64 (IntKind.wrap .i64 (U.int (nth (U.i 0) b.list (Int.toNat (tB b a)))) * 2 ^ min (Int.toNat 8) (IntKind.bits IntKind.i64))))):Int))) (tO b a xs)))]) else bif Nat.blt (μ [.ptr 896 0,.clo 51 [.ptr 896 0],.own 1276,vi m,.ptr 768 0,.ptr 256 0] [.box [.val (.sl false [.int .u8]) b],.box [vi (U.i (tB b a + 1 + (↑(hK (tL b a) (List.drop (Int.toNat (tB b a + 1)) b.list)):Int)))],.box [.clo 50 [.ptr 768 0,.ptr 256 0]],.arr 5 (cpL (Int.toNat (IntKind.wrap .i64 (hN (tL b a) (List.drop (Int.toNat (tB b a + 1)) b.list) + 4) - 0)) (Int.toNat (IntKind.wrap .i64 (↑(BitVec.toNat (BitVec.ofInt (IntKind.bits IntKind.i64) (IntKind.wrap .i64 0) ||| BitVec.ofInt (IntKind.bits IntKind.i64) (IntKind.wrap .i64 (IntKind.wrap .i64 (U.int (nth (U.i 0) b.list (Int.toNat (tB b a)))) * 2 ^ min (Int.toNat 8) (IntKind.bits IntKind.i64))))):Int))) (tO b a xs))]) N then (896=nat_lit 896∧nat_lit 0=nat_lit 0∧nat_lit 51=nat_lit 51∧nat_lit 896=nat_lit 896∧nat_lit 0=nat_lit 0∧nat_lit 1276=nat_lit 1276∧nat_lit 768=nat_lit 768∧nat_lit 0=nat_lit 0∧nat_lit 256=nat_lit 256∧nat_lit 0=nat_lit 0∧nat_lit 50=nat_lit 50∧nat_lit 768=nat_lit 768∧nat_lit 0=nat_lit 0∧nat_lit 256=nat_lit 256∧nat_lit 0=nat_lit 0∧nat_lit 5=nat_lit 5∧U.i (tB b a + 1 + (↑(hK (tL b a) (List.drop (Int.toNat (tB b a + 1)) b.list)):Int))=U.i (tB b a + 1 + (↑(hK (tL b a) (List.drop (Int.toNat (tB b a + 1)) b.list)):Int))∧(0:Int)≤tB b a + 1 + (↑(hK (tL b a) (List.drop (Int.toNat (tB b a + 1)) b.list)):Int)∧tB b a + 1 + (↑(hK (tL b a) (List.drop (Int.toNat (tB b a + 1)) b.list)):Int)≤(b.list.length:Int)∧b.list.length≤(1073741824:Nat)∧(0:Int)≤m.int∧m.int≤1048576∧(↑(List.length (cpL (Int.toNat (IntKind.wrap .i64 (hN (tL b a) (List.drop (Int.toNat (tB b a + 1)) b.list) + 4) - 0)) (Int.toNat (IntKind.wrap .i64 (↑(BitVec.toNat (BitVec.ofInt (IntKind.bits IntKind.i64) (IntKind.wrap .i64 0) ||| BitVec.ofInt (IntKind.bits IntKind.i64) (IntKind.wrap .i64 (IntKind.wrap .i64 (U.int (nth (U.i 0) b.list (Int.toNat (tB b a)))) * 2 ^ min (Int.toNat 8) (IntKind.bits IntKind.i64))))):Int))) (tO b a xs))):Int)≤m.int)∧bif Prod.fst (unp b.list m.int (b.list.length + (1:Nat) - Int.toNat (tB b a + 1 + (↑(hK (tL b a) (List.drop (Int.toNat (tB b a + 1)) b.list)):Int))) (tB b a + 1 + (↑(hK (tL b a) (List.drop (Int.toNat (tB b a + 1)) b.list)):Int)) (cpL (Int.toNat (IntKind.wrap .i64 (hN (tL b a) (List.drop (Int.toNat (tB b a + 1)) b.list) + 4) - 0)) (Int.toNat (IntKind.wrap .i64 (↑(BitVec.toNat (BitVec.ofInt (IntKind.bits IntKind.i64) (IntKind.wrap .i64 0) ||| BitVec.ofInt (IntKind.bits IntKind.i64) (IntKind.wrap .i64 (IntKind.wrap .i64 (U.int (nth (U.i 0) b.list (Int.toNat (tB b a)))) * 2 ^ min (Int.toNat 8) (IntKind.bits IntKind.i64))))):Int))) (tO b a xs))) == 0 then k Ex.ret (St.mk [(4,.own 1276),(5,vi (U.i 0))] [(1276,.arr 5 (Prod.snd (unp b.list m.int (b.list.length + (1:Nat) - Int.toNat (tB b a + 1 + (↑(hK (tL b a) (List.drop (Int.toNat (tB b a + 1)) b.list)):Int))) (tB b a + 1 + (↑(hK (tL b a) (List.drop (Int.toNat (tB b a + 1)) b.list)):Int)) (cpL (Int.toNat (IntKind.wrap .i64 (hN (tL b a) (List.drop (Int.toNat (tB b a + 1)) b.list) + 4) - 0)) (Int.toNat (IntKind.wrap .i64 (↑(BitVec.toNat (BitVec.ofInt (IntKind.bits IntKind.i64) (IntKind.wrap .i64 0) ||| BitVec.ofInt (IntKind.bits IntKind.i64) (IntKind.wrap .i64 (IntKind.wrap .i64 (U.int (nth (U.i 0) b.list (Int.toNat (tB b a)))) * 2 ^ min (Int.toNat 8) (IntKind.bits IntKind.i64))))):Int))) (tO b a xs)))))]) else ∀ (x:U),k Ex.ret (St.mk [(4,.own 636),(5,vi (U.i (Prod.fst (unp b.list m.int (b.list.length + (1:Nat) - Int.toNat (tB b a + 1 + (↑(hK (tL b a) (List.drop (Int.toNat (tB b a + 1)) b.list)):Int))) (tB b a + 1 + (↑(hK (tL b a) (List.drop (Int.toNat (tB b a + 1)) b.list)):Int)) (cpL (Int.toNat (IntKind.wrap .i64 (hN (tL b a) (List.drop (Int.toNat (tB b a + 1)) b.list) + 4) - 0)) (Int.toNat (IntKind.wrap .i64 (↑(BitVec.toNat (BitVec.ofInt (IntKind.bits IntKind.i64) (IntKind.wrap .i64 0) ||| BitVec.ofInt (IntKind.bits IntKind.i64) (IntKind.wrap .i64 (IntKind.wrap .i64 (U.int (nth (U.i 0) b.list (Int.toNat (tB b a)))) * 2 ^ min (Int.toNat 8) (IntKind.bits IntKind.i64))))):Int))) (tO b a xs))))))] [(636,.arr 5 []),(1276,.arr 5 x.list)]) else False else ∀ (x:U),k Ex.ret (St.mk [(4,.own 636),(5,vi (U.i 3))] [(636,.arr 5 []),(1276,.arr 5 (tO b a xs))]) else k Ex.ret (St.mk [(4,.own 636),(5,vi (U.i 3))] [(636,.arr 5 []),(1276,.arr 5 (tO b a xs))]) else ∀ (x:U),k Ex.ret (St.mk [(4,.own 636),(5,vi (U.i (litE (Int.toNat (tN b a - 0)) (List.drop (Int.toNat (tA b a)) b.list) (Int.toNat (m.int - (xs.length:Int))))))] [(636,.arr 5 []),(1276,.arr 5 x.list)]) else ∀ (x:U),k Ex.ret (St.mk [(4,.own 636),(5,vi (U.i 3))] [(636,.arr 5 []),(1276,.arr 5 xs)]) else k Ex.ret (St.mk [(4,.own 636),(5,vi (U.i 3))] [(636,.arr 5 []),(1276,.arr 5 xs)])):=by kernel_rfl
theorem unp_tree (R:RF) (b m:U):(run unpC Try.f25 [[b],[m]] R)=(bif decide (m.int < 0) then R [[U.l []],[U.i 1]] else bif decide (m.int > 1048576) then R [[U.l []],[U.i 1]] else (896=nat_lit 896∧nat_lit 0=nat_lit 0∧nat_lit 51=nat_lit 51∧nat_lit 896 =
 nat_lit 896∧nat_lit 0=nat_lit 0∧nat_lit 1276=nat_lit 1276∧nat_lit 768=nat_lit 768∧nat_lit 0=nat_lit 0∧nat_lit 256=nat_lit 256∧nat_lit 0=nat_lit 0∧nat_lit 50=nat_lit 50∧nat_lit
 768=nat_lit 768∧nat_lit 0=nat_lit 0∧nat_lit 256=nat_lit 256∧nat_lit 0=nat_lit 0∧nat_lit 5=nat_lit 5∧U.i (0:Int)=U.i 0∧(0:Int)≤0∧(0:Int)≤(↑(List.length b.list):Int)
 ∧ List.length b.list≤(1073741824:Nat)∧(0:Int)≤m.int∧m.int≤1048576∧(↑(0:Nat):Int)≤m.int)∧bif Prod.fst (unp b.list m.int (List.length b.list + (1:Nat) - Int.toNat 0) 0 []) == 0
 then R [[U.l (Prod.snd (unp b.list m.int (List.length b.list + (1:Nat) - Int.toNat 0) 0 []))],[U.i 0]] else ∀ (x:U),R [[U.l []],[U.i (Prod.fst (unp b.list m.int (List.length b.list + (1:Nat) -
 Int.toNat 0) 0 []))]]):=by kernel_rfl
end Go.Mat
