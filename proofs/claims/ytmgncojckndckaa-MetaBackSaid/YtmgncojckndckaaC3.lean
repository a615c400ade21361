/- A part of the proof of this: A right meta is read back, also after what was read has been spoilt. Conditions: none. Joined of B3, F1, F2, F3, B4, F4, B5, F5, B6, F6, F7, B8, B9, F9, B10, F10, B11, F11, F12, B13, F13, B14, F14. -/
import Derived.Test.YtmgncojckndckaaC2
import Derived.KernelRfl
import Derived.Laws.LoneSync
namespace Go.Mat
open Go Go.Den Go.Proofs
abbrev EC : List Ct := [.int .i64, .int .i64, .int .i64, .int .i64, .int .u32]
def tableS : List (List U) → List (List U) := fun us => [[.b (tableR (nth (.i 0) (nth [] us 0) 0).list (nth (.i 0) (nth [] us 1) 0).int (nth (.i 0) (nth [] us 2) 0).int)]]
def rtableS : List (List U) → List (List U) := fun us => [[.b (rtableR (nth (.i 0) (nth [] us 0) 0).list (nth (.i 0) (nth [] us 1) 0).int (nth (.i 0) (nth [] us 2) 0).int)]]
noncomputable def tabLoop2 : LoopF := fun _ svs os k => match svs with
  | .val (.int .i64) kk :: .val (.int .i64) m :: .val (.sl true ec) l :: .val .bool s :: rest => match rest, os with
    | [.val (.int .i64) i, .val (.int .i64) n, .val (.int .i64) c, .val (.int .i64) p1, .val (.int .i64) p2, .val (.sl false [.sl true ec1]) p3, .ptr pp po], [.box [.val (.sl false [.sl true ec2]) L]] =>
      (pp = 384 ∧ po = 0 ∧ ec = EC ∧ ec1 = EC ∧ ec2 = EC ∧ s = .b s.bool ∧ m.int = (l.list.length : Int) ∧ 0 ≤ kk.int ∧ kk.int ≤ m.int) ∧
      (bif entsR n.int c.int i.int kk.int (l.list.drop kk.int.toNat) then k (.exit 2) ⟨(9, vb (.b (s.bool || someR (l.list.drop kk.int.toNat)))) :: [7, 1, 2, 29, 28, 27, 3].zip rest, [384].zip os⟩
        else k .ret ⟨[(6, vb (.b false))], []⟩)
    | _, _ => False
  | _ => False
noncomputable def tabLoop0 : LoopF := fun _ svs os k => match svs, os with
  | [.val (.int .i64) i, .val (.int .i64) m, .val (.sl false [.sl true ec]) L, .ptr pp po, .val (.int .i64) n, .val (.int .i64) c], [.box [.val (.sl false [.sl true ec']) L']] =>
    (pp = 384 ∧ po = 0 ∧ ec = EC ∧ ec' = EC ∧ L' = L ∧ m.int = (L.list.length : Int) ∧ 0 ≤ i.int ∧ i.int ≤ m.int) ∧
    (bif leavesR n.int c.int i.int (L.list.drop i.int.toNat) then k (.exit 0) ⟨[(6, .unk)], []⟩ else k .ret ⟨[(6, vb (.b false))], []⟩)
  | _, _ => False
noncomputable def tabC : Ctx := mkC PR eqs0 (fnsCons 65 mayS (fnsCons 66 noneS fnsNil)) trsNil
  (loopCons 2 [50, 49, 48, 9, 7, 1, 2, 29, 28, 27, 3] [384] tabLoop2 (loopCons 0 [29, 28, 27, 3, 1, 2] [384] tabLoop0 noLoops))
  (outCons 2 [9, 7, 1, 2, 29, 28, 27, 3] [384] (outCons 1048578 [6] [] (outCons 0 [6] [] noOut))) noOut
theorem tab_round2 (pan : KP) (μ : Mu) (N : Nat) (k : KE) (kk m l s i n c p1 p2 p3 L : U) : (exec (tabC.panics pan) (loopBody Try.f46 1) 2 ⟨[(50, vi kk), (49, vi m), (48, vt EC l), (9, vb s), (7, vi i), (1, vi n), (2, vi c), (29, vi p1), (28, vi p2), (27, vl (.sl true EC) p3), (3, .ptr 384 0)], [(384, .box [vl (.sl true EC) L])]⟩ (again PR (some ([9, 7, 1, 2, 29, 28, 27, 3], [384])) (some ([6], [])) pan [50, 49, 48, 9, 7, 1, 2, 29, 28, 27, 3] [384] tabLoop2 μ N k)) = (bif decide (kk.int < m.int) then bif decide ((0 : Int) ≤ kk.int ∧ kk.int < (l.list.length : Int)) then bif !mayR (U.int (nth (U.i (0 : Int)) (U.list (nth (U.i (0 : Int)) l.list (Int.toNat kk.int))) (0 : Nat))) (U.int (nth (U.i (0 : Int)) (List.tail (U.list (nth (U.i (0 : Int)) l.list (Int.toNat kk.int)))) (0 : Nat))) (U.int (nth (U.i (0 : Int)) (List.tail (List.tail (U.list (nth (U.i (0 : Int)) l.list (Int.toNat kk.int))))) (0 : Nat))) (U.int (nth (U.i (0 : Int)) (List.tail (List.tail (List.tail (U.list (nth (U.i (0 : Int)) l.list (Int.toNat kk.int)))))) (0 : Nat))) (U.int (nth (U.i (0 : Int)) (List.tail (List.tail (List.tail (List.tail (U.list (nth (U.i (0 : Int)) l.list (Int.toNat kk.int))))))) (0 : Nat))) c.int then k Ex.ret (St.mk [(nat_lit 6, .val .bool (U.b false))] []) else bif !noneR (U.int (nth (U.i (0 : Int)) (U.list (nth (U.i (0 : Int)) l.list (Int.toNat kk.int))) (0 : Nat))) (U.int (nth (U.i (0 : Int)) (List.tail (U.list (nth (U.i (0 : Int)) l.list (Int.toNat kk.int)))) (0 : Nat))) (U.int (nth (U.i (0 : Int)) (List.tail (List.tail (U.list (nth (U.i (0 : Int)) l.list (Int.toNat kk.int))))) (0 : Nat))) (U.int (nth (U.i (0 : Int)) (List.tail (List.tail (List.tail (U.list (nth (U.i (0 : Int)) l.list (Int.toNat kk.int)))))) (0 : Nat))) (U.int (nth (U.i (0 : Int)) (List.tail (List.tail (List.tail (List.tail (U.list (nth (U.i (0 : Int)) l.list (Int.toNat kk.int))))))) (0 : Nat))) then bif decide (IntKind.wrap .i64 (IntKind.wrap .i64 (i.int * (8 : Int)) + kk.int) ≥ n.int) then k Ex.ret (St.mk [(nat_lit 6, .val .bool (U.b false))] []) else bif s.bool then bif Nat.blt (μ [.val (.int IntKind.i64) (U.i (IntKind.wrap .i64 (kk.int + (1 : Int)))), .val (.int IntKind.i64) m, .val (.sl true [.int .i64, .int .i64, .int .i64, .int .i64, .int .u32]) l, .val .bool (U.b true), .val (.int IntKind.i64) i, .val (.int IntKind.i64) n, .val (.int IntKind.i64) c, .val (.int IntKind.i64) p1, .val (.int IntKind.i64) p2, .val (.sl false [.sl true [.int .i64, .int .i64, .int .i64, .int .i64, .int .u32]]) p3, .ptr (nat_lit 384) (nat_lit 0)] [.box [.val (.sl false [.sl true [.int .i64, .int .i64, .int .i64, .int .i64, .int .u32]]) L]]) N then (nat_lit 384 = nat_lit 384 ∧ nat_lit 0 = nat_lit 0 ∧ [Ct.int IntKind.i64, Ct.int IntKind.i64, Ct.int IntKind.i64, Ct.int IntKind.i64, Ct.int IntKind.u32] = [.int .i64, .int .i64, .int .i64, .int .i64, .int .u32] ∧ [Ct.int IntKind.i64, Ct.int IntKind.i64, Ct.int IntKind.i64, Ct.int IntKind.i64, Ct.int IntKind.u32] = [.int .i64, .int .i64, .int .i64, .int .i64, .int .u32] ∧ [Ct.int IntKind.i64, Ct.int IntKind.i64, Ct.int IntKind.i64, Ct.int IntKind.i64, Ct.int IntKind.u32] = [.int .i64, .int .i64, .int .i64, .int .i64, .int .u32] ∧ U.b true = U.b true ∧ m.int = (l.list.length : Int) ∧ (0 : Int) ≤ IntKind.wrap .i64 (kk.int + (1 : Int)) ∧ IntKind.wrap .i64 (kk.int + (1 : Int)) ≤ m.int) ∧ bif entsR n.int c.int i.int (IntKind.wrap .i64 (kk.int + (1 : Int))) (List.drop (Int.toNat (IntKind.wrap .i64 (kk.int + (1 : Int)))) l.list) then k (Ex.exit (nat_lit 2)) (St.mk [(nat_lit 9, .val .bool (U.b (true || someR (List.drop (Int.toNat (IntKind.wrap .i64 (kk.int + (1 : Int)))) l.list)))), (nat_lit 7, .val (.int IntKind.i64) i), (nat_lit 1, .val (.int IntKind.i64) n), (nat_lit 2, .val (.int IntKind.i64) c), (nat_lit 29, .val (.int IntKind.i64) p1), (nat_lit 28, .val (.int IntKind.i64) p2), (nat_lit 27, .val (.sl false [.sl true [.int .i64, .int .i64, .int .i64, .int .i64, .int .u32]]) p3), (nat_lit 3, .ptr (nat_lit 384) (nat_lit 0))] [(nat_lit 384, .box [.val (.sl false [.sl true [.int .i64, .int .i64, .int .i64, .int .i64, .int .u32]]) L])]) else k Ex.ret (St.mk [(nat_lit 6, .val .bool (U.b false))] []) else False else bif Nat.blt (μ [.val (.int IntKind.i64) (U.i (IntKind.wrap .i64 (kk.int + (1 : Int)))), .val (.int IntKind.i64) m, .val (.sl true [.int .i64, .int .i64, .int .i64, .int .i64, .int .u32]) l, .val .bool (U.b !noneR (U.int (nth (U.i (0 : Int)) (U.list (nth (U.i (0 : Int)) l.list (Int.toNat kk.int))) (0 : Nat))) (U.int (nth (U.i (0 : Int)) (List.tail (U.list (nth (U.i (0 : Int)) l.list (Int.toNat kk.int)))) (0 : Nat))) (U.int (nth (U.i (0 : Int)) (List.tail (List.tail (U.list (nth (U.i (0 : Int)) l.list (Int.toNat kk.int))))) (0 : Nat))) (U.int (nth (U.i (0 : Int)) (List.tail (List.tail (List.tail (U.list (nth (U.i (0 : Int)) l.list (Int.toNat kk.int)))))) (0 : Nat))) (U.int (nth (U.i (0 : Int)) (List.tail (List.tail (List.tail (List.tail (U.list (nth (U.i (0 : Int)) l.list (Int.toNat kk.int))))))) (0 : Nat)))), .val (.int IntKind.i64) i, .val (.int IntKind.i64) n, .val (.int IntKind.i64) c, .val (.int IntKind.i64) p1, .val (.int IntKind.i64) p2, .val (.sl false [.sl true [.int .i64, .int .i64, .int .i64, .int .i64, .int .u32]]) p3, .ptr (nat_lit 384) (nat_lit 0)] [.box [.val (.sl false [.sl true [.int .i64, .int .i64, .int .i64, .int .i64, .int .u32]]) L]]) N then (nat_lit 384 = nat_lit 384 ∧ nat_lit 0 = nat_lit 0 ∧ [Ct.int IntKind.i64, Ct.int IntKind.i64, Ct.int IntKind.i64, Ct.int IntKind.i64, Ct.int IntKind.u32] = [.int .i64, .int .i64, .int .i64, .int .i64, .int .u32] ∧ [Ct.int IntKind.i64, Ct.int IntKind.i64, Ct.int IntKind.i64, Ct.int IntKind.i64, Ct.int IntKind.u32] = [.int .i64, .int .i64, .int .i64, .int .i64, .int .u32] ∧ [Ct.int IntKind.i64, Ct.int IntKind.i64, Ct.int IntKind.i64, Ct.int IntKind.i64, Ct.int IntKind.u32] = [.int .i64, .int .i64, .int .i64, .int .i64, .int .u32] ∧ (U.b !noneR (U.int (nth (U.i (0 : Int)) (U.list (nth (U.i (0 : Int)) l.list (Int.toNat kk.int))) (0 : Nat))) (U.int (nth (U.i (0 : Int)) (List.tail (U.list (nth (U.i (0 : Int)) l.list (Int.toNat kk.int)))) (0 : Nat))) (U.int (nth (U.i (0 : Int)) (List.tail (List.tail (U.list (nth (U.i (0 : Int)) l.list (Int.toNat kk.int))))) (0 : Nat))) (U.int (nth (U.i (0 : Int)) (List.tail (List.tail (List.tail (U.list (nth (U.i (0 : Int)) l.list (Int.toNat kk.int)))))) (0 : Nat))) (U.int (nth (U.i (0 : Int)) (List.tail (List.tail (List.tail (List.tail (U.list (nth (U.i (0 : Int)) l.list (Int.toNat kk.int))))))) (0 : Nat)))) = U.b !noneR (U.int (nth (U.i (0 : Int)) (U.list (nth (U.i (0 : Int)) l.list (Int.toNat kk.int))) (0 : Nat))) (U.int (nth (U.i (0 : Int)) (List.tail (U.list (nth (U.i (0 : Int)) l.list (Int.toNat kk.int)))) (0 : Nat))) (U.int (nth (U.i (0 : Int)) (List.tail (List.tail (U.list (nth (U.i (0 : Int)) l.list (Int.toNat kk.int))))) (0 : Nat))) (U.int (nth (U.i (0 : Int)) (List.tail (List.tail (List.tail (U.list (nth (U.i (0 : Int)) l.list (Int.toNat kk.int)))))) (0 : Nat))) (U.int (nth (U.i (0 : Int)) (List.tail (List.tail (List.tail (List.tail (U.list (nth (U.i (0 : Int)) l.list (Int.toNat kk.int))))))) (0 : Nat))) ∧ m.int = (l.list.length : Int) ∧ (0 : Int) ≤ IntKind.wrap .i64 (kk.int + (1 : Int)) ∧ IntKind.wrap .i64 (kk.int + (1 : Int)) ≤ m.int) ∧ bif entsR n.int c.int i.int (IntKind.wrap .i64 (kk.int + (1 : Int))) (List.drop (Int.toNat (IntKind.wrap .i64 (kk.int + (1 : Int)))) l.list) then k (Ex.exit (nat_lit 2)) (St.mk [(nat_lit 9, .val .bool (U.b (!noneR (U.int (nth (U.i (0 : Int)) (U.list (nth (U.i (0 : Int)) l.list (Int.toNat kk.int))) (0 : Nat))) (U.int (nth (U.i (0 : Int)) (List.tail (U.list (nth (U.i (0 : Int)) l.list (Int.toNat kk.int)))) (0 : Nat))) (U.int (nth (U.i (0 : Int)) (List.tail (List.tail (U.list (nth (U.i (0 : Int)) l.list (Int.toNat kk.int))))) (0 : Nat))) (U.int (nth (U.i (0 : Int)) (List.tail (List.tail (List.tail (U.list (nth (U.i (0 : Int)) l.list (Int.toNat kk.int)))))) (0 : Nat))) (U.int (nth (U.i (0 : Int)) (List.tail (List.tail (List.tail (List.tail (U.list (nth (U.i (0 : Int)) l.list (Int.toNat kk.int))))))) (0 : Nat))) || someR (List.drop (Int.toNat (IntKind.wrap .i64 (kk.int + (1 : Int)))) l.list)))), (nat_lit 7, .val (.int IntKind.i64) i), (nat_lit 1, .val (.int IntKind.i64) n), (nat_lit 2, .val (.int IntKind.i64) c), (nat_lit 29, .val (.int IntKind.i64) p1), (nat_lit 28, .val (.int IntKind.i64) p2), (nat_lit 27, .val (.sl false [.sl true [.int .i64, .int .i64, .int .i64, .int .i64, .int .u32]]) p3), (nat_lit 3, .ptr (nat_lit 384) (nat_lit 0))] [(nat_lit 384, .box [.val (.sl false [.sl true [.int .i64, .int .i64, .int .i64, .int .i64, .int .u32]]) L])]) else k Ex.ret (St.mk [(nat_lit 6, .val .bool (U.b false))] []) else False else bif s.bool then bif Nat.blt (μ [.val (.int IntKind.i64) (U.i (IntKind.wrap .i64 (kk.int + (1 : Int)))), .val (.int IntKind.i64) m, .val (.sl true [.int .i64, .int .i64, .int .i64, .int .i64, .int .u32]) l, .val .bool (U.b true), .val (.int IntKind.i64) i, .val (.int IntKind.i64) n, .val (.int IntKind.i64) c, .val (.int IntKind.i64) p1, .val (.int IntKind.i64) p2, .val (.sl false [.sl true [.int .i64, .int .i64, .int .i64, .int .i64, .int .u32]]) p3, .ptr (nat_lit 384) (nat_lit 0)] [.box [.val (.sl false [.sl true [.int .i64, .int .i64, .int .i64, .int .i64, .int .u32]]) L]]) N then (nat_lit 384 = nat_lit 384 ∧ nat_lit 0 = nat_lit 0 ∧ [Ct.int IntKind.i64, Ct.int IntKind.i64, Ct.int IntKind.i64, Ct.int IntKind.i64, Ct.int IntKind.u32] = [.int .i64, .int .i64, .int .i64, .int .i64, .int .u32] ∧ [Ct.int IntKind.i64, Ct.int IntKind.i64, Ct.int IntKind.i64, Ct.int IntKind.i64, Ct.int IntKind.u32] = [.int .i64, .int .i64, .int .i64, .int .i64, .int .u32] ∧ [Ct.int IntKind.i64, Ct.int IntKind.i64, Ct.int IntKind.i64, Ct.int IntKind.i64, Ct.int IntKind.u32] = [.int .i64, .int .i64, .int .i64, .int .i64, .int .u32] ∧ U.b true = U.b true ∧ m.int = (l.list.length : Int) ∧ (0 : Int) ≤ IntKind.wrap .i64 (kk.int + (1 : Int)) ∧ IntKind.wrap .i64 (kk.int + (1 : Int)) ≤ m.int) ∧ bif entsR n.int c.int i.int (IntKind.wrap .i64 (kk.int + (1 : Int))) (List.drop (Int.toNat (IntKind.wrap .i64 (kk.int + (1 : Int)))) l.list) then k (Ex.exit (nat_lit 2)) (St.mk [(nat_lit 9, .val .bool (U.b (true || someR (List.drop (Int.toNat (IntKind.wrap .i64 (kk.int + (1 : Int)))) l.list)))), (nat_lit 7, .val (.int IntKind.i64) i), (nat_lit 1, .val (.int IntKind.i64) n), (nat_lit 2, .val (.int IntKind.i64) c), (nat_lit 29, .val (.int IntKind.i64) p1), (nat_lit 28, .val (.int IntKind.i64) p2), (nat_lit 27, .val (.sl false [.sl true [.int .i64, .int .i64, .int .i64, .int .i64, .int .u32]]) p3), (nat_lit 3, .ptr (nat_lit 384) (nat_lit 0))] [(nat_lit 384, .box [.val (.sl false [.sl true [.int .i64, .int .i64, .int .i64, .int .i64, .int .u32]]) L])]) else k Ex.ret (St.mk [(nat_lit 6, .val .bool (U.b false))] []) else False else bif Nat.blt (μ [.val (.int IntKind.i64) (U.i (IntKind.wrap .i64 (kk.int + (1 : Int)))), .val (.int IntKind.i64) m, .val (.sl true [.int .i64, .int .i64, .int .i64, .int .i64, .int .u32]) l, .val .bool (U.b !noneR (U.int (nth (U.i (0 : Int)) (U.list (nth (U.i (0 : Int)) l.list (Int.toNat kk.int))) (0 : Nat))) (U.int (nth (U.i (0 : Int)) (List.tail (U.list (nth (U.i (0 : Int)) l.list (Int.toNat kk.int)))) (0 : Nat))) (U.int (nth (U.i (0 : Int)) (List.tail (List.tail (U.list (nth (U.i (0 : Int)) l.list (Int.toNat kk.int))))) (0 : Nat))) (U.int (nth (U.i (0 : Int)) (List.tail (List.tail (List.tail (U.list (nth (U.i (0 : Int)) l.list (Int.toNat kk.int)))))) (0 : Nat))) (U.int (nth (U.i (0 : Int)) (List.tail (List.tail (List.tail (List.tail (U.list (nth (U.i (0 : Int)) l.list (Int.toNat kk.int))))))) (0 : Nat)))), .val (.int IntKind.i64) i, .val (.int IntKind.i64) n, .val (.int IntKind.i64) c, .val (.int IntKind.i64) p1, .val (.int IntKind.i64) p2, .val (.sl false [.sl true [.int .i64, .int .i64, .int .i64, .int .i64, .int .u32]]) p3, .ptr (nat_lit 384) (nat_lit 0)] [.box [.val (.sl false [.sl true [.int .i64, .int .i64, .int .i64, .int .i64, .int .u32]]) L]]) N then (nat_lit 384 = nat_lit 384 ∧ nat_lit 0 = nat_lit 0 ∧ [Ct.int IntKind.i64, Ct.int IntKind.i64, Ct.int IntKind.i64, Ct.int IntKind.i64, Ct.int IntKind.u32] = [.int .i64, .int .i64, .int .i64, .int .i64, .int .u32] ∧ [Ct.int IntKind.i64, Ct.int IntKind.i64, Ct.int IntKind.i64, Ct.int IntKind.i64, Ct.int IntKind.u32] = [.int .i64, .int .i64, .int .i64, .int .i64, .int .u32] ∧ [Ct.int IntKind.i64, Ct.int IntKind.i64, Ct.int IntKind.i64, Ct.int IntKind.i64, Ct.int IntKind.u32] = [.int .i64, .int .i64, .int .i64, .int .i64, .int .u32] ∧ (U.b !noneR (U.int (nth (U.i (0 : Int)) (U.list (nth (U.i (0 : Int)) l.list (Int.toNat kk.int))) (0 : Nat))) (U.int (nth (U.i (0 : Int)) (List.tail (U.list (nth (U.i (0 : Int)) l.list (Int.toNat kk.int)))) (0 : Nat))) (U.int (nth (U.i (0 : Int)) (List.tail (List.tail (U.list (nth (U.i (0 : Int)) l.list (Int.toNat kk.int))))) (0 : Nat))) (U.int (nth (U.i (0 : Int)) (List.tail (List.tail (List.tail (U.list (nth (U.i (0 : Int)) l.list (Int.toNat kk.int)))))) (0 : Nat))) (U.int (nth (U.i (0 : Int)) (List.tail (List.tail (List.tail (List.tail (U.list (nth (U.i (0 : Int)) l.list (Int.toNat kk.int))))))) (0 : Nat)))) = U.b !noneR (U.int (nth (U.i (0 : Int)) (U.list (nth (U.i (0 : Int)) l.list (Int.toNat kk.int))) (0 : Nat))) (U.int (nth (U.i (0 : Int)) (List.tail (U.list (nth (U.i (0 : Int)) l.list (Int.toNat kk.int)))) (0 : Nat))) (U.int (nth (U.i (0 : Int)) (List.tail (List.tail (U.list (nth (U.i (0 : Int)) l.list (Int.toNat kk.int))))) (0 : Nat))) (U.int (nth (U.i (0 : Int)) (List.tail (List.tail (List.tail (U.list (nth (U.i (0 : Int)) l.list (Int.toNat kk.int)))))) (0 : Nat))) (U.int (nth (U.i (0 : Int)) (List.tail (List.tail (List.tail (List.tail (U.list (nth (U.i (0 : Int)) l.list (Int.toNat kk.int))))))) (0 : Nat))) ∧ m.int = (l.list.length : Int) ∧ (0 : Int) ≤ IntKind.wrap .i64 (kk.int + (1 : Int)) ∧ IntKind.wrap .i64 (kk.int + (1 : Int)) ≤ m.int) ∧ bif entsR n.int c.int i.int (IntKind.wrap .i64 (kk.int + (1 : Int))) (List.drop (Int.toNat (IntKind.wrap .i64 (kk.int + (1 : Int)))) l.list) then k (Ex.exit (nat_lit 2)) (St.mk [(nat_lit 9, .val .bool (U.b (!noneR (U.int (nth (U.i (0 : Int)) (U.list (nth (U.i (0 : Int)) l.list (Int.toNat kk.int))) (0 : Nat))) (U.int (nth (U.i (0 : Int)) (List.tail (U.list (nth (U.i (0 : Int)) l.list (Int.toNat kk.int)))) (0 : Nat))) (U.int (nth (U.i (0 : Int)) (List.tail (List.tail (U.list (nth (U.i (0 : Int)) l.list (Int.toNat kk.int))))) (0 : Nat))) (U.int (nth (U.i (0 : Int)) (List.tail (List.tail (List.tail (U.list (nth (U.i (0 : Int)) l.list (Int.toNat kk.int)))))) (0 : Nat))) (U.int (nth (U.i (0 : Int)) (List.tail (List.tail (List.tail (List.tail (U.list (nth (U.i (0 : Int)) l.list (Int.toNat kk.int))))))) (0 : Nat))) || someR (List.drop (Int.toNat (IntKind.wrap .i64 (kk.int + (1 : Int)))) l.list)))), (nat_lit 7, .val (.int IntKind.i64) i), (nat_lit 1, .val (.int IntKind.i64) n), (nat_lit 2, .val (.int IntKind.i64) c), (nat_lit 29, .val (.int IntKind.i64) p1), (nat_lit 28, .val (.int IntKind.i64) p2), (nat_lit 27, .val (.sl false [.sl true [.int .i64, .int .i64, .int .i64, .int .i64, .int .u32]]) p3), (nat_lit 3, .ptr (nat_lit 384) (nat_lit 0))] [(nat_lit 384, .box [.val (.sl false [.sl true [.int .i64, .int .i64, .int .i64, .int .i64, .int .u32]]) L])]) else k Ex.ret (St.mk [(nat_lit 6, .val .bool (U.b false))] []) else False else False else k (Ex.exit (nat_lit 2)) (St.mk [(nat_lit 9, .val .bool s), (nat_lit 7, .val (.int IntKind.i64) i), (nat_lit 1, .val (.int IntKind.i64) n), (nat_lit 2, .val (.int IntKind.i64) c), (nat_lit 29, .val (.int IntKind.i64) p1), (nat_lit 28, .val (.int IntKind.i64) p2), (nat_lit 27, .val (.sl false [.sl true [.int .i64, .int .i64, .int .i64, .int .i64, .int .u32]]) p3), (nat_lit 3, .ptr (nat_lit 384) (nat_lit 0))] [(nat_lit 384, .box [.val (.sl false [.sl true [.int .i64, .int .i64, .int .i64, .int .i64, .int .u32]]) L])])) := by kernel_rfl
theorem tab_round0 (pan : KP) (μ : Mu) (N : Nat) (k : KE) (i m L n c : U) : (exec (tabC.panics pan) (loopBody Try.f46 0) 0 ⟨[(29, vi i), (28, vi m), (27, vl (.sl true EC) L), (3, .ptr 384 0), (1, vi n), (2, vi c)], [(384, .box [vl (.sl true EC) L])]⟩ (again PR (some ([6], [])) none pan [29, 28, 27, 3, 1, 2] [384] tabLoop0 μ N k)) = (bif decide (i.int < m.int) then bif decide ((0 : Int) ≤ i.int ∧ i.int < (L.list.length : Int)) then bif (↑(List.length (U.list (nth (U.i (0 : Int)) L.list (Int.toNat i.int)))) : Int) == (0 : Int) then bif decide (i.int < IntKind.wrap .i64 ((L.list.length : Int) - (1 : Int))) then bif Nat.blt (μ [.val (.int IntKind.i64) (U.i (IntKind.wrap .i64 (i.int + (1 : Int)))), .val (.int IntKind.i64) m, .val (.sl false [.sl true [.int .i64, .int .i64, .int .i64, .int .i64, .int .u32]]) L, .ptr (nat_lit 384) (nat_lit 0), .val (.int IntKind.i64) n, .val (.int IntKind.i64) c] [.box [.val (.sl false [.sl true [.int .i64, .int .i64, .int .i64, .int .i64, .int .u32]]) L]]) N then (nat_lit 384 = nat_lit 384 ∧ nat_lit 0 = nat_lit 0 ∧ [Ct.int IntKind.i64, Ct.int IntKind.i64, Ct.int IntKind.i64, Ct.int IntKind.i64, Ct.int IntKind.u32] = [.int .i64, .int .i64, .int .i64, .int .i64, .int .u32] ∧ [Ct.int IntKind.i64, Ct.int IntKind.i64, Ct.int IntKind.i64, Ct.int IntKind.i64, Ct.int IntKind.u32] = [.int .i64, .int .i64, .int .i64, .int .i64, .int .u32] ∧ L = L ∧ m.int = (L.list.length : Int) ∧ (0 : Int) ≤ IntKind.wrap .i64 (i.int + (1 : Int)) ∧ IntKind.wrap .i64 (i.int + (1 : Int)) ≤ m.int) ∧ bif leavesR n.int c.int (IntKind.wrap .i64 (i.int + (1 : Int))) (List.drop (Int.toNat (IntKind.wrap .i64 (i.int + (1 : Int)))) L.list) then k (Ex.exit (nat_lit 0)) (St.mk [(nat_lit 6, .unk)] []) else k Ex.ret (St.mk [(nat_lit 6, .val .bool (U.b false))] []) else False else bif (↑(List.length (U.list (nth (U.i (0 : Int)) L.list (Int.toNat i.int)))) : Int) != (8 : Int) then k Ex.ret (St.mk [(nat_lit 6, .val .bool (U.b false))] []) else (nat_lit 384 = nat_lit 384 ∧ nat_lit 0 = nat_lit 0 ∧ [Ct.int IntKind.i64, Ct.int IntKind.i64, Ct.int IntKind.i64, Ct.int IntKind.i64, Ct.int IntKind.u32] = [.int .i64, .int .i64, .int .i64, .int .i64, .int .u32] ∧ [Ct.int IntKind.i64, Ct.int IntKind.i64, Ct.int IntKind.i64, Ct.int IntKind.i64, Ct.int IntKind.u32] = [.int .i64, .int .i64, .int .i64, .int .i64, .int .u32] ∧ [Ct.int IntKind.i64, Ct.int IntKind.i64, Ct.int IntKind.i64, Ct.int IntKind.i64, Ct.int IntKind.u32] = [.int .i64, .int .i64, .int .i64, .int .i64, .int .u32] ∧ U.b false = U.b false ∧ (↑(List.length (U.list (nth (U.i (0 : Int)) L.list (Int.toNat i.int)))) : Int) = (↑(List.length (U.list (nth (U.i (0 : Int)) L.list (Int.toNat i.int)))) : Int) ∧ (0 : Int) ≤ (0 : Int) ∧ (0 : Int) ≤ (↑(List.length (U.list (nth (U.i (0 : Int)) L.list (Int.toNat i.int)))) : Int)) ∧ bif entsR n.int c.int i.int (0 : Int) (List.drop (Int.toNat (0 : Int)) (U.list (nth (U.i (0 : Int)) L.list (Int.toNat i.int)))) then bif !(false || someR (List.drop (Int.toNat (0 : Int)) (U.list (nth (U.i (0 : Int)) L.list (Int.toNat i.int))))) then k Ex.ret (St.mk [(nat_lit 6, .val .bool (U.b false))] []) else bif Nat.blt (μ [.val (.int IntKind.i64) (U.i (IntKind.wrap .i64 (i.int + (1 : Int)))), .val (.int IntKind.i64) m, .val (.sl false [.sl true [.int .i64, .int .i64, .int .i64, .int .i64, .int .u32]]) L, .ptr (nat_lit 384) (nat_lit 0), .val (.int IntKind.i64) n, .val (.int IntKind.i64) c] [.box [.val (.sl false [.sl true [.int .i64, .int .i64, .int .i64, .int .i64, .int .u32]]) L]]) N then (nat_lit 384 = nat_lit 384 ∧ nat_lit 0 = nat_lit 0 ∧ [Ct.int IntKind.i64, Ct.int IntKind.i64, Ct.int IntKind.i64, Ct.int IntKind.i64, Ct.int IntKind.u32] = [.int .i64, .int .i64, .int .i64, .int .i64, .int .u32] ∧ [Ct.int IntKind.i64, Ct.int IntKind.i64, Ct.int IntKind.i64, Ct.int IntKind.i64, Ct.int IntKind.u32] = [.int .i64, .int .i64, .int .i64, .int .i64, .int .u32] ∧ L = L ∧ m.int = (L.list.length : Int) ∧ (0 : Int) ≤ IntKind.wrap .i64 (i.int + (1 : Int)) ∧ IntKind.wrap .i64 (i.int + (1 : Int)) ≤ m.int) ∧ bif leavesR n.int c.int (IntKind.wrap .i64 (i.int + (1 : Int))) (List.drop (Int.toNat (IntKind.wrap .i64 (i.int + (1 : Int)))) L.list) then k (Ex.exit (nat_lit 0)) (St.mk [(nat_lit 6, .unk)] []) else k Ex.ret (St.mk [(nat_lit 6, .val .bool (U.b false))] []) else False else k Ex.ret (St.mk [(nat_lit 6, .val .bool (U.b false))] []) else bif (↑(List.length (U.list (nth (U.i (0 : Int)) L.list (Int.toNat i.int)))) : Int) != (8 : Int) then k Ex.ret (St.mk [(nat_lit 6, .val .bool (U.b false))] []) else (nat_lit 384 = nat_lit 384 ∧ nat_lit 0 = nat_lit 0 ∧ [Ct.int IntKind.i64, Ct.int IntKind.i64, Ct.int IntKind.i64, Ct.int IntKind.i64, Ct.int IntKind.u32] = [.int .i64, .int .i64, .int .i64, .int .i64, .int .u32] ∧ [Ct.int IntKind.i64, Ct.int IntKind.i64, Ct.int IntKind.i64, Ct.int IntKind.i64, Ct.int IntKind.u32] = [.int .i64, .int .i64, .int .i64, .int .i64, .int .u32] ∧ [Ct.int IntKind.i64, Ct.int IntKind.i64, Ct.int IntKind.i64, Ct.int IntKind.i64, Ct.int IntKind.u32] = [.int .i64, .int .i64, .int .i64, .int .i64, .int .u32] ∧ U.b false = U.b false ∧ (↑(List.length (U.list (nth (U.i (0 : Int)) L.list (Int.toNat i.int)))) : Int) = (↑(List.length (U.list (nth (U.i (0 : Int)) L.list (Int.toNat i.int)))) : Int) ∧ (0 : Int) ≤ (0 : Int) ∧ (0 : Int) ≤ (↑(List.length (U.list (nth (U.i (0 : Int)) L.list (Int.toNat i.int)))) : Int)) ∧ bif entsR n.int c.int i.int (0 : Int) (List.drop (Int.toNat (0 : Int)) (U.list (nth (U.i (0 : Int)) L.list (Int.toNat i.int)))) then bif !(false || someR (List.drop (Int.toNat (0 : Int)) (U.list (nth (U.i (0 : Int)) L.list (Int.toNat i.int))))) then k Ex.ret (St.mk [(nat_lit 6, .val .bool (U.b false))] []) else bif Nat.blt (μ [.val (.int IntKind.i64) (U.i (IntKind.wrap .i64 (i.int + (1 : Int)))), .val (.int IntKind.i64) m, .val (.sl false [.sl true [.int .i64, .int .i64, .int .i64, .int .i64, .int .u32]]) L, .ptr (nat_lit 384) (nat_lit 0), .val (.int IntKind.i64) n, .val (.int IntKind.i64) c] [.box [.val (.sl false [.sl true [.int .i64, .int .i64, .int .i64, .int .i64, .int .u32]]) L]]) N then (nat_lit 384 = nat_lit 384 ∧ nat_lit 0 = nat_lit 0 ∧ [Ct.int IntKind.i64, Ct.int IntKind.i64, Ct.int IntKind.i64, Ct.int IntKind.i64, Ct.int IntKind.u32] = [.int .i64, .int .i64, .int .i64, .int .i64, .int .u32] ∧ [Ct.int IntKind.i64, Ct.int IntKind.i64, Ct.int IntKind.i64, Ct.int IntKind.i64, Ct.int IntKind.u32] = [.int .i64, .int .i64, .int .i64, .int .i64, .int .u32] ∧ L = L ∧ m.int = (L.list.length : Int) ∧ (0 : Int) ≤ IntKind.wrap .i64 (i.int + (1 : Int)) ∧ IntKind.wrap .i64 (i.int + (1 : Int)) ≤ m.int) ∧ bif leavesR n.int c.int (IntKind.wrap .i64 (i.int + (1 : Int))) (List.drop (Int.toNat (IntKind.wrap .i64 (i.int + (1 : Int)))) L.list) then k (Ex.exit (nat_lit 0)) (St.mk [(nat_lit 6, .unk)] []) else k Ex.ret (St.mk [(nat_lit 6, .val .bool (U.b false))] []) else False else k Ex.ret (St.mk [(nat_lit 6, .val .bool (U.b false))] []) else False else k (Ex.exit (nat_lit 0)) (St.mk [(nat_lit 6, .unk)] [])) := by kernel_rfl
theorem tab_tree (R : RF) (L n c : U) : (run tabC Try.f46 [[L], [n], [c]] R) = (bif decide (U.int n < (0 : Int)) then R [[U.b false]] else bif decide (U.int n > (4096 : Int)) then R [[U.b false]] else bif decide (U.int c < (0 : Int)) then R [[U.b false]] else bif decide (U.int c >
  (6 : Int)) then R [[U.b false]] else (nat_lit 384 = nat_lit 384 ∧ nat_lit 0 = nat_lit 0 ∧ [Ct.int IntKind.i64, Ct.int IntKind.i64, Ct.int IntKind.i64, Ct.int IntKind.i64, Ct.int IntKind.u32] = [Ct.int
  IntKind.i64, Ct.int IntKind.i64, Ct.int IntKind.i64, Ct.int IntKind.i64, Ct.int IntKind.u32] ∧ [Ct.int IntKind.i64, Ct.int IntKind.i64, Ct.int IntKind.i64, Ct.int IntKind.i64, Ct.int IntKind.u32] = [Ct.int
  IntKind.i64, Ct.int IntKind.i64, Ct.int IntKind.i64, Ct.int IntKind.i64, Ct.int IntKind.u32] ∧ L = L ∧ (↑(List.length (U.list L)) : Int) = (↑(List.length (U.list L)) : Int) ∧ (0 : Int) ≤ (0 : Int) ∧ (0
  : Int) ≤ (↑(List.length (U.list L)) : Int)) ∧ bif leavesR (U.int n) (U.int c) (0 : Int) (List.drop (Int.toNat (0 : Int)) (U.list L)) then R [[U.b true]] else R [[U.b false]]) := by kernel_rfl
noncomputable def rtabLoop2 : LoopF := fun _ svs os k => match svs with
  | .val (.int .i64) kk :: .val .bool s :: rest => match rest, os with
    | [.val (.int .i64) i, .val (.int .i64) n, .val (.int .i64) c, .ptr pp po], [.box [.val (.sl false [.sl true ec]) L]] =>
      (pp = 384 ∧ po = 0 ∧ ec = EC ∧ s = .b s.bool ∧ 0 ≤ kk.int ∧ kk.int ≤ 8 ∧ 0 ≤ i.int ∧ i.int < (L.list.length : Int) ∧ (nth (.i 0) L.list i.int.toNat).list.length = 8) ∧
      (bif rentsR n.int c.int i.int kk.int ((nth (.i 0) L.list i.int.toNat).list.drop kk.int.toNat) then k (.exit 2) ⟨(8, vb (.b (s.bool || rsomeR ((nth (.i 0) L.list i.int.toNat).list.drop kk.int.toNat)))) :: [7, 1, 2, 3].zip rest, [384].zip os⟩
        else k .ret ⟨[(6, vb (.b false))], []⟩)
    | _, _ => False
  | _ => False
noncomputable def rtabLoop0 : LoopF := fun _ svs os k => match svs, os with
  | [.val (.int .i64) i, .val (.int .i64) n, .val (.int .i64) c, .ptr pp po], [.box [.val (.sl false [.sl true ec]) L]] =>
    (pp = 384 ∧ po = 0 ∧ ec = EC ∧ 0 ≤ i.int ∧ i.int ≤ (L.list.length : Int)) ∧
    (bif rleavesR n.int c.int i.int (L.list.drop i.int.toNat) then k (.exit 0) ⟨[(6, .unk)], []⟩ else k .ret ⟨[(6, vb (.b false))], []⟩)
  | _, _ => False
noncomputable def rtabC : Ctx := mkC PR eqs0 (fnsCons 54 mayS fnsNil) trsNil
  (loopCons 2 [9, 8, 7, 1, 2, 3] [384] rtabLoop2 (loopCons 0 [7, 1, 2, 3] [384] rtabLoop0 noLoops))
  (outCons 2 [8, 7, 1, 2, 3] [384] (outCons 1048578 [6] [] (outCons 0 [6] [] noOut))) noOut
theorem rtab_round2 (pan : KP) (μ : Mu) (N : Nat) (k : KE) (kk s i n c L : U) : (exec (rtabC.panics pan) (loopBody Try.f32 1) 2 ⟨[(9, vi kk), (8, vb s), (7, vi i), (1, vi n), (2, vi c), (3, .ptr 384 0)], [(384, .box [vl (.sl true EC) L])]⟩ (again PR (some ([8, 7, 1, 2, 3], [384])) (some ([6], [])) pan [9, 8, 7, 1, 2, 3] [384] rtabLoop2 μ N k)) = (bif decide (kk.int < (8 : Int)) then bif decide ((0 : Int) ≤ i.int ∧ i.int < (L.list.length : Int)) then bif decide ((0 : Int) ≤ kk.int ∧ kk.int < (↑(List.length (U.list (nth (U.i (0 : Int)) L.list (Int.toNat i.int)))) : Int)) then bif !mayR (U.int (nth (U.i (0 : Int)) (U.list (nth (U.i (0 : Int)) (U.list (nth (U.i (0 : Int)) L.list (Int.toNat i.int))) (Int.toNat kk.int))) (0 : Nat))) (U.int (nth (U.i (0 : Int)) (List.tail (U.list (nth (U.i (0 : Int)) (U.list (nth (U.i (0 : Int)) L.list (Int.toNat i.int))) (Int.toNat kk.int)))) (0 : Nat))) (U.int (nth (U.i (0 : Int)) (List.tail (List.tail (U.list (nth (U.i (0 : Int)) (U.list (nth (U.i (0 : Int)) L.list (Int.toNat i.int))) (Int.toNat kk.int))))) (0 : Nat))) (U.int (nth (U.i (0 : Int)) (List.tail (List.tail (List.tail (U.list (nth (U.i (0 : Int)) (U.list (nth (U.i (0 : Int)) L.list (Int.toNat i.int))) (Int.toNat kk.int)))))) (0 : Nat))) (U.int (nth (U.i (0 : Int)) (List.tail (List.tail (List.tail (List.tail (U.list (nth (U.i (0 : Int)) (U.list (nth (U.i (0 : Int)) L.list (Int.toNat i.int))) (Int.toNat kk.int))))))) (0 : Nat))) c.int then k Ex.ret (St.mk [(nat_lit 6, .val .bool (U.b false))] []) else bif U.int (nth (U.i (0 : Int)) (U.list (nth (U.i (0 : Int)) (U.list (nth (U.i (0 : Int)) L.list (Int.toNat i.int))) (Int.toNat kk.int))) (0 : Nat)) != (0 : Int) then bif decide (IntKind.wrap .i64 (IntKind.wrap .i64 (i.int * (8 : Int)) + kk.int) ≥ n.int) then k Ex.ret (St.mk [(nat_lit 6, .val .bool (U.b false))] []) else bif s.bool then bif Nat.blt (μ [.val (.int IntKind.i64) (U.i (IntKind.wrap .i64 (kk.int + (1 : Int)))), .val .bool (U.b true), .val (.int IntKind.i64) i, .val (.int IntKind.i64) n, .val (.int IntKind.i64) c, .ptr (nat_lit 384) (nat_lit 0)] [.box [.val (.sl false [.sl true [.int .i64, .int .i64, .int .i64, .int .i64, .int .u32]]) L]]) N then (nat_lit 384 = nat_lit 384 ∧ nat_lit 0 = nat_lit 0 ∧ [Ct.int IntKind.i64, Ct.int IntKind.i64, Ct.int IntKind.i64, Ct.int IntKind.i64, Ct.int IntKind.u32] = [.int .i64, .int .i64, .int .i64, .int .i64, .int .u32] ∧ U.b true = U.b true ∧ (0 : Int) ≤ IntKind.wrap .i64 (kk.int + (1 : Int)) ∧ IntKind.wrap .i64 (kk.int + (1 : Int)) ≤ (8 : Int) ∧ (0 : Int) ≤ i.int ∧ i.int < (L.list.length : Int) ∧ List.length (U.list (nth (U.i (0 : Int)) L.list (Int.toNat i.int))) = nat_lit 8) ∧ bif rentsR n.int c.int i.int (IntKind.wrap .i64 (kk.int + (1 : Int))) (List.drop (Int.toNat (IntKind.wrap .i64 (kk.int + (1 : Int)))) (U.list (nth (U.i (0 : Int)) L.list (Int.toNat i.int)))) then k (Ex.exit (nat_lit 2)) (St.mk [(nat_lit 8, .val .bool (U.b (true || rsomeR (List.drop (Int.toNat (IntKind.wrap .i64 (kk.int + (1 : Int)))) (U.list (nth (U.i (0 : Int)) L.list (Int.toNat i.int))))))), (nat_lit 7, .val (.int IntKind.i64) i), (nat_lit 1, .val (.int IntKind.i64) n), (nat_lit 2, .val (.int IntKind.i64) c), (nat_lit 3, .ptr (nat_lit 384) (nat_lit 0))] [(nat_lit 384, .box [.val (.sl false [.sl true [.int .i64, .int .i64, .int .i64, .int .i64, .int .u32]]) L])]) else k Ex.ret (St.mk [(nat_lit 6, .val .bool (U.b false))] []) else False else bif Nat.blt (μ [.val (.int IntKind.i64) (U.i (IntKind.wrap .i64 (kk.int + (1 : Int)))), .val .bool (U.b (U.int (nth (U.i (0 : Int)) (U.list (nth (U.i (0 : Int)) (U.list (nth (U.i (0 : Int)) L.list (Int.toNat i.int))) (Int.toNat kk.int))) (0 : Nat)) != (0 : Int))), .val (.int IntKind.i64) i, .val (.int IntKind.i64) n, .val (.int IntKind.i64) c, .ptr (nat_lit 384) (nat_lit 0)] [.box [.val (.sl false [.sl true [.int .i64, .int .i64, .int .i64, .int .i64, .int .u32]]) L]]) N then (nat_lit 384 = nat_lit 384 ∧ nat_lit 0 = nat_lit 0 ∧ [Ct.int IntKind.i64, Ct.int IntKind.i64, Ct.int IntKind.i64, Ct.int IntKind.i64, Ct.int IntKind.u32] = [.int .i64, .int .i64, .int .i64, .int .i64, .int .u32] ∧ U.b (U.int (nth (U.i (0 : Int)) (U.list (nth (U.i (0 : Int)) (U.list (nth (U.i (0 : Int)) L.list (Int.toNat i.int))) (Int.toNat kk.int))) (0 : Nat)) != (0 : Int)) = U.b (U.int (nth (U.i (0 : Int)) (U.list (nth (U.i (0 : Int)) (U.list (nth (U.i (0 : Int)) L.list (Int.toNat i.int))) (Int.toNat kk.int))) (0 : Nat)) != (0 : Int)) ∧ (0 : Int) ≤ IntKind.wrap .i64 (kk.int + (1 : Int)) ∧ IntKind.wrap .i64 (kk.int + (1 : Int)) ≤ (8 : Int) ∧ (0 : Int) ≤ i.int ∧ i.int < (L.list.length : Int) ∧ List.length (U.list (nth (U.i (0 : Int)) L.list (Int.toNat i.int))) = nat_lit 8) ∧ bif rentsR n.int c.int i.int (IntKind.wrap .i64 (kk.int + (1 : Int))) (List.drop (Int.toNat (IntKind.wrap .i64 (kk.int + (1 : Int)))) (U.list (nth (U.i (0 : Int)) L.list (Int.toNat i.int)))) then k (Ex.exit (nat_lit 2)) (St.mk [(nat_lit 8, .val .bool (U.b (U.int (nth (U.i (0 : Int)) (U.list (nth (U.i (0 : Int)) (U.list (nth (U.i (0 : Int)) L.list (Int.toNat i.int))) (Int.toNat kk.int))) (0 : Nat)) != (0 : Int) || rsomeR (List.drop (Int.toNat (IntKind.wrap .i64 (kk.int + (1 : Int)))) (U.list (nth (U.i (0 : Int)) L.list (Int.toNat i.int))))))), (nat_lit 7, .val (.int IntKind.i64) i), (nat_lit 1, .val (.int IntKind.i64) n), (nat_lit 2, .val (.int IntKind.i64) c), (nat_lit 3, .ptr (nat_lit 384) (nat_lit 0))] [(nat_lit 384, .box [.val (.sl false [.sl true [.int .i64, .int .i64, .int .i64, .int .i64, .int .u32]]) L])]) else k Ex.ret (St.mk [(nat_lit 6, .val .bool (U.b false))] []) else False else bif s.bool then bif Nat.blt (μ [.val (.int IntKind.i64) (U.i (IntKind.wrap .i64 (kk.int + (1 : Int)))), .val .bool (U.b true), .val (.int IntKind.i64) i, .val (.int IntKind.i64) n, .val (.int IntKind.i64) c, .ptr (nat_lit 384) (nat_lit 0)] [.box [.val (.sl false [.sl true [.int .i64, .int .i64, .int .i64, .int .i64, .int .u32]]) L]]) N then (nat_lit 384 = nat_lit 384 ∧ nat_lit 0 = nat_lit 0 ∧ [Ct.int IntKind.i64, Ct.int IntKind.i64, Ct.int IntKind.i64, Ct.int IntKind.i64, Ct.int IntKind.u32] = [.int .i64, .int .i64, .int .i64, .int .i64, .int .u32] ∧ U.b true = U.b true ∧ (0 : Int) ≤ IntKind.wrap .i64 (kk.int + (1 : Int)) ∧ IntKind.wrap .i64 (kk.int + (1 : Int)) ≤ (8 : Int) ∧ (0 : Int) ≤ i.int ∧ i.int < (L.list.length : Int) ∧ List.length (U.list (nth (U.i (0 : Int)) L.list (Int.toNat i.int))) = nat_lit 8) ∧ bif rentsR n.int c.int i.int (IntKind.wrap .i64 (kk.int + (1 : Int))) (List.drop (Int.toNat (IntKind.wrap .i64 (kk.int + (1 : Int)))) (U.list (nth (U.i (0 : Int)) L.list (Int.toNat i.int)))) then k (Ex.exit (nat_lit 2)) (St.mk [(nat_lit 8, .val .bool (U.b (true || rsomeR (List.drop (Int.toNat (IntKind.wrap .i64 (kk.int + (1 : Int)))) (U.list (nth (U.i (0 : Int)) L.list (Int.toNat i.int))))))), (nat_lit 7, .val (.int IntKind.i64) i), (nat_lit 1, .val (.int IntKind.i64) n), (nat_lit 2, .val (.int IntKind.i64) c), (nat_lit 3, .ptr (nat_lit 384) (nat_lit 0))] [(nat_lit 384, .box [.val (.sl false [.sl true [.int .i64, .int .i64, .int .i64, .int .i64, .int .u32]]) L])]) else k Ex.ret (St.mk [(nat_lit 6, .val .bool (U.b false))] []) else False else bif Nat.blt (μ [.val (.int IntKind.i64) (U.i (IntKind.wrap .i64 (kk.int + (1 : Int)))), .val .bool (U.b (U.int (nth (U.i (0 : Int)) (U.list (nth (U.i (0 : Int)) (U.list (nth (U.i (0 : Int)) L.list (Int.toNat i.int))) (Int.toNat kk.int))) (0 : Nat)) != (0 : Int))), .val (.int IntKind.i64) i, .val (.int IntKind.i64) n, .val (.int IntKind.i64) c, .ptr (nat_lit 384) (nat_lit 0)] [.box [.val (.sl false [.sl true [.int .i64, .int .i64, .int .i64, .int .i64, .int .u32]]) L]]) N then (nat_lit 384 = nat_lit 384 ∧ nat_lit 0 = nat_lit 0 ∧ [Ct.int IntKind.i64, Ct.int IntKind.i64, Ct.int IntKind.i64, Ct.int IntKind.i64, Ct.int IntKind.u32] = [.int .i64, .int .i64, .int .i64, .int .i64, .int .u32] ∧ U.b (U.int (nth (U.i (0 : Int)) (U.list (nth (U.i (0 : Int)) (U.list (nth (U.i (0 : Int)) L.list (Int.toNat i.int))) (Int.toNat kk.int))) (0 : Nat)) != (0 : Int)) = U.b (U.int (nth (U.i (0 : Int)) (U.list (nth (U.i (0 : Int)) (U.list (nth (U.i (0 : Int)) L.list (Int.toNat i.int))) (Int.toNat kk.int))) (0 : Nat)) != (0 : Int)) ∧ (0 : Int) ≤ IntKind.wrap .i64 (kk.int + (1 : Int)) ∧ IntKind.wrap .i64 (kk.int + (1 : Int)) ≤ (8 : Int) ∧ (0 : Int) ≤ i.int ∧ i.int < (L.list.length : Int) ∧ List.length (U.list (nth (U.i (0 : Int)) L.list (Int.toNat i.int))) = nat_lit 8) ∧ bif rentsR n.int c.int i.int (IntKind.wrap .i64 (kk.int + (1 : Int))) (List.drop (Int.toNat (IntKind.wrap .i64 (kk.int + (1 : Int)))) (U.list (nth (U.i (0 : Int)) L.list (Int.toNat i.int)))) then k (Ex.exit (nat_lit 2)) (St.mk [(nat_lit 8, .val .bool (U.b (U.int (nth (U.i (0 : Int)) (U.list (nth (U.i (0 : Int)) (U.list (nth (U.i (0 : Int)) L.list (Int.toNat i.int))) (Int.toNat kk.int))) (0 : Nat)) != (0 : Int) || rsomeR (List.drop (Int.toNat (IntKind.wrap .i64 (kk.int + (1 : Int)))) (U.list (nth (U.i (0 : Int)) L.list (Int.toNat i.int))))))), (nat_lit 7, .val (.int IntKind.i64) i), (nat_lit 1, .val (.int IntKind.i64) n), (nat_lit 2, .val (.int IntKind.i64) c), (nat_lit 3, .ptr (nat_lit 384) (nat_lit 0))] [(nat_lit 384, .box [.val (.sl false [.sl true [.int .i64, .int .i64, .int .i64, .int .i64, .int .u32]]) L])]) else k Ex.ret (St.mk [(nat_lit 6, .val .bool (U.b false))] []) else False else False else False else k (Ex.exit (nat_lit 2)) (St.mk [(nat_lit 8, .val .bool s), (nat_lit 7, .val (.int IntKind.i64) i), (nat_lit 1, .val (.int IntKind.i64) n), (nat_lit 2, .val (.int IntKind.i64) c), (nat_lit 3, .ptr (nat_lit 384) (nat_lit 0))] [(nat_lit 384, .box [.val (.sl false [.sl true [.int .i64, .int .i64, .int .i64, .int .i64, .int .u32]]) L])])) := by kernel_rfl
theorem rtab_round0 (pan : KP) (μ : Mu) (N : Nat) (k : KE) (i L n c : U) : (exec (rtabC.panics pan) (loopBody Try.f32 0) 0 ⟨[(7, vi i), (1, vi n), (2, vi c), (3, .ptr 384 0)], [(384, .box [vl (.sl true EC) L])]⟩ (again PR (some ([6], [])) none pan [7, 1, 2, 3] [384] rtabLoop0 μ N k)) = (bif decide (i.int < (L.list.length : Int)) then bif decide ((0 : Int) ≤ i.int ∧ i.int < (L.list.length : Int)) then bif (↑(List.length (U.list (nth (U.i (0 : Int)) L.list (Int.toNat i.int)))) : Int) == (0 : Int) then bif Nat.blt (μ [.val (.int IntKind.i64) (U.i (IntKind.wrap .i64 (i.int + (1 : Int)))), .val (.int IntKind.i64) n, .val (.int IntKind.i64) c, .ptr (nat_lit 384) (nat_lit 0)] [.box [.val (.sl false [.sl true [.int .i64, .int .i64, .int .i64, .int .i64, .int .u32]]) L]]) N then (nat_lit 384 = nat_lit 384 ∧ nat_lit 0 = nat_lit 0 ∧ [Ct.int IntKind.i64, Ct.int IntKind.i64, Ct.int IntKind.i64, Ct.int IntKind.i64, Ct.int IntKind.u32] = [.int .i64, .int .i64, .int .i64, .int .i64, .int .u32] ∧ (0 : Int) ≤ IntKind.wrap .i64 (i.int + (1 : Int)) ∧ IntKind.wrap .i64 (i.int + (1 : Int)) ≤ (L.list.length : Int)) ∧ bif rleavesR n.int c.int (IntKind.wrap .i64 (i.int + (1 : Int))) (List.drop (Int.toNat (IntKind.wrap .i64 (i.int + (1 : Int)))) L.list) then k (Ex.exit (nat_lit 0)) (St.mk [(nat_lit 6, .unk)] []) else k Ex.ret (St.mk [(nat_lit 6, .val .bool (U.b false))] []) else False else bif decide ((0 : Int) ≤ i.int ∧ i.int < (L.list.length : Int)) then bif (↑(List.length (U.list (nth (U.i (0 : Int)) L.list (Int.toNat i.int)))) : Int) != (8 : Int) then k Ex.ret (St.mk [(nat_lit 6, .val .bool (U.b false))] []) else (nat_lit 384 = nat_lit 384 ∧ nat_lit 0 = nat_lit 0 ∧ [Ct.int IntKind.i64, Ct.int IntKind.i64, Ct.int IntKind.i64, Ct.int IntKind.i64, Ct.int IntKind.u32] = [.int .i64, .int .i64, .int .i64, .int .i64, .int .u32] ∧ U.b false = U.b false ∧ (0 : Int) ≤ (0 : Int) ∧ (0 : Int) ≤ (8 : Int) ∧ (0 : Int) ≤ i.int ∧ i.int < (L.list.length : Int) ∧ List.length (U.list (nth (U.i (0 : Int)) L.list (Int.toNat i.int))) = nat_lit 8) ∧ bif rentsR n.int c.int i.int (0 : Int) (List.drop (Int.toNat (0 : Int)) (U.list (nth (U.i (0 : Int)) L.list (Int.toNat i.int)))) then bif !(false || rsomeR (List.drop (Int.toNat (0 : Int)) (U.list (nth (U.i (0 : Int)) L.list (Int.toNat i.int))))) then k Ex.ret (St.mk [(nat_lit 6, .val .bool (U.b false))] []) else bif Nat.blt (μ [.val (.int IntKind.i64) (U.i (IntKind.wrap .i64 (i.int + (1 : Int)))), .val (.int IntKind.i64) n, .val (.int IntKind.i64) c, .ptr (nat_lit 384) (nat_lit 0)] [.box [.val (.sl false [.sl true [.int .i64, .int .i64, .int .i64, .int .i64, .int .u32]]) L]]) N then (nat_lit 384 = nat_lit 384 ∧ nat_lit 0 = nat_lit 0 ∧ [Ct.int IntKind.i64, Ct.int IntKind.i64, Ct.int IntKind.i64, Ct.int IntKind.i64, Ct.int IntKind.u32] = [.int .i64, .int .i64, .int .i64, .int .i64, .int .u32] ∧ (0 : Int) ≤ IntKind.wrap .i64 (i.int + (1 : Int)) ∧ IntKind.wrap .i64 (i.int + (1 : Int)) ≤ (L.list.length : Int)) ∧ bif rleavesR n.int c.int (IntKind.wrap .i64 (i.int + (1 : Int))) (List.drop (Int.toNat (IntKind.wrap .i64 (i.int + (1 : Int)))) L.list) then k (Ex.exit (nat_lit 0)) (St.mk [(nat_lit 6, .unk)] []) else k Ex.ret (St.mk [(nat_lit 6, .val .bool (U.b false))] []) else False else k Ex.ret (St.mk [(nat_lit 6, .val .bool (U.b false))] []) else False else False else k (Ex.exit (nat_lit 0)) (St.mk [(nat_lit 6, .unk)] [])) := by kernel_rfl
theorem rtab_tree (R : RF) (L n c : U) : (run rtabC Try.f32 [[L], [n], [c]] R) = (bif decide (n.int < (0 : Int)) then R [[U.b false]] else bif decide (n.int > (4096 : Int)) then R [[U.b false]] else bif decide (c.int < (0 : Int)) then R [[U.b false]] else bif decide (c.int > (6 : Int)) then R [[U.b false]] else bif decide ((L.list.length : Int) > (0 : Int)) then bif decide ((0 : Int) ≤ IntKind.wrap .i64 ((L.list.length : Int) - (1 : Int)) ∧ IntKind.wrap .i64 ((L.list.length : Int) - (1 : Int)) < (L.list.length : Int)) then bif (↑(List.length (U.list (nth (U.i (0 : Int)) L.list (Int.toNat (IntKind.wrap .i64 ((L.list.length : Int) - (1 : Int))))))) : Int) == (0 : Int) then R [[U.b false]] else bif decide ((L.list.length : Int) > (512 : Int)) then R [[U.b false]] else (nat_lit 384 = nat_lit 384 ∧ nat_lit 0 = nat_lit 0 ∧ [Ct.int IntKind.i64, Ct.int IntKind.i64, Ct.int IntKind.i64, Ct.int IntKind.i64, Ct.int IntKind.u32] = [.int .i64, .int .i64, .int .i64, .int .i64, .int .u32] ∧ (0 : Int) ≤ (0 : Int) ∧ (0 : Int) ≤ (L.list.length : Int)) ∧ bif rleavesR n.int c.int (0 : Int) (List.drop (Int.toNat (0 : Int)) L.list) then R [[U.b true]] else R [[U.b false]] else False else bif decide ((L.list.length : Int) > (512 : Int)) then R [[U.b false]] else (nat_lit 384 = nat_lit 384 ∧ nat_lit 0 = nat_lit 0 ∧ [Ct.int IntKind.i64, Ct.int IntKind.i64, Ct.int IntKind.i64, Ct.int IntKind.i64, Ct.int IntKind.u32] = [.int .i64, .int .i64, .int .i64, .int .i64, .int .u32] ∧ (0 : Int) ≤ (0 : Int) ∧ (0 : Int) ≤ (L.list.length : Int)) ∧ bif rleavesR n.int c.int (0 : Int) (List.drop (Int.toNat (0 : Int)) L.list) then R [[U.b true]] else R [[U.b false]]) := by kernel_rfl
end Go.Mat

namespace Go.Mat
open Go Go.Den Go.Proofs
theorem eqs0_ok : ∀ t ks, eqs0 t = some ks → EqOk PR t ks := by
  intro t ks h
  unfold eqs0 at h
  cases hb : Nat.beq t 54 with
  | true =>
    rw [hb] at h
    have := Nat.eq_of_beq_eq_true hb
    subst this
    injection h with h
    subst h
    exact eq_ok (by kernel_rfl)
  | false => rw [hb] at h; cases h
theorem mixed_ok : PR.follows .mixedOrders = true := by kernel_rfl
noncomputable def putF : Tr := fun vs objs k => match vs, objs with
  | [.val (.sl false [.int .u8]) b, .val (.int .i64) n, .val .bool g, .val (.int .u64) v], [] =>
    (b.list.length ≤ 536870912) ∧ k (.ret [.own 2097152, vi (.i (putErr n.int v.int))]) [(2097152, .arr u8T (putX b.list n.int g.bool v.int))]
  | _, _ => False
theorem put_loop : LoopOk putC 1 (loopBody Try.f49 0) := by
  refine loopOk_of (F := putLoop) (ts := [38, 37, 10, 1, 2, 3]) (os := [4478]) rfl (fun svs _ => match svs with | .val _ i :: .val _ m :: _ => (m.int - i.int).toNat | _ => 0) ?_
  intro pan svs l k ho1 ho2 h
  unfold putLoop at h
  split at h
  · rename_i i m o n g v e xs
    obtain ⟨⟨rfl, rfl, rfl, h0, him, hm8, hl⟩, hk⟩ := h
    refine .eq (put_round pan _ _ k i n n g v xs) ?_
    refine bd (fun hlt => ?_) (fun hlt => ?_)
    · have hw : IntKind.wrap .i64 (i.int + 1) = i.int + 1 := i64_in (by omega) (by omega)
      have step : ∀ y : Int, y = byteAt v.int (if g.bool = true then n.int - 1 - i.int else i.int) →
          xs ++ [U.i y] ++ putFrom g.bool n.int v.int (i.int + 1) (n.int - (i.int + 1)).toNat = xs ++ putFrom g.bool n.int v.int i.int (n.int - i.int).toNat := by
        intro y hy
        rw [show (n.int - i.int).toNat = (n.int - (i.int + 1)).toNat + 1 by omega, putFrom, hy]
        simp
      refine bi (fun hg => ?_) (fun hg => ?_)
      · have hw1 : IntKind.wrap .i64 (n.int - 1) = n.int - 1 := i64_in (by omega) (by omega)
        have hw2 : IntKind.wrap .i64 (n.int - 1 - i.int) = n.int - 1 - i.int := i64_in (by omega) (by omega)
        simp only [hw, hw1, hw2]
        refine df (by rw [i64_in (by omega) (by omega)]; omega) (broom (by simp [room]; omega) rfl (blt (by simp; omega) ⟨⟨by trivial, by trivial, by trivial, by omega, by omega, by omega, by simp; omega⟩, ?_⟩))
        rw [byte_go (by omega) (by omega), step _ (by rw [hg]; rfl)]
        exact hk
      · simp only [hw]
        refine df (by rw [i64_in (by omega) (by omega)]; omega) (broom (by simp [room]; omega) rfl (blt (by simp; omega) ⟨⟨by trivial, by trivial, by trivial, by omega, by omega, by omega, by simp; omega⟩, ?_⟩))
        rw [byte_go (by omega) (by omega), step _ (by rw [hg]; rfl)]
        exact hk
    · have : (n.int - i.int).toNat = 0 := by omega
      rw [this] at hk
      simpa [putFrom] using hk
  · exact h.elim
theorem put_ok : SpecT PR 49 putF := fun fn hfn => by
  have hf : PR.funcs[(49 : Nat)]? = some Try.f49 := by kernel_rfl
  rw [hf] at hfn; cases hfn
  refine fnT_okH (C := putC) (mkC_ok eqs0_ok mixed_ok .nil .nil) hf (by kernel_rfl) (loops_one (by kernel_rfl) put_loop) fun vs objs R h1 h2 h => ?_
  clear h1 h2
  unfold putF at h
  split at h
  · rename_i b n g v
    have hb := h.1
    replace h := h.2
    refine .eq (put_tree R b n g v) ?_
    have bad : ∀ e : Int, e ≠ 0 → putErr n.int v.int = e → R (.ret [.own 2097152, vi (.i e)]) [(2097152, .arr u8T [])] := fun e h0 he => by
      rw [putX, he, if_neg h0] at h; exact h
    have good : putErr n.int v.int = 0 → 0 ≤ n.int → R (.ret [.own 2097152, vi (.i 0)]) [(2097152, .arr u8T (b.list ++ putFrom g.bool n.int v.int 0 (n.int - 0).toNat))] := fun he h0 => by
      rw [putX, he, if_pos rfl] at h
      simpa using h
    refine bd (fun h1 => bad 1 (by decide) (by rw [putErr, if_pos (.inl h1)])) (fun h1 => bd (fun h2 => bad 1 (by decide) (by rw [putErr, if_pos (.inr h2)])) (fun h2 => ?_))
    have h12 : ¬ (n.int < 1 ∨ 8 < n.int) := by omega
    have hlen : IntKind.wrap .i64 ((b.list.length : Int) + n.int) = (b.list.length : Int) + n.int := i64_in (by omega) (by omega)
    have h8 : IntKind.wrap .i64 (8 * n.int) = 8 * n.int := i64_in (by omega) (by omega)
    have hpow : (0 : Int) ≤ 2 ^ (8 * n.int).toNat := Int.le_of_lt (Int.pow_pos (by omega))
    have hmin : n.int < 8 → min (8 * n.int).toNat (IntKind.bits .u64) = (8 * n.int).toNat := fun h => Nat.min_eq_left (by simp [IntKind.bits]; omega)
    refine bd (fun h3 => ?_) (fun h3 => ?_)
    · rw [h8, hmin h3, Int.fdiv_eq_ediv_of_nonneg _ hpow]
      refine df (by omega) (bi (fun h4 => ?_) (fun h4 => ?_))
      · exact bad 6 (by decide) (by rw [putErr, if_neg h12, if_pos ⟨h3, by simpa using h4⟩])
      · have he : putErr n.int v.int = 0 := by rw [putErr, if_neg h12, if_neg (by simp at h4; simp [h4])]
        rw [hlen]
        refine dt (by simp [room]; omega) (broom (by simp [room]; omega) rfl ⟨⟨by trivial, by trivial, by trivial, by omega, by omega, by omega, by simpa using hb⟩, ?_⟩)
        simpa using good he (by omega)
    · have he : putErr n.int v.int = 0 := by rw [putErr, if_neg h12, if_neg (fun h => h3 h.1)]
      rw [hlen]
      refine dt (by simp [room]; omega) (broom (by simp [room]; omega) rfl ⟨⟨by trivial, by trivial, by trivial, by omega, by omega, by omega, by simpa using hb⟩, ?_⟩)
      simpa using good he (by omega)
  · exact h.elim
end Go.Mat

namespace Go.Mat
open Go Go.Den Go.Proofs
theorem ubi {x y : Bool} (h : x = true ↔ y = true) : ([[U.b x]] : List (List U)) = [[.b y]] := by rw [Bool.eq_iff_iff.2 h]
theorem spanMay_ok : SpecF PR 67 spanMayS := fun fn us hfn => by
  have hf : PR.funcs[(67 : Nat)]? = some Try.f67 := by kernel_rfl
  rw [hf] at hfn; cases hfn
  refine fn_okH (C := K0) (mkC_ok eqs0_ok mixed_ok .nil .nil) hf (by kernel_rfl) (loops_none (by kernel_rfl)) fun hok => ?_
  have hp : Try.f67.params.toList = [72] := by kernel_rfl
  rw [hp] at hok
  obtain ⟨a, b, hus⟩ : ∃ a b, us = [[a, b]] := by
    obtain ⟨u, rfl, h1⟩ := shape1 (by kernel_rfl : Cs PR 72 = some (true, [.int .i64, .int .i64])) hok.1
    obtain ⟨a, b, rfl⟩ := len2 h1
    exact ⟨a, b, rfl⟩
  subst hus
  refine .eq (spanMay_tree _ _ _) ?_
  unfold spanMayS
  simp only [nth_zero, nth_succ]
  repeat' (first | refine bd (fun _ => ?_) (fun _ => ?_) | refine bi (fun _ => ?_) (fun _ => ?_))
  all_goals (first | (refine ubi ?_; simp [spanMay]; omega) | (refine ubi ?_; simp_all [spanMay]; done) | (refine ubi ?_; simp_all [spanMay]; omega))
theorem rspanMay_ok : SpecF PR 55 spanMayS := fun fn us hfn => by
  have hf : PR.funcs[(55 : Nat)]? = some Try.f55 := by kernel_rfl
  rw [hf] at hfn; cases hfn
  refine fn_okH (C := K0) (mkC_ok eqs0_ok mixed_ok .nil .nil) hf (by kernel_rfl) (loops_none (by kernel_rfl)) fun hok => ?_
  have hp : Try.f55.params.toList = [72] := by kernel_rfl
  rw [hp] at hok
  obtain ⟨a, b, hus⟩ : ∃ a b, us = [[a, b]] := by
    obtain ⟨u, rfl, h1⟩ := shape1 (by kernel_rfl : Cs PR 72 = some (true, [.int .i64, .int .i64])) hok.1
    obtain ⟨a, b, rfl⟩ := len2 h1
    exact ⟨a, b, rfl⟩
  subst hus
  refine .eq (rspanMay_tree _ _ _) ?_
  unfold spanMayS
  simp only [nth_zero, nth_succ]
  repeat' (first | refine bd (fun _ => ?_) (fun _ => ?_) | refine bi (fun _ => ?_) (fun _ => ?_))
  all_goals (first | (refine ubi ?_; simp [spanMay]; omega) | (refine ubi ?_; simp_all [spanMay]; done) | (refine ubi ?_; simp_all [spanMay]; omega))
theorem place_ok : SpecF PR 77 placeS := fun fn us hfn => by
  have hf : PR.funcs[(77 : Nat)]? = some Try.f77 := by kernel_rfl
  rw [hf] at hfn; cases hfn
  refine fn_okH (C := K0) (mkC_ok eqs0_ok mixed_ok .nil .nil) hf (by kernel_rfl) (loops_none (by kernel_rfl)) fun hok => ?_
  have hp : Try.f77.params.toList = [54] := by kernel_rfl
  rw [hp] at hok
  obtain ⟨a, b, c, d, e, hus⟩ : ∃ a b c d e, us = [[a, b, c, d, e]] := by
    obtain ⟨u, rfl, h1⟩ := shape1 (by kernel_rfl : Cs PR 54 = some (true, [.int .i64, .int .i64, .int .i64, .int .i64, .int .u32])) hok.1
    obtain ⟨a, b, c, d, e, rfl⟩ := len5 h1
    exact ⟨a, b, c, d, e, rfl⟩
  subst hus
  refine .eq (place_tree _ _ _ _ _ _) ?_
  unfold placeS
  simp only [nth_zero, nth_succ]
  have hw : 2 ≤ b.int → b.int ≤ 65536 → IntKind.wrap .i64 (65536 - b.int) = 65536 - b.int := fun h h' => i64_in (by omega) (by omega)
  repeat' (first | refine bd (fun _ => ?_) (fun _ => ?_) | refine bi (fun _ => ?_) (fun _ => ?_))
  all_goals (first | (rw [hw (by omega) (by omega)]; refine ubi ?_; simp [placeR]; omega) | (refine ubi ?_; simp [placeR]; omega))
theorem none_ok : SpecF PR 66 noneS := fun fn us hfn => by
  have hf : PR.funcs[(66 : Nat)]? = some Try.f66 := by kernel_rfl
  rw [hf] at hfn; cases hfn
  refine fn_okH (C := K0) (mkC_ok eqs0_ok mixed_ok .nil .nil) hf (by kernel_rfl) (loops_none (by kernel_rfl)) fun hok => ?_
  have hp : Try.f66.params.toList = [54] := by kernel_rfl
  rw [hp] at hok
  obtain ⟨a, b, c, d, e, hus⟩ : ∃ a b c d e, us = [[a, b, c, d, e]] := by
    obtain ⟨u, rfl, h1⟩ := shape1 (by kernel_rfl : Cs PR 54 = some (true, [.int .i64, .int .i64, .int .i64, .int .i64, .int .u32])) hok.1
    obtain ⟨a, b, c, d, e, rfl⟩ := len5 h1
    exact ⟨a, b, c, d, e, rfl⟩
  subst hus
  refine .eq (none_tree _ _ _ _ _ _) ?_
  unfold noneS
  simp only [nth_zero, nth_succ]
  refine ubi ?_; simp [noneR]
theorem may_ok : SpecF PR 65 mayS := fun fn us hfn => by
  have hf : PR.funcs[(65 : Nat)]? = some Try.f65 := by kernel_rfl
  rw [hf] at hfn; cases hfn
  refine fn_okH (C := mayC) (mkC_ok eqs0_ok mixed_ok (.cons place_ok .nil) .nil) hf (by kernel_rfl) (loops_none (by kernel_rfl)) fun hok => ?_
  have hp : Try.f65.params.toList = [54, 3] := by kernel_rfl
  rw [hp] at hok
  obtain ⟨a, b, c, d, e, k, hus⟩ : ∃ a b c d e k, us = [[a, b, c, d, e], [k]] := by
    obtain ⟨u, u2, rfl, h1, h2⟩ := shape2 (by kernel_rfl : Cs PR 54 = some (true, [.int .i64, .int .i64, .int .i64, .int .i64, .int .u32])) (by kernel_rfl : Cs PR 3 = some (false, [.int .i64])) hok.1
    obtain ⟨a, b, c, d, e, rfl⟩ := len5 h1
    obtain ⟨k, rfl⟩ := len1 h2
    exact ⟨a, b, c, d, e, k, rfl⟩
  subst hus
  refine .eq (may_tree _ _ _ _ _ _ _) ?_
  unfold mayS
  simp only [nth_zero, nth_succ]
  by_cases hk0 : k.int < 0
  · exact dt hk0 (by simp [mayR, hk0])
  refine df hk0 ?_
  by_cases hk6 : k.int > 6
  · exact dt hk6 (by simp [mayR, show 6 < k.int from hk6])
  refine df hk6 (df hk0 ?_)
  have hs := shl_one (c := k.int) (by omega) (by omega)
  have hp := pow_le (c := k.int) (by omega) (by omega)
  rw [hs]
  have hc : ¬ (k.int < 0 ∨ 6 < k.int) := by omega
  rw [mayR, if_neg hc]
  generalize (2 : Int) ^ k.int.toNat = p at hp hs ⊢
  by_cases ha0 : a.int = 0
  · refine bt (by simp [ha0]) ?_
    refine ubi ?_; simp [ha0]
  refine bf (by simp [ha0]) ?_
  by_cases ha1 : a.int = 1
  · refine bt (by simp [ha1]) ?_
    refine ubi ?_; simp [ha1]
  refine bf (by simp [ha1]) ?_
  rw [if_neg (by omega)]
  by_cases ha2 : a.int = 2
  · refine bt (by simp [ha2]) ?_
    rw [if_pos ha2]
    refine bi (fun h => bi (fun h' => ?_) (fun h' => ?_)) (fun h => ?_)
    all_goals (simp at h; simp_all)
  refine bf (by simp [ha2]) ?_
  rw [if_neg ha2]
  by_cases ha3 : a.int = 3
  · refine bt (by simp [ha3]) ?_
    rw [if_pos ha3]
    by_cases h1 : c.int ≥ 1
    · refine dt h1 ?_
      by_cases h2 : c.int < p
      · refine dt h2 ?_
        rw [i64_in (x := c.int - 1) (by omega) (by omega), i64_in (x := (c.int - 1) * 16) (by omega) (by omega), i64_in (x := c.int * 16) (by omega) (by omega)]
        refine bd (fun h3 => bd (fun h4 => bd (fun h5 => ?_) (fun h5 => ?_)) (fun h4 => ?_)) (fun h3 => ?_)
        · have : decide (1 ≤ c.int ∧ c.int < p ∧ 1 ≤ d.int ∧ (c.int - 1) * 16 < d.int ∧ d.int ≤ c.int * 16) = true := by simp; omega
          rw [this]; rfl
        all_goals
          have : decide (1 ≤ c.int ∧ c.int < p ∧ 1 ≤ d.int ∧ (c.int - 1) * 16 < d.int ∧ d.int ≤ c.int * 16) = false := by simp; omega
          rw [this]; rfl
      · refine df h2 ?_
        simp [h2]
    · refine df h1 ?_
      simp [show ¬ 1 ≤ c.int from h1]
  refine bf (by simp [ha3]) ?_
  simp [ha3]
theorem rmay_ok : SpecF PR 54 mayS := fun fn us hfn => by
  have hf : PR.funcs[(54 : Nat)]? = some Try.f54 := by kernel_rfl
  rw [hf] at hfn; cases hfn
  refine fn_okH (C := K0) (mkC_ok eqs0_ok mixed_ok .nil .nil) hf (by kernel_rfl) (loops_none (by kernel_rfl)) fun hok => ?_
  have hp : Try.f54.params.toList = [54, 3] := by kernel_rfl
  rw [hp] at hok
  obtain ⟨a, b, c, d, e, k, hus⟩ : ∃ a b c d e k, us = [[a, b, c, d, e], [k]] := by
    obtain ⟨u, u2, rfl, h1, h2⟩ := shape2 (by kernel_rfl : Cs PR 54 = some (true, [.int .i64, .int .i64, .int .i64, .int .i64, .int .u32])) (by kernel_rfl : Cs PR 3 = some (false, [.int .i64])) hok.1
    obtain ⟨a, b, c, d, e, rfl⟩ := len5 h1
    obtain ⟨k, rfl⟩ := len1 h2
    exact ⟨a, b, c, d, e, k, rfl⟩
  subst hus
  refine .eq (rmay_tree _ _ _ _ _ _ _) ?_
  unfold mayS
  simp only [nth_zero, nth_succ]
  by_cases hk0 : k.int < 0
  · exact dt hk0 (by simp [mayR, hk0])
  refine df hk0 ?_
  by_cases hk6 : k.int > 6
  · exact dt hk6 (by simp [mayR, show 6 < k.int from hk6])
  refine df hk6 ?_
  have hku : IntKind.wrap .u64 k.int = k.int := u64_in (by omega) (by omega)
  have hs := shl_one (c := k.int) (by omega) (by omega)
  have hp := pow_le (c := k.int) (by omega) (by omega)
  simp only [hku, hs]
  have hc : ¬ (k.int < 0 ∨ 6 < k.int) := by omega
  rw [mayR, if_neg hc]
  generalize (2 : Int) ^ k.int.toNat = p at hp hs ⊢
  clear hs hku
  have w1 : 1 ≤ c.int → c.int ≤ 64 → IntKind.wrap .i64 (65536 - c.int) = 65536 - c.int := fun _ _ => i64_in (by omega) (by omega)
  have w2 : 1 ≤ c.int → c.int < p → IntKind.wrap .i64 (c.int * 16) = c.int * 16 := fun _ _ => i64_in (by omega) (by omega)
  have w3 : 1 ≤ c.int → c.int < p → IntKind.wrap .i64 (IntKind.wrap .i64 (c.int - 1) * 16) = (c.int - 1) * 16 := fun _ _ => by rw [i64_in (x := c.int - 1) (by omega) (by omega), i64_in (by omega) (by omega)]
  have key : a.int = 0 ∨ a.int = 1 ∨ a.int = 2 ∨ a.int = 3 ∨ (a.int ≠ 0 ∧ a.int ≠ 1 ∧ a.int ≠ 2 ∧ a.int ≠ 3) := by omega
  have hd : ∀ {q : Prop} [Decidable q] {x y : Prop}, (bif decide q then x else y) = if q then x else y := fun {q} _ {x y} => by by_cases h : q <;> simp [h]
  have hb : ∀ {m n : Int} {x y : Prop}, (bif m == n then x else y) = if m = n then x else y := fun {m n x y} => by by_cases h : m = n <;> simp [h]
  simp only [hd, hb]
  rcases key with ha | ha | ha | ha | ⟨ha, ha1, ha2, ha3⟩
  · simp only [ha, ↓reduceIte, Int.reduceEq, or_false, or_true, true_or, or_self]
    (repeat' split) <;> (refine ubi ?_; simp <;> omega)
  · simp only [ha, ↓reduceIte, Int.reduceEq, or_false, or_true, true_or, or_self]
    (repeat' split) <;> (refine ubi ?_; simp <;> omega)
  · simp only [ha, ↓reduceIte, Int.reduceEq, or_false, or_true, true_or, or_self, if_neg hk0]
    by_cases h1 : c.int = p
    · simp only [if_pos h1, w1 (by omega) (by omega)]
      (repeat' split) <;> (refine ubi ?_; simp [placeR] <;> omega)
    · simp only [if_neg h1]
      (repeat' split) <;> (refine ubi ?_; simp [placeR] <;> omega)
  · simp only [ha, ↓reduceIte, Int.reduceEq, or_false, or_true, true_or, or_self, if_neg hk0]
    by_cases h1 : 1 ≤ c.int ∧ c.int < p
    · simp only [w1 h1.1 (by omega), w2 h1.1 h1.2, w3 h1.1 h1.2]
      (repeat' split) <;> (refine ubi ?_; simp [placeR] <;> omega)
    · by_cases g1 : c.int ≥ 1
      · simp only [if_pos g1, if_neg (fun g2 => h1 ⟨g1, g2⟩)]
        (repeat' split) <;> (refine ubi ?_; simp [placeR] <;> omega)
      · simp only [if_neg g1]
        (repeat' split) <;> (refine ubi ?_; simp [placeR] <;> omega)
  · simp only [if_neg ha, if_neg ha1, if_neg ha2, if_neg ha3]
    rw [if_neg (by omega)]
theorem spans_loop : LoopOk spansC 0 (loopBody Try.f47 0) := by
  refine loopOk_of (F := spansLoop) (ts := [8, 7, 6, 3]) (os := []) rfl (fun svs _ => match svs with | .val _ i :: .val _ m :: _ => (m.int - i.int).toNat | _ => 0) ?_
  intro pan svs l k ho1 ho2 h
  unfold spansLoop at h
  split at h
  · rename_i i m L last
    obtain ⟨⟨hm, h0, hi⟩, hk⟩ := h
    have hL : L.list.length ≤ maxLen := ho1.2.2.1.1
    refine .eq (spans_round pan _ _ k i m L last) ?_
    simp only [nth_tail]
    refine bd (fun hlt => dt ⟨h0, by omega⟩ ?_) (fun hlt => ?_)
    · rw [drop_at (by omega), spansR] at hk
      simp only [U.at, e0, e1] at hk
      have hw : IntKind.wrap .i64 (i.int + 1) = i.int + 1 := i64_in (by omega) (by unfold maxLen at hL; omega)
      have hn : (i.int + 1).toNat = i.int.toNat + 1 := by omega
      simp only [hw, hn]
      refine bi (fun h1 => ?_) (fun h1 => bd (fun h2 => ?_) (fun h2 => blt (by simp; omega) ⟨⟨hm, by omega, by omega⟩, ?_⟩))
      · rw [nt h1] at hk; exact hk
      · rw [nf h1, decide_eq_false (by omega)] at hk; exact hk
      · rw [nf h1, decide_eq_true (by omega)] at hk; exact hk
    · rw [List.drop_of_length_le (by omega)] at hk; exact hk
  · exact h.elim
theorem rspans_loop : LoopOk rspansC 0 (loopBody Try.f35 0) := by
  refine loopOk_of (F := rspansLoop) (ts := [3, 0]) (os := []) rfl (fun svs _ => match svs with | .val _ i :: .val _ L :: _ => (L.list.length - i.int).toNat | _ => 0) ?_
  intro pan svs l k ho1 ho2 h
  unfold rspansLoop at h
  split at h
  · rename_i i L
    obtain ⟨⟨h0, hi⟩, hk⟩ := h
    have hL : L.list.length ≤ maxLen := ho1.2.1.1
    refine .eq (rspans_round pan _ _ k i L) ?_
    simp only [nth_tail, nth_drop]
    refine bd (fun hlt => dt ⟨h0, hlt⟩ ?_) (fun hlt => ?_)
    · rw [show L.list.length - i.int.toNat = (L.list.length - (i.int.toNat + 1)) + 1 by omega, spansAt] at hk
      simp only [U.at, e0, e1] at hk
      have hw : IntKind.wrap .i64 (i.int + 1) = i.int + 1 := i64_in (by omega) (by unfold maxLen at hL; omega)
      have hn : (i.int + 1).toNat = i.int.toNat + 1 := by omega
      simp only [hw, hn]
      refine bi (fun h1 => ?_) (fun h1 => bd (fun h2 => ?_) (fun h2 => blt (by simp; omega) ⟨⟨by omega, by omega⟩, ?_⟩))
      · rw [nt h1] at hk; exact hk
      · have hw1 : IntKind.wrap .i64 (i.int - 1) = i.int - 1 := i64_in (by omega) (by unfold maxLen at hL; omega)
        have hn1 : (i.int - 1).toNat = i.int.toNat - 1 := by omega
        simp only [hw1, hn1, Nat.zero_add, Nat.add_zero]
        rw [nf h1, decide_eq_false (p := i.int.toNat = 0) (by omega), Bool.false_or] at hk
        refine dt ⟨h0, hlt⟩ (dt ⟨by omega, by omega⟩ (bd (fun h3 => ?_) (fun h3 => blt (by simp; omega) ⟨⟨by omega, by omega⟩, ?_⟩)))
        · rw [decide_eq_false (by omega)] at hk; exact hk
        · rw [decide_eq_true (by omega)] at hk; exact hk
      · rw [nf h1, decide_eq_true (p := i.int.toNat = 0) (by omega), Bool.true_or] at hk; exact hk
    · rw [show L.list.length - i.int.toNat = 0 by omega] at hk; exact hk
  · exact h.elim
theorem spans_ok : SpecF PR 47 spansS := fun fn us hfn => by
  have hf : PR.funcs[(47 : Nat)]? = some Try.f47 := by kernel_rfl
  rw [hf] at hfn; cases hfn
  refine fn_okH (C := spansC) (mkC_ok eqs0_ok mixed_ok (.cons spanMay_ok .nil) .nil) hf (by kernel_rfl) (loops_one (by kernel_rfl) spans_loop) fun hok => ?_
  have hp : Try.f47.params.toList = [42] := by kernel_rfl
  rw [hp] at hok
  obtain ⟨L, hus⟩ : ∃ L, us = [[L]] := by
    obtain ⟨u, rfl, h1⟩ := shape1 (by kernel_rfl : Cs PR 42 = some (false, [.sl true [.int .i64, .int .i64]])) hok.1
    obtain ⟨L, rfl⟩ := len1 h1
    exact ⟨L, rfl⟩
  subst hus
  refine .eq (spans_tree _ _) ?_
  unfold spansS
  simp only [nth_zero, nth_succ]
  refine ⟨⟨by trivial, by omega, by omega⟩, ?_⟩
  simp only [Int.toNat_zero, List.drop_zero]
  refine bi (fun h => ?_) (fun h => ?_) <;> rw [h]
theorem rspans_ok : SpecF PR 35 spansS := fun fn us hfn => by
  have hf : PR.funcs[(35 : Nat)]? = some Try.f35 := by kernel_rfl
  rw [hf] at hfn; cases hfn
  refine fn_okH (C := rspansC) (mkC_ok eqs0_ok mixed_ok (.cons rspanMay_ok .nil) .nil) hf (by kernel_rfl) (loops_one (by kernel_rfl) rspans_loop) fun hok => ?_
  have hp : Try.f35.params.toList = [42] := by kernel_rfl
  rw [hp] at hok
  obtain ⟨L, hus⟩ : ∃ L, us = [[L]] := by
    obtain ⟨u, rfl, h1⟩ := shape1 (by kernel_rfl : Cs PR 42 = some (false, [.sl true [.int .i64, .int .i64]])) hok.1
    obtain ⟨L, rfl⟩ := len1 h1
    exact ⟨L, rfl⟩
  subst hus
  refine .eq (rspans_tree _ _) ?_
  unfold spansS
  simp only [nth_zero, nth_succ]
  refine ⟨⟨by omega, by omega⟩, ?_⟩
  have := spansAt_eq L.list.length L.list 0 (by omega)
  simp only [if_true, List.drop_zero] at this
  simp only [Int.toNat_zero, Nat.sub_zero, this]
  refine bi (fun h => ?_) (fun h => ?_) <;> rw [h]
theorem letters_at {l : List UInt8} {i : Nat} (h : i < l.length) : lettersR (l.drop i) = (letterR ((l.getD i 0).toNat : Int) && lettersR (l.drop (i + 1))) := by
  rw [List.drop_eq_getElem_cons h, List.getD_eq_getElem?_getD, List.getElem?_eq_getElem h]
  rfl
theorem name_loop : LoopOk nameC 0 (loopBody Try.f45 0) := by
  refine loopOk_of (F := nameLoop) (ts := [14, 13, 0]) (os := []) rfl (fun svs _ => match svs with | .val _ i :: .val _ m :: _ => (m.int - i.int).toNat | _ => 0) ?_
  intro pan svs l k ho1 ho2 h
  unfold nameLoop at h
  split at h
  · rename_i i m s
    obtain ⟨⟨hm, h0, hi⟩, hk⟩ := h
    have hL : s.str.size ≤ maxLen := ho1.2.2.1
    have hsz : s.str.data.toList.length = s.str.size := str_len _
    refine .eq (name_round pan _ _ k i m s) ?_
    refine bd (fun hlt => dt ⟨h0, by omega⟩ ?_) (fun hlt => ?_)
    · rw [letters_at (by omega)] at hk
      have hw : IntKind.wrap .i64 (i.int + 1) = i.int + 1 := i64_in (by omega) (by unfold maxLen at hL; omega)
      have hn : (i.int + 1).toNat = i.int.toNat + 1 := by omega
      simp only [hw, hn]
      generalize hc : (((s.str.data.toList.getD i.int.toNat 0).toNat : Nat) : Int) = c at hk ⊢
      have hlt' : (m.int - (i.int + 1)).toNat < (m.int - i.int).toNat := by omega
      have good : letterR c = true → (bif lettersR (s.str.data.toList.drop (i.int.toNat + 1)) then k (.exit 0) ⟨[(2, .unk)], []⟩ else k .ret ⟨[(2, vb (.b false))], []⟩) := fun h => by rw [h, Bool.true_and] at hk; exact hk
      have bad : letterR c = false → k .ret ⟨[(2, vb (.b false))], []⟩ := fun h => by rw [h, Bool.false_and] at hk; exact hk
      clear hk
      repeat' (first | exact blt hlt' ⟨⟨by assumption, by omega, by omega⟩, good (by simp_all [letterR] <;> omega)⟩ | refine bd (fun _ => ?_) (fun _ => ?_) | refine bi (fun _ => ?_) (fun _ => ?_))
      all_goals exact bad (by simp_all [letterR] <;> omega)
    · rw [List.drop_of_length_le (by omega)] at hk; exact hk
  · exact h.elim
theorem rname_loop : LoopOk rnameC 0 (loopBody Try.f31 0) := by
  refine loopOk_of (F := rnameLoop) (ts := [3, 0]) (os := []) rfl (fun svs _ => match svs with | .val _ i :: .val _ s :: _ => (s.str.size - i.int).toNat | _ => 0) ?_
  intro pan svs l k ho1 ho2 h
  unfold rnameLoop at h
  split at h
  · rename_i i s
    obtain ⟨⟨h0, hi⟩, hk⟩ := h
    have hL : s.str.size ≤ maxLen := ho1.2.1
    have hsz : s.str.data.toList.length = s.str.size := str_len _
    refine .eq (rname_round pan _ _ k i s) ?_
    refine bd (fun hlt => dt ⟨h0, by omega⟩ ?_) (fun hlt => ?_)
    · rw [letters_at (by omega)] at hk
      have hw : IntKind.wrap .i64 (i.int + 1) = i.int + 1 := i64_in (by omega) (by unfold maxLen at hL; omega)
      have hn : (i.int + 1).toNat = i.int.toNat + 1 := by omega
      simp only [hw, hn]
      generalize hc : (((s.str.data.toList.getD i.int.toNat 0).toNat : Nat) : Int) = c at hk ⊢
      have hlt' : (s.str.size - (i.int + 1)).toNat < (s.str.size - i.int).toNat := by omega
      have good : letterR c = true → (bif lettersR (s.str.data.toList.drop (i.int.toNat + 1)) then k (.exit 0) ⟨[(2, .unk)], []⟩ else k .ret ⟨[(2, vb (.b false))], []⟩) := fun h => by rw [h, Bool.true_and] at hk; exact hk
      have bad : letterR c = false → k .ret ⟨[(2, vb (.b false))], []⟩ := fun h => by rw [h, Bool.false_and] at hk; exact hk
      clear hk
      repeat' (first | exact blt hlt' ⟨⟨by omega, by omega⟩, good (by simp_all [letterR] <;> omega)⟩ | refine bd (fun _ => ?_) (fun _ => ?_) | refine bi (fun _ => ?_) (fun _ => ?_))
      all_goals exact bad (by simp_all [letterR] <;> omega)
    · rw [List.drop_of_length_le (by omega)] at hk; exact hk
  · exact h.elim
theorem name_ok : SpecF PR 45 nameS := fun fn us hfn => by
  have hf : PR.funcs[(45 : Nat)]? = some Try.f45 := by kernel_rfl
  rw [hf] at hfn; cases hfn
  refine fn_okH (C := nameC) (mkC_ok eqs0_ok mixed_ok .nil .nil) hf (by kernel_rfl) (loops_one (by kernel_rfl) name_loop) fun hok => ?_
  have hp : Try.f45.params.toList = [9] := by kernel_rfl
  rw [hp] at hok
  obtain ⟨s, hus⟩ : ∃ s, us = [[s]] := by
    obtain ⟨u, rfl, h1⟩ := shape1 (by kernel_rfl : Cs PR 9 = some (false, [.str])) hok.1
    obtain ⟨s, rfl⟩ := len1 h1
    exact ⟨s, rfl⟩
  subst hus
  refine .eq (name_tree _ _) ?_
  unfold nameS
  simp only [nth_zero, nth_succ]
  have e1 : (ByteArray.toList s.str == ByteArray.toList { data := #[] }) = (s.str.data.toList == []) := by rw [ByteArray.toList_eq, ByteArray.toList_eq]
  have e2 : (s.str.size : Int) = s.str.data.toList.length := by rw [str_len]
  rw [e1]
  refine bi (fun h => ?_) (fun h => ?_)
  · rw [nameR, h]; rfl
  · refine bd (fun h2 => ?_) (fun h2 => ?_)
    · rw [nameR, h, decide_eq_false (by omega)]; rfl
    · refine ⟨⟨by trivial, by omega, by omega⟩, ?_⟩
      simp only [Int.toNat_zero, List.drop_zero]
      refine bi (fun h3 => ?_) (fun h3 => ?_) <;> (rw [nameR, h, decide_eq_true (by omega), h3]; rfl)
theorem rname_ok : SpecF PR 31 nameS := fun fn us hfn => by
  have hf : PR.funcs[(31 : Nat)]? = some Try.f31 := by kernel_rfl
  rw [hf] at hfn; cases hfn
  refine fn_okH (C := rnameC) (mkC_ok eqs0_ok mixed_ok .nil .nil) hf (by kernel_rfl) (loops_one (by kernel_rfl) rname_loop) fun hok => ?_
  have hp : Try.f31.params.toList = [9] := by kernel_rfl
  rw [hp] at hok
  obtain ⟨s, hus⟩ : ∃ s, us = [[s]] := by
    obtain ⟨u, rfl, h1⟩ := shape1 (by kernel_rfl : Cs PR 9 = some (false, [.str])) hok.1
    obtain ⟨s, rfl⟩ := len1 h1
    exact ⟨s, rfl⟩
  subst hus
  refine .eq (rname_tree _ _) ?_
  unfold nameS
  simp only [nth_zero, nth_succ]
  have e1 : (ByteArray.toList s.str == ByteArray.toList { data := #[] }) = (s.str.data.toList == []) := by rw [ByteArray.toList_eq, ByteArray.toList_eq]
  have e2 : (s.str.size : Int) = s.str.data.toList.length := by rw [str_len]
  rw [e1]
  refine bi (fun h => ?_) (fun h => ?_)
  · rw [nameR, h]; rfl
  · refine bd (fun h2 => ?_) (fun h2 => ?_)
    · rw [nameR, h, decide_eq_false (by omega)]; rfl
    · refine ⟨⟨by omega, by omega⟩, ?_⟩
      simp only [Int.toNat_zero, List.drop_zero]
      refine bi (fun h3 => ?_) (fun h3 => ?_) <;> (rw [nameR, h, decide_eq_true (by omega), h3]; rfl)
end Go.Mat

namespace Go.Mat
open Go Go.Den Go.Proofs
theorem someR_cons (x : U) (r : List U) : someR (x :: r) = (!noneR (e0 x).int (e1 x).int (e2 x).int (e3 x).int (e4 x).int || someR r) := rfl
theorem rsomeR_cons (x : U) (r : List U) : rsomeR (x :: r) = (decide ((e0 x).int ≠ 0) || rsomeR r) := rfl
theorem tab_loop2 : LoopOk tabC 2 (loopBody Try.f46 1) := by
  refine loopOk_of (F := tabLoop2) (ts := [50, 49, 48, 9, 7, 1, 2, 29, 28, 27, 3]) (os := [384]) rfl (fun svs _ => match svs with | .val _ i :: .val _ m :: _ => (m.int - i.int).toNat | _ => 0) ?_
  intro pan svs os k ho1 ho2 h
  unfold tabLoop2 at h
  split at h
  · rename_i kk m ec l s rest
    split at h
    · rename_i i n c p1 p2 ec1 p3 pp po ec2 L
      obtain ⟨⟨rfl, rfl, rfl, rfl, rfl, hs, hm, h0, hi⟩, hk⟩ := h
      have hL : l.list.length ≤ maxLen := ho1.2.2.1.1
      refine .eq (tab_round2 pan _ _ k kk m l s i n c p1 p2 p3 L) ?_
      simp only [nth_tail, Nat.zero_add, Nat.reduceAdd]
      refine bd (fun hlt => dt ⟨h0, by omega⟩ ?_) (fun hlt => ?_)
      · rw [drop_at (by omega), entsR, someR_cons] at hk
        simp only [entOk, U.at, e0, e1, e2, e3, e4] at hk
        have hw : IntKind.wrap .i64 (kk.int + 1) = kk.int + 1 := i64_in (by omega) (by unfold maxLen at hL; omega)
        have hn : (kk.int + 1).toNat = kk.int.toNat + 1 := by omega
        simp only [hw, hn]
        have hlt' : (m.int - (kk.int + 1)).toNat < (m.int - kk.int).toNat := by omega
        refine bi (fun h1 => ?_) (fun h1 => ?_)
        · rw [nt h1] at hk; exact hk
        · rw [nf h1] at hk
          refine bi (fun h2 => bd (fun h3 => ?_) (fun h3 => ?_)) (fun h2 => ?_)
          · rw [nt h2, decide_eq_false (by omega)] at hk; exact hk
          · rw [nt h2, decide_eq_true (by omega)] at hk
            refine bi (fun h4 => ?_) (fun h4 => ?_)
            · rw [h4] at hk
              exact blt hlt' ⟨⟨by trivial, by trivial, by trivial, by trivial, by trivial, by trivial, hm, by omega, by omega⟩, hk⟩
            · rw [h4] at hk
              refine blt hlt' ⟨⟨by trivial, by trivial, by trivial, by trivial, by trivial, by trivial, hm, by omega, by omega⟩, ?_⟩
              simpa [nt h2] using hk
          · rw [nf h2] at hk
            refine bi (fun h4 => ?_) (fun h4 => ?_)
            · rw [h4] at hk
              exact blt hlt' ⟨⟨by trivial, by trivial, by trivial, by trivial, by trivial, by trivial, hm, by omega, by omega⟩, hk⟩
            · rw [h4] at hk
              refine blt hlt' ⟨⟨by trivial, by trivial, by trivial, by trivial, by trivial, by trivial, hm, by omega, by omega⟩, ?_⟩
              simpa [nf h2] using hk
      · rw [List.drop_of_length_le (by omega)] at hk
        rw [hs]
        simpa [entsR, someR] using hk
    · exact h.elim
  · exact h.elim
theorem tab_loop0 : LoopOk tabC 0 (loopBody Try.f46 0) := by
  refine loopOk_of (F := tabLoop0) (ts := [29, 28, 27, 3, 1, 2]) (os := [384]) rfl (fun svs _ => match svs with | .val _ i :: .val _ m :: _ => (m.int - i.int).toNat | _ => 0) ?_
  intro pan svs os k ho1 ho2 h
  unfold tabLoop0 at h
  split at h
  · rename_i i m ec L pp po n c ec' L'
    obtain ⟨⟨rfl, rfl, rfl, rfl, rfl, hm, h0, hi⟩, hk⟩ := h
    have hL : L'.list.length ≤ maxLen := ho1.2.2.1.1
    refine .eq (tab_round0 pan _ _ k i m L' n c) ?_
    refine bd (fun hlt => dt ⟨h0, by omega⟩ ?_) (fun hlt => ?_)
    · rw [drop_at (by omega), leavesR] at hk
      simp only [U.at] at hk
      have hw : IntKind.wrap .i64 (i.int + 1) = i.int + 1 := i64_in (by omega) (by unfold maxLen at hL; omega)
      have hw1 : IntKind.wrap .i64 ((L'.list.length : Int) - 1) = (L'.list.length : Int) - 1 := i64_in (by omega) (by unfold maxLen at hL; omega)
      have hn : (i.int + 1).toNat = i.int.toNat + 1 := by omega
      have hlt' : (m.int - (i.int + 1)).toNat < (m.int - i.int).toNat := by omega
      have hdr : L'.list.drop (i.int.toNat + 1) = [] ↔ ¬ i.int < (L'.list.length : Int) - 1 := by rw [List.drop_eq_nil_iff]; omega
      simp only [hw, hw1, hn, Int.toNat_zero, List.drop_zero, Bool.false_or]
      generalize (nth (U.i 0) L'.list i.int.toNat).list = l at hk ⊢
      have full : (bif (leafR n.int c.int i.int l && leavesR n.int c.int (i.int + 1) (L'.list.drop (i.int.toNat + 1))) then k (.exit 0) ⟨[(6, .unk)], []⟩ else k .ret ⟨[(6, vb (.b false))], []⟩) →
          (bif (l.length : Int) != 8 then k .ret ⟨[(6, vb (.b false))], []⟩ else
            ((384 : Nat) = 384 ∧ (0 : Nat) = 0 ∧ EC = EC ∧ EC = EC ∧ EC = EC ∧ U.b false = U.b (U.b false).bool ∧ (l.length : Int) = (l.length : Int) ∧ (0 : Int) ≤ 0 ∧ (0 : Int) ≤ (l.length : Int)) ∧
            bif entsR n.int c.int i.int 0 l then
              bif !someR l then k .ret ⟨[(6, vb (.b false))], []⟩ else
                bif Nat.blt (m.int - (i.int + 1)).toNat (m.int - i.int).toNat then
                  ((384 : Nat) = 384 ∧ (0 : Nat) = 0 ∧ EC = EC ∧ EC = EC ∧ L' = L' ∧ m.int = (L'.list.length : Int) ∧ 0 ≤ i.int + 1 ∧ i.int + 1 ≤ m.int) ∧
                  bif leavesR n.int c.int (i.int + 1) (L'.list.drop (i.int.toNat + 1)) then k (.exit 0) ⟨[(6, .unk)], []⟩ else k .ret ⟨[(6, vb (.b false))], []⟩
                else False
            else k .ret ⟨[(6, vb (.b false))], []⟩) := by
        intro hk
        unfold leafR at hk
        refine bi (fun h2 => ?_) (fun h2 => ?_)
        · rw [decide_eq_false (by simp at h2; omega)] at hk; exact hk
        · rw [decide_eq_true (by simp at h2; omega)] at hk
          refine ⟨⟨rfl, rfl, rfl, rfl, rfl, rfl, rfl, by omega, by omega⟩, bi (fun h3 => bi (fun h4 => ?_) (fun h4 => blt hlt' ⟨⟨rfl, rfl, rfl, rfl, rfl, hm, by omega, by omega⟩, ?_⟩)) (fun h3 => ?_)⟩
          · rw [h3, nt h4] at hk; exact hk
          · rw [h3, nf h4] at hk; exact hk
          · rw [h3] at hk; exact hk
      refine bi (fun h1 => ?_) (fun h1 => ?_)
      · have hl0 : l = [] := by simpa using h1
        refine bd (fun h2 => blt hlt' ⟨⟨by trivial, by trivial, by trivial, by trivial, by trivial, hm, by omega, by omega⟩, ?_⟩) (fun h2 => ?_)
        · rw [if_pos ⟨hl0, fun h => (hdr.1 h) h2⟩] at hk; exact hk
        · rw [if_neg (fun h => h.2 (hdr.2 h2))] at hk
          simpa using full hk
      · have hl0 : l ≠ [] := by simpa using h1
        rw [if_neg (fun h => hl0 h.1)] at hk
        simpa using full hk
    · rw [List.drop_of_length_le (by omega)] at hk
      exact hk
  · exact h.elim
theorem tab_ok : SpecF PR 46 tableS := fun fn us hfn => by
  have hf : PR.funcs[(46 : Nat)]? = some Try.f46 := by kernel_rfl
  rw [hf] at hfn; cases hfn
  refine fn_okH (C := tabC) (mkC_ok eqs0_ok mixed_ok (.cons may_ok (.cons none_ok .nil)) .nil) hf (by kernel_rfl) (loops_two (by kernel_rfl) tab_loop0 tab_loop2) fun hok => ?_
  have hp : Try.f46.params.toList = [24, 3, 3] := by kernel_rfl
  rw [hp] at hok
  obtain ⟨L, n, c, hus⟩ : ∃ L n c, us = [[L], [n], [c]] := by
    obtain ⟨u, u2, u3, rfl, h1, h2, h3⟩ := shape3 (by kernel_rfl : Cs PR 24 = some (true, [.sl false [.sl true EC]])) (by kernel_rfl : Cs PR 3 = some (false, [.int .i64])) (by kernel_rfl : Cs PR 3 = some (false, [.int .i64])) hok.1
    obtain ⟨L, rfl⟩ := len1 h1
    obtain ⟨n, rfl⟩ := len1 h2
    obtain ⟨c, rfl⟩ := len1 h3
    exact ⟨L, n, c, rfl⟩
  subst hus
  refine .eq (tab_tree _ _ _ _) ?_
  unfold tableS
  simp only [nth_zero, nth_succ]
  refine bd (fun h => by rw [tableR, if_pos (.inl h)]) (fun h => bd (fun h2 => by rw [tableR, if_pos (.inr (.inl h2))]) (fun h2 => bd (fun h3 => by rw [tableR, if_pos (.inr (.inr (.inl h3)))]) (fun h3 => bd (fun h4 => by rw [tableR, if_pos (.inr (.inr (.inr h4)))]) (fun h4 => ?_))))
  rw [tableR, if_neg (by omega)]
  refine ⟨⟨by trivial, by trivial, by trivial, by trivial, by trivial, by trivial, by omega, by omega⟩, ?_⟩
  simp only [Int.toNat_zero, List.drop_zero]
  refine bi (fun h => ?_) (fun h => ?_) <;> rw [h]
theorem rtab_loop2 : LoopOk rtabC 2 (loopBody Try.f32 1) := by
  refine loopOk_of (F := rtabLoop2) (ts := [9, 8, 7, 1, 2, 3]) (os := [384]) rfl (fun svs _ => match svs with | .val _ i :: _ => (8 - i.int).toNat | _ => 0) ?_
  intro pan svs os k ho1 ho2 h
  unfold rtabLoop2 at h
  split at h
  · rename_i kk s rest
    split at h
    · rename_i i n c pp po ec L
      obtain ⟨⟨rfl, rfl, rfl, hs, h0, hi, hi0, hil, h8⟩, hk⟩ := h
      refine .eq (rtab_round2 pan _ _ k kk s i n c L) ?_
      simp only [nth_tail, Nat.zero_add, Nat.reduceAdd]
      generalize hl : (nth (U.i 0) L.list i.int.toNat).list = l at hk h8 ⊢
      refine bd (fun hlt => dt ⟨hi0, hil⟩ (dt ⟨h0, by omega⟩ ?_)) (fun hlt => ?_)
      · rw [drop_at (by omega), rentsR, rsomeR_cons] at hk
        simp only [rentOk, U.at, e0, e1, e2, e3, e4] at hk
        have hw : IntKind.wrap .i64 (kk.int + 1) = kk.int + 1 := i64_in (by omega) (by omega)
        have hn : (kk.int + 1).toNat = kk.int.toNat + 1 := by omega
        simp only [hw, hn]
        have hlt' : (8 - (kk.int + 1)).toNat < (8 - kk.int).toNat := by omega
        refine bi (fun h1 => ?_) (fun h1 => ?_)
        · rw [nt h1] at hk; exact hk
        · rw [nf h1] at hk
          have hd : ∀ {x : Int}, decide (x ≠ 0) = !decide (x = 0) := fun {x} => by simp
          rw [hd] at hk
          refine bi (fun h2 => bd (fun h3 => ?_) (fun h3 => ?_)) (fun h2 => ?_)
          · rw [decide_eq_false (by simpa using h2), decide_eq_false (by omega)] at hk; exact hk
          · rw [decide_eq_false (by simpa using h2), decide_eq_true (by omega)] at hk
            refine bi (fun h4 => ?_) (fun h4 => ?_)
            · rw [h4] at hk
              exact blt hlt' ⟨⟨by trivial, by trivial, by trivial, by trivial, by omega, by omega, hi0, hil, h8⟩, hk⟩
            · rw [h4] at hk
              refine blt hlt' ⟨⟨by trivial, by trivial, by trivial, by trivial, by omega, by omega, hi0, hil, h8⟩, ?_⟩
              simpa [h2] using hk
          · rw [decide_eq_true (by simpa using h2)] at hk
            refine bi (fun h4 => ?_) (fun h4 => ?_)
            · rw [h4] at hk
              exact blt hlt' ⟨⟨by trivial, by trivial, by trivial, by trivial, by omega, by omega, hi0, hil, h8⟩, hk⟩
            · rw [h4] at hk
              refine blt hlt' ⟨⟨by trivial, by trivial, by trivial, by trivial, by omega, by omega, hi0, hil, h8⟩, ?_⟩
              simpa [h2] using hk
      · rw [List.drop_of_length_le (by omega)] at hk
        rw [hs]
        simpa [rentsR, rsomeR] using hk
    · exact h.elim
  · exact h.elim
theorem rtab_loop0 : LoopOk rtabC 0 (loopBody Try.f32 0) := by
  refine loopOk_of (F := rtabLoop0) (ts := [7, 1, 2, 3]) (os := [384]) rfl (fun svs os => match svs, os with | .val _ i :: _, [.box [.val _ L]] => (L.list.length - i.int).toNat | _, _ => 0) ?_
  intro pan svs os k ho1 ho2 h
  unfold rtabLoop0 at h
  split at h
  · rename_i i n c pp po ec L
    obtain ⟨⟨rfl, rfl, rfl, h0, hi⟩, hk⟩ := h
    have hL : L.list.length ≤ maxLen := ho2.1.1.1
    refine .eq (rtab_round0 pan _ _ k i L n c) ?_
    refine bd (fun hlt => dt ⟨h0, by omega⟩ ?_) (fun hlt => ?_)
    · rw [drop_at (by omega), rleavesR] at hk
      simp only [U.at] at hk
      have hw : IntKind.wrap .i64 (i.int + 1) = i.int + 1 := i64_in (by omega) (by unfold maxLen at hL; omega)
      have hn : (i.int + 1).toNat = i.int.toNat + 1 := by omega
      have hlt' : (L.list.length - (i.int + 1)).toNat < (L.list.length - i.int).toNat := by omega
      simp only [hw, hn, Int.toNat_zero, List.drop_zero, Bool.false_or]
      generalize hl : (nth (U.i 0) L.list i.int.toNat).list = l at hk ⊢
      refine bi (fun h1 => blt hlt' ⟨⟨by trivial, by trivial, by trivial, by omega, by omega⟩, ?_⟩) (fun h1 => dt ⟨h0, by omega⟩ ?_)
      · have hl0 : l = [] := by simpa using h1
        rw [if_pos hl0] at hk; exact hk
      · have hl0 : l ≠ [] := by simpa using h1
        rw [if_neg hl0] at hk
        unfold rleafR at hk
        refine bi (fun h2 => ?_) (fun h2 => ?_)
        · rw [decide_eq_false (by simp at h2; omega)] at hk; exact hk
        · have h8 : l.length = 8 := by simp at h2; omega
          rw [decide_eq_true h8] at hk
          refine ⟨⟨by trivial, by trivial, by trivial, by trivial, by omega, by omega, h0, by omega, h8⟩, bi (fun h3 => bi (fun h4 => ?_) (fun h4 => blt hlt' ⟨⟨by trivial, by trivial, by trivial, by omega, by omega⟩, ?_⟩)) (fun h3 => ?_)⟩
          · rw [h3, nt h4] at hk; exact hk
          · rw [h3, nf h4] at hk; exact hk
          · rw [h3] at hk; exact hk
    · rw [List.drop_of_length_le (by omega)] at hk
      exact hk
  · exact h.elim
theorem rtab_ok : SpecF PR 32 rtableS := fun fn us hfn => by
  have hf : PR.funcs[(32 : Nat)]? = some Try.f32 := by kernel_rfl
  rw [hf] at hfn; cases hfn
  refine fn_okH (C := rtabC) (mkC_ok eqs0_ok mixed_ok (.cons rmay_ok .nil) .nil) hf (by kernel_rfl) (loops_two (by kernel_rfl) rtab_loop0 rtab_loop2) fun hok => ?_
  have hp : Try.f32.params.toList = [24, 3, 3] := by kernel_rfl
  rw [hp] at hok
  obtain ⟨L, n, c, hus⟩ : ∃ L n c, us = [[L], [n], [c]] := by
    obtain ⟨u, u2, u3, rfl, h1, h2, h3⟩ := shape3 (by kernel_rfl : Cs PR 24 = some (true, [.sl false [.sl true EC]])) (by kernel_rfl : Cs PR 3 = some (false, [.int .i64])) (by kernel_rfl : Cs PR 3 = some (false, [.int .i64])) hok.1
    obtain ⟨L, rfl⟩ := len1 h1
    obtain ⟨n, rfl⟩ := len1 h2
    obtain ⟨c, rfl⟩ := len1 h3
    exact ⟨L, n, c, rfl⟩
  subst hus
  refine .eq (rtab_tree _ _ _ _) ?_
  unfold rtableS
  simp only [nth_zero, nth_succ]
  have hu : unflats PR [24, 3, 3] [[L], [n], [c]] = some [.agg [vl (.sl true EC) L], vi n, vi c] := by kernel_rfl
  have hL : L.list.length ≤ maxLen := (hok.2 _ hu).1.1.1
  have hw1 : L.list.length > 0 → IntKind.wrap .i64 ((L.list.length : Int) - 1) = (L.list.length : Int) - 1 := fun h => i64_in (by omega) (by unfold maxLen at hL; omega)
  refine bd (fun h => by rw [rtableR, if_pos (.inl h)]) (fun h => bd (fun h2 => by rw [rtableR, if_pos (.inr (.inl h2))]) (fun h2 => bd (fun h3 => by rw [rtableR, if_pos (.inr (.inr (.inl h3)))]) (fun h3 => bd (fun h4 => by rw [rtableR, if_pos (.inr (.inr (.inr h4)))]) (fun h4 => ?_))))
  rw [rtableR, if_neg (by omega)]
  simp only [Int.toNat_zero, List.drop_zero]
  have tail : lastOk L.list = true → (bif decide ((L.list.length : Int) > 512) then [[U.b false]] = [[U.b (lastOk L.list && decide (L.list.length ≤ 512) && rleavesR n.int c.int 0 L.list)]] else
      (True ∧ True ∧ True ∧ (0 : Int) ≤ 0 ∧ (0 : Int) ≤ (L.list.length : Int)) ∧ bif rleavesR n.int c.int 0 L.list then [[U.b true]] = [[U.b (lastOk L.list && decide (L.list.length ≤ 512) && rleavesR n.int c.int 0 L.list)]] else [[U.b false]] = [[U.b (lastOk L.list && decide (L.list.length ≤ 512) && rleavesR n.int c.int 0 L.list)]]) := by
    intro hl
    refine bd (fun h5 => ?_) (fun h5 => ⟨⟨by trivial, by trivial, by trivial, by omega, by omega⟩, bi (fun h6 => ?_) (fun h6 => ?_)⟩)
    · rw [decide_eq_false (by omega), Bool.and_false, Bool.false_and]
    · rw [hl, h6, decide_eq_true (by omega)]; rfl
    · rw [h6, Bool.and_false]
  refine bd (fun h5 => ?_) (fun h5 => ?_)
  · rw [hw1 (by omega)]
    have hn : ((L.list.length : Int) - 1).toNat = L.list.length - 1 := by omega
    refine dt ⟨by omega, by omega⟩ (bi (fun h6 => ?_) (fun h6 => ?_))
    · have : lastOk L.list = false := by
        rw [hn] at h6
        unfold lastOk
        rw [decide_eq_false (fun h0 => by rw [h0] at h5; simp at h5)]
        simpa using h6
      rw [this, Bool.false_and, Bool.false_and]
    · refine tail ?_
      rw [hn] at h6
      unfold lastOk
      simp at h6
      simp [h6]
  · refine tail ?_
    have : L.list = [] := List.eq_nil_of_length_eq_zero (by omega)
    simp [lastOk, this]
end Go.Mat

namespace Go.Mat
open Go Go.Den Go.Proofs
def sizeS : List (List U) → List (List U) := fun us => [[.b (sizeR (nth (.i 0) (nth [] us 0) 0).int (nth (.i 0) (nth [] us 1) 0).int)]]
def sizeP : List (List U) → Prop := fun us => 0 ≤ (nth (.i 0) (nth [] us 1) 0).int ∧ (nth (.i 0) (nth [] us 1) 0).int ≤ 6
def unlikeR : List (U × U) → List U → Bool
  | _, [] => true
  | es, x :: r => !mhas .str x es && nameR x.str && unlikeR (mput .str x (.i 1) es) r
def unlikeS : List (List U) → List (List U) := fun us => [[.b (unlikeR [] (nth (.i 0) (nth [] us 0) 0).list)]]
noncomputable def unlikeLoop : LoopF := fun _ svs os k => match svs, os with
  | [.val (.int .i64) i, .val (.int .i64) n, .val (.sl false [.str]) L, .mp id], [.map t es] =>
    (id = 768 ∧ t = 111 ∧ n.int = (L.list.length : Int) ∧ 0 ≤ i.int ∧ i.int ≤ n.int ∧ (∀ e ∈ es, e.2 = .i 1)) ∧
    (bif unlikeR es (L.list.drop i.int.toNat) then k (.exit 0) ⟨[(2, .unk)], []⟩ else k .ret ⟨[(2, vb (.b false))], []⟩)
  | _, _ => False
noncomputable def unlikeC : Ctx := mkC PR eqs0 (fnsCons 45 nameS fnsNil) trsNil
  (loopCons 0 [9, 8, 7, 3] [768] unlikeLoop noLoops) (outCons 0 [2] [] noOut) noOut
theorem unlike_round (pan : KP) (μ : Mu) (N : Nat) (k : KE) (i n L : U) (es : List (U × U)) : (exec (unlikeC.panics pan) (loopBody Try.f48 0) 0 ⟨[(9, vi i), (8, vi n), (7, vl .str L), (3, .mp 768)], [(768, .map 111 es)]⟩ (again PR (some ([2], [])) none pan [9, 8, 7, 3] [768] unlikeLoop μ N k)) = (bif decide (i.int < n.int) then bif decide ((0 : Int) ≤ i.int ∧ i.int < (L.list.length : Int)) then bif decide (U.int (mval Ct.str (nth (U.i (0 : Int)) L.list (Int.toNat i.int)) (U.i (0 : Int)) (mput Ct.str (nth (U.i (0 : Int)) L.list (Int.toNat i.int)) (U.i (IntKind.wrap .i64 (U.int (mval Ct.str (nth (U.i (0 : Int)) L.list (Int.toNat i.int)) (U.i (0 : Int)) es) + (1 : Int)))) es)) > (1 : Int)) then k Ex.ret (St.mk [(nat_lit 2, .val .bool (U.b false))] []) else bif !nameR (U.str (nth (U.i (0 : Int)) L.list (Int.toNat i.int))) then k Ex.ret (St.mk [(nat_lit 2, .val .bool (U.b false))] []) else bif Nat.blt (μ [.val (.int IntKind.i64) (U.i (IntKind.wrap .i64 (i.int + (1 : Int)))), .val (.int IntKind.i64) n, .val (.sl false [.str]) L, .mp (nat_lit 768)] [Den.Obj.map (nat_lit 111) (List.brecOn.go es (mput._f Ct.str (U.at (elemU false (U.at L.list (Int.toNat i.int))) (0 : Nat)) (ofElem false [U.i (IntKind.wrap .i64 (U.int (mval Ct.str (U.at (elemU false (U.at L.list (Int.toNat i.int))) (0 : Nat)) (ofElem false [U.i (0 : Int)]) es) + U.int (U.i (1 : Int))))]))).1]) N then (nat_lit 768 = nat_lit 768 ∧ nat_lit 111 = nat_lit 111 ∧ n.int = (L.list.length : Int) ∧ (0 : Int) ≤ IntKind.wrap .i64 (i.int + (1 : Int)) ∧ IntKind.wrap .i64 (i.int + (1 : Int)) ≤ n.int ∧ ∀ (e : U × U), e ∈ mput Ct.str (nth (U.i (0 : Int)) L.list (Int.toNat i.int)) (U.i (IntKind.wrap .i64 (U.int (mval Ct.str (nth (U.i (0 : Int)) L.list (Int.toNat i.int)) (U.i (0 : Int)) es) + (1 : Int)))) es → Prod.snd e = U.i (1 : Int)) ∧ bif unlikeR (mput Ct.str (nth (U.i (0 : Int)) L.list (Int.toNat i.int)) (U.i (IntKind.wrap .i64 (U.int (mval Ct.str (nth (U.i (0 : Int)) L.list (Int.toNat i.int)) (U.i (0 : Int)) es) + (1 : Int)))) es) (List.drop (Int.toNat (IntKind.wrap .i64 (i.int + (1 : Int)))) L.list) then k (Ex.exit (nat_lit 0)) (St.mk [(nat_lit 2, .unk)] []) else k Ex.ret (St.mk [(nat_lit 2, .val .bool (U.b false))] []) else False else False else k (Ex.exit (nat_lit 0)) (St.mk [(nat_lit 2, .unk)] [])) := by kernel_rfl
theorem unlike_tree (R : RF) (L : U) : (run unlikeC Try.f48 [[L]] R) = ((nat_lit 768 = nat_lit 768 ∧ nat_lit 111 = nat_lit 111 ∧ (↑(List.length (U.list L)) : Int) = (↑(List.length (U.list L)) : Int) ∧ (0 : Int) ≤ (0 : Int) ∧ (0 : Int) ≤ (↑(List.length (U.list L)) : Int) ∧
  ∀ (e : U × U), e ∈ [] → Prod.snd e = U.i (1 : Int)) ∧ bif unlikeR [] (List.drop (Int.toNat (0 : Int)) (U.list L)) then R [[U.b true]] else R [[U.b false]]) := by kernel_rfl
end Go.Mat

namespace Go.Mat
open Go Go.Den Go.Proofs
theorem pows {c : Int} (h : 0 ≤ c) (h' : c ≤ 6) : (2 : Int) ^ c.toNat = 1 ∨ (2 : Int) ^ c.toNat = 2 ∨ (2 : Int) ^ c.toNat = 4 ∨ (2 : Int) ^ c.toNat = 8 ∨ (2 : Int) ^ c.toNat = 16 ∨ (2 : Int) ^ c.toNat = 32 ∨ (2 : Int) ^ c.toNat = 64 := by
  have : c = 0 ∨ c = 1 ∨ c = 2 ∨ c = 3 ∨ c = 4 ∨ c = 5 ∨ c = 6 := by omega
  rcases this with rfl | rfl | rfl | rfl | rfl | rfl | rfl <;> decide
theorem shl_min {c : Int} (h : 0 ≤ c) (h' : c ≤ 6) : (2 : Int) ^ min c.toNat (IntKind.bits .i64) = 2 ^ c.toNat := by
  have : min c.toNat (IntKind.bits .i64) = c.toNat := by simp only [IntKind.bits]; omega
  rw [this]
theorem size_ok : SpecFP PR 44 sizeP sizeS := fun fn us hfn hpre => by
  have hf : PR.funcs[(44 : Nat)]? = some Try.f44 := by kernel_rfl
  rw [hf] at hfn; cases hfn
  refine fn_okH (C := K0) (mkC_ok eqs0_ok mixed_ok .nil .nil) hf (by kernel_rfl) (loops_none (by kernel_rfl)) fun hok => ?_
  have hp : Try.f44.params.toList = [3, 3] := by kernel_rfl
  rw [hp] at hok
  obtain ⟨a, b, hus⟩ : ∃ a b, us = [[a], [b]] := by
    obtain ⟨u, u2, rfl, h1, h2⟩ := shape2 (by kernel_rfl : Cs PR 3 = some (false, [.int .i64])) (by kernel_rfl : Cs PR 3 = some (false, [.int .i64])) hok.1
    obtain ⟨a, rfl⟩ := len1 h1
    obtain ⟨b, rfl⟩ := len1 h2
    exact ⟨a, b, rfl⟩
  subst hus
  refine .eq (size_tree _ _ _) ?_
  unfold sizeS
  simp only [nth_zero, nth_succ]
  have hb : 0 ≤ b.int ∧ b.int ≤ 6 := hpre
  refine bd (fun h => bd (fun h2 => df (by omega) ?_) (fun h2 => ?_)) (fun h => ?_)
  · rw [shl_one hb.1 hb.2]
    unfold sizeR
    rw [decide_eq_true (show 0 ≤ a.int by omega), decide_eq_true h2]
    rcases pows hb.1 hb.2 with hp | hp | hp | hp | hp | hp | hp <;>
    · rw [hp]
      refine df (by omega) ?_
      rw [Int.tmod_eq_emod_of_nonneg h]
      refine ubi ?_; simp
  · refine ubi ?_; simp [sizeR]; omega
  · refine ubi ?_; simp [sizeR]; omega
theorem sized_ok : SpecFP PR 30 sizeP sizeS := fun fn us hfn hpre => by
  have hf : PR.funcs[(30 : Nat)]? = some Try.f30 := by kernel_rfl
  rw [hf] at hfn; cases hfn
  refine fn_okH (C := K0) (mkC_ok eqs0_ok mixed_ok .nil .nil) hf (by kernel_rfl) (loops_none (by kernel_rfl)) fun hok => ?_
  have hp : Try.f30.params.toList = [3, 3] := by kernel_rfl
  rw [hp] at hok
  obtain ⟨a, b, hus⟩ : ∃ a b, us = [[a], [b]] := by
    obtain ⟨u, u2, rfl, h1, h2⟩ := shape2 (by kernel_rfl : Cs PR 3 = some (false, [.int .i64])) (by kernel_rfl : Cs PR 3 = some (false, [.int .i64])) hok.1
    obtain ⟨a, rfl⟩ := len1 h1
    obtain ⟨b, rfl⟩ := len1 h2
    exact ⟨a, b, rfl⟩
  subst hus
  refine .eq (sized_tree _ _ _) ?_
  unfold sizeS
  simp only [nth_zero, nth_succ]
  have hb : 0 ≤ b.int ∧ b.int ≤ 6 := hpre
  refine bd (fun h => bd (fun h2 => ?_) (fun h2 => ?_)) (fun h => ?_)
  · rw [u64_in hb.1 (by omega)]
    refine df (by omega) (df (by omega) ?_)
    rw [shl_min hb.1 hb.2]
    unfold sizeR
    rw [decide_eq_true (show 0 ≤ a.int by omega), decide_eq_true h2]
    rcases pows hb.1 hb.2 with hp | hp | hp | hp | hp | hp | hp <;>
    · rw [hp, Int.fdiv_eq_ediv_of_nonneg _ (by omega), i64_in (by omega) (by omega)]
      refine ubi ?_
      simp <;> omega
  · refine ubi ?_; simp [sizeR]; omega
  · refine ubi ?_; simp [sizeR]; omega
theorem mval_ones {x : U} : ∀ {es : List (U × U)}, (∀ e ∈ es, e.2 = .i 1) → mval .str x (.i 0) es = .i (if mhas .str x es = true then 1 else 0)
  | [], _ => rfl
  | (a, y) :: r, h => by
    have hy : y = .i 1 := h (a, y) (by simp)
    subst hy
    unfold mval mhas
    cases hu : ueq .str x a with
    | true => simp
    | false => simpa using mval_ones fun e he => h e (by simp [he])
theorem ueq_self (x : U) : ueq .str x x = true := by simp [ueq]
theorem mval_mput (x v z : U) : ∀ es : List (U × U), mval .str x z (mput .str x v es) = v
  | [] => by simp [mput, mval, ueq_self]
  | (a, y) :: r => by
    unfold mput
    cases hu : ueq .str x a with
    | true => simp [mval, ueq_self]
    | false => simp [mval, hu, mval_mput x v z r]
theorem mput_ones {x : U} : ∀ {es : List (U × U)}, (∀ e ∈ es, e.2 = .i 1) → ∀ e ∈ mput .str x (.i 1) es, e.2 = .i 1
  | [], _ => by simp [mput]
  | (a, y) :: r, h => by
    have hr : ∀ e ∈ r, e.2 = U.i 1 := fun e he => h e (by simp [he])
    have hy : y = .i 1 := h (a, y) (by simp)
    unfold mput
    cases hu : ueq .str x a with
    | true => intro e he; simp at he; rcases he with rfl | he; rfl; exact hr e he
    | false => intro e he; simp at he; rcases he with rfl | he; exact hy; exact mput_ones hr e he
theorem unlike_loop : LoopOk unlikeC 0 (loopBody Try.f48 0) := by
  refine loopOk_of (F := unlikeLoop) (ts := [9, 8, 7, 3]) (os := [768]) rfl (fun svs _ => match svs with | .val _ i :: .val _ m :: _ => (m.int - i.int).toNat | _ => 0) ?_
  intro pan svs os k ho1 ho2 h
  unfold unlikeLoop at h
  split at h
  · rename_i i n L id t es
    obtain ⟨⟨rfl, rfl, hn, h0, hi, hes⟩, hk⟩ := h
    have hL : L.list.length ≤ maxLen := ho1.2.2.1.1
    refine .eq (unlike_round pan _ _ k i n L es) ?_
    refine bd (fun hlt => dt ⟨h0, by omega⟩ ?_) (fun hlt => ?_)
    · rw [drop_at (by omega), unlikeR] at hk
      have hw : IntKind.wrap .i64 (i.int + 1) = i.int + 1 := i64_in (by omega) (by unfold maxLen at hL; omega)
      have hc : (i.int + 1).toNat = i.int.toNat + 1 := by omega
      simp only [U.at] at hk
      simp only [hw, hc, mval_mput, mval_ones hes, U.int_i]
      have hlt' : (n.int - (i.int + 1)).toNat < (n.int - i.int).toNat := by omega
      generalize (nth (U.i 0) L.list i.int.toNat) = x at hk ⊢
      cases hm : mhas .str x es with
      | true => rw [hm] at hk; exact dt (by decide) hk
      | false =>
        rw [hm] at hk
        refine df (by decide) (bi (fun h1 => ?_) (fun h1 => ?_))
        · rw [nt h1] at hk; exact hk
        · rw [nf h1] at hk
          exact blt hlt' ⟨⟨by trivial, by trivial, hn, by omega, by omega, mput_ones hes⟩, hk⟩
    · rw [List.drop_of_length_le (by omega)] at hk
      exact hk
  · exact h.elim
theorem unlike_ok : SpecF PR 48 unlikeS := fun fn us hfn => by
  have hf : PR.funcs[(48 : Nat)]? = some Try.f48 := by kernel_rfl
  rw [hf] at hfn; cases hfn
  refine fn_okH (C := unlikeC) (mkC_ok eqs0_ok mixed_ok (.cons name_ok .nil) .nil) hf (by kernel_rfl) (loops_one (by kernel_rfl) unlike_loop) fun hok => ?_
  have hp : Try.f48.params.toList = [92] := by kernel_rfl
  rw [hp] at hok
  obtain ⟨L, hus⟩ : ∃ L, us = [[L]] := by
    obtain ⟨u, rfl, h1⟩ := shape1 (by kernel_rfl : Cs PR 92 = some (false, [.sl false [.str]])) hok.1
    obtain ⟨L, rfl⟩ := len1 h1
    exact ⟨L, rfl⟩
  subst hus
  refine .eq (unlike_tree _ _) ?_
  unfold unlikeS
  simp only [nth_zero, nth_succ]
  refine ⟨⟨by trivial, by trivial, by trivial, by omega, by omega, by simp⟩, ?_⟩
  simp only [Int.toNat_zero, List.drop_zero]
  refine bi (fun h => ?_) (fun h => ?_) <;> rw [h]
end Go.Mat

namespace Go.Mat
open Go Go.Den Go.Proofs
abbrev SC : List Ct := [.str, .int .i64, .sl false [.sl true EC]]
abbrev SpC : List Ct := [.int .i64, .int .i64]
abbrev BC : List Ct := [.str, .bool, .sl true SpC]
abbrev strT : TypeId := 9
def shotsR (c : Int) : List U → Bool
  | [] => true
  | s :: r => sizeR (e1 s).int c && tableR (e2 s).list ((e1 s).int / 2 ^ c.toNat) c && shotsR c r
def lastR (l : List U) : Bool := !decide (0 < l.length) || decide ((e1 (U.at l (l.length - 1))).int ≤ 4096)
def mapsR : List U → Bool
  | [] => true
  | b :: r => spansR (-1) (e2 b).list && lastR (e2 b).list && mapsR r
def countsR : List U → Bool
  | [] => true
  | n :: r => decide (0 ≤ n.int) && decide (n.int ≤ 65535) && countsR r
def backR (s : ByteArray) : Bool := s.data.toList == [] || nameR s
def metaR (c sz bk T S M Q : U) : Bool :=
  decide (0 ≤ c.int) && decide (c.int ≤ 6) && sizeR sz.int c.int && backR bk.str && tableR T.list (sz.int / 2 ^ c.int.toNat) c.int && decide (S.list.length ≤ 8) && decide (M.list.length ≤ 8) && decide (Q.list.length ≤ 65536) &&
  shotsR c.int S.list && mapsR M.list && countsR Q.list && unlikeR [] (S.list.map e0) && unlikeR [] (M.list.map e0)
def metaS : List (List U) → List (List U) := fun us => [[.b (metaR (nth (.i 0) (nth [] us 0) 0) (nth (.i 0) (nth [] us 0) 1) (nth (.i 0) (nth [] us 0) 2) (nth (.i 0) (nth [] us 0) 3) (nth (.i 0) (nth [] us 0) 4) (nth (.i 0) (nth [] us 0) 5) (nth (.i 0) (nth [] us 0) 6))]]
abbrev noRet : St := ⟨[(2, vb (.b false))], []⟩
noncomputable def metaLoop0 : LoopF := fun _ svs os k => match svs, os with
  | [.val (.int .i64) i, .val (.int .i64) n, .val (.sl true ec) L, .own o1, .own o2, .ptr pp po], [.arr t1 xs, .arr t2 ys, .box [.val (.int .i64) c, .val (.int .i64) sz, .val .str bk, .val (.sl false [.sl true x1]) T, .val (.sl true x2) S, .val (.sl true x3) M, .val (.sl false [.int .i64]) Q]] =>
    (x1 = EC ∧ x2 = SC ∧ x3 = BC ∧ ec = SC ∧ o1 = 508 ∧ o2 = 636 ∧ pp = 128 ∧ po = 0 ∧ t1 = strT ∧ t2 = strT ∧ n.int = (L.list.length : Int) ∧ n.int ≤ 8 ∧ 0 ≤ i.int ∧ i.int ≤ n.int ∧ 0 ≤ c.int ∧ c.int ≤ 6 ∧ (xs.length : Int) ≤ i.int) ∧
    (bif shotsR c.int (L.list.drop i.int.toNat) then k (.exit 0) ⟨[(3, .own 508), (4, .own 636), (1, .ptr 128 0)], [(508, .arr strT (xs ++ (L.list.drop i.int.toNat).map e0)), (636, .arr strT ys), (128, .box [vi c, vi sz, vs bk, vl (.sl true EC) T, vt SC S, vt BC M, vl (.int .i64) Q])]⟩ else k .ret noRet)
  | _, _ => False
noncomputable def metaLoop2 : LoopF := fun _ svs os k => match svs, os with
  | [.val (.int .i64) i, .val (.int .i64) n, .val (.sl true ec) L, .own o1, .own o2, .ptr pp po], [.arr t1 xs, .arr t2 ys, .box [.val (.int .i64) c, .val (.int .i64) sz, .val .str bk, .val (.sl false [.sl true x1]) T, .val (.sl true x2) S, .val (.sl true x3) M, .val (.sl false [.int .i64]) Q]] =>
    (x1 = EC ∧ x2 = SC ∧ x3 = BC ∧ ec = BC ∧ o1 = 508 ∧ o2 = 636 ∧ pp = 128 ∧ po = 0 ∧ t1 = strT ∧ t2 = strT ∧ n.int = (L.list.length : Int) ∧ n.int ≤ 8 ∧ 0 ≤ i.int ∧ i.int ≤ n.int ∧ (ys.length : Int) ≤ i.int) ∧
    (bif mapsR (L.list.drop i.int.toNat) then k (.exit 2) ⟨[(3, .own 508), (4, .own 636), (1, .ptr 128 0)], [(508, .arr strT xs), (636, .arr strT (ys ++ (L.list.drop i.int.toNat).map e0)), (128, .box [vi c, vi sz, vs bk, vl (.sl true EC) T, vt SC S, vt BC M, vl (.int .i64) Q])]⟩ else k .ret noRet)
  | _, _ => False
noncomputable def metaLoop4 : LoopF := fun _ svs os k => match svs, os with
  | [.val (.int .i64) i, .val (.int .i64) n, .val (.sl false [.int .i64]) L, .own o1, .own o2], [.arr t1 xs, .arr t2 ys] =>
    (o1 = 508 ∧ o2 = 636 ∧ t1 = strT ∧ t2 = strT ∧ n.int = (L.list.length : Int) ∧ 0 ≤ i.int ∧ i.int ≤ n.int) ∧
    (bif countsR (L.list.drop i.int.toNat) then k (.exit 4) ⟨[(3, .own 508), (4, .own 636)], [(508, .arr strT xs), (636, .arr strT ys)]⟩ else k .ret noRet)
  | _, _ => False
noncomputable def metaC : Ctx := mkC PR eqs0 (fnsConsP 44 sizeP sizeS (fnsCons 45 nameS (fnsCons 46 tableS (fnsCons 47 spansS (fnsCons 48 unlikeS fnsNil))))) trsNil
  (loopCons 4 [137, 136, 135, 3, 4] [508, 636] metaLoop4 (loopCons 2 [102, 101, 100, 3, 4, 1] [508, 636, 128] metaLoop2 (loopCons 0 [70, 69, 68, 3, 4, 1] [508, 636, 128] metaLoop0 noLoops)))
  (outCons 4 [3, 4] [508, 636] (outCons 2 [3, 4, 1] [508, 636, 128] (outCons 0 [3, 4, 1] [508, 636, 128] (outCons 1048580 [2] [] (outCons 1048578 [2] [] (outCons 1048576 [2] [] noOut)))))) noOut
theorem shots_round (pan : KP) (μ : Mu) (N : Nat) (k : KE) (i n L c sz bk T S M Q : U) (xs ys : List U) : (exec (metaC.panics pan) (loopBody Try.f21 0) 0 ⟨[(70, vi i), (69, vi n), (68, vt SC L), (3, .own 508), (4, .own 636), (1, .ptr 128 0)], [(508, .arr strT xs), (636, .arr strT ys), (128, .box [vi c, vi sz, vs bk, vl (.sl true EC) T, vt SC S, vt BC M, vl (.int .i64) Q])]⟩ (again PR (some ([3, 4, 1], [508, 636, 128])) (some ([2], [])) pan [70, 69, 68, 3, 4, 1] [508, 636, 128] metaLoop0 μ N k)) = (bif decide (i.int < n.int) then bif decide ((0 : Int) ≤ i.int ∧ i.int < (L.list.length : Int)) then bif decide (List.length xs + ((0 : Nat) + (1 : Nat)) ≤ room) && !oddB (508 : Nat) then sizeP [[nth (U.i (0 : Int)) (List.tail (U.list (nth (U.i (0 : Int)) L.list (Int.toNat i.int)))) (0 : Nat)], [c]] ∧ bif !sizeR (U.int (nth (U.i (0 : Int)) (List.tail (U.list (nth (U.i (0 : Int)) L.list (Int.toNat i.int)))) (0 : Nat))) c.int then k Ex.ret (St.mk [(nat_lit 2, .val .bool (U.b false))] []) else bif decide (c.int < (0 : Int)) then False else bif !tableR (U.list (nth (U.i (0 : Int)) (List.tail (List.tail (U.list (nth (U.i (0 : Int)) L.list (Int.toNat i.int))))) (0 : Nat))) (Int.fdiv (U.int (nth (U.i (0 : Int)) (List.tail (U.list (nth (U.i (0 : Int)) L.list (Int.toNat i.int)))) (0 : Nat))) ((2 : Int) ^ min (Int.toNat c.int) (IntKind.bits IntKind.i64))) c.int then k Ex.ret (St.mk [(nat_lit 2, .val .bool (U.b false))] []) else bif Nat.blt (μ [.val (.int IntKind.i64) (U.i (IntKind.wrap .i64 (i.int + (1 : Int)))), .val (.int IntKind.i64) n, .val (.sl true [Ct.str, Ct.int IntKind.i64, Ct.sl false [Ct.sl true [Ct.int IntKind.i64, Ct.int IntKind.i64, Ct.int IntKind.i64, Ct.int IntKind.i64, Ct.int IntKind.u32]]]) L, SV.own (nat_lit 508), SV.own (nat_lit 636), SV.ptr (nat_lit 128) (nat_lit 0)] [Obj.arr (nat_lit 9) (xs ++ [nth (U.i (0 : Int)) (U.list (nth (U.i (0 : Int)) L.list (Int.toNat i.int))) (0 : Nat)]), Obj.arr (nat_lit 9) ys, Obj.box [SV.val (Ct.int IntKind.i64) c, SV.val (Ct.int IntKind.i64) sz, SV.val Ct.str bk, SV.val (Ct.sl false [Ct.sl true [Ct.int IntKind.i64, Ct.int IntKind.i64, Ct.int IntKind.i64, Ct.int IntKind.i64, Ct.int IntKind.u32]]) T, SV.val (Ct.sl true [Ct.str, Ct.int IntKind.i64, Ct.sl false [Ct.sl true [Ct.int IntKind.i64, Ct.int IntKind.i64, Ct.int IntKind.i64, Ct.int IntKind.i64, Ct.int IntKind.u32]]]) S, SV.val (Ct.sl true [Ct.str, Ct.bool, Ct.sl true [Ct.int IntKind.i64, Ct.int IntKind.i64]]) M, SV.val (Ct.sl false [Ct.int IntKind.i64]) Q]]) N then ([Ct.int IntKind.i64, Ct.int IntKind.i64, Ct.int IntKind.i64, Ct.int IntKind.i64, Ct.int IntKind.u32] = [.int .i64, .int .i64, .int .i64, .int .i64, .int .u32] ∧ [Ct.str, Ct.int IntKind.i64, Ct.sl false [Ct.sl true [Ct.int IntKind.i64, Ct.int IntKind.i64, Ct.int IntKind.i64, Ct.int IntKind.i64, Ct.int IntKind.u32]]] = [.str, .int .i64, Ct.sl false [.sl true [.int .i64, .int .i64, .int .i64, .int .i64, .int .u32]]] ∧ [Ct.str, Ct.bool, Ct.sl true [Ct.int IntKind.i64, Ct.int IntKind.i64]] = [.str, Ct.bool, Ct.sl true [.int .i64, .int .i64]] ∧ [Ct.str, Ct.int IntKind.i64, Ct.sl false [Ct.sl true [Ct.int IntKind.i64, Ct.int IntKind.i64, Ct.int IntKind.i64, Ct.int IntKind.i64, Ct.int IntKind.u32]]] = [.str, .int .i64, Ct.sl false [.sl true [.int .i64, .int .i64, .int .i64, .int .i64, .int .u32]]] ∧ nat_lit 508 = nat_lit 508 ∧ nat_lit 636 = nat_lit 636 ∧ nat_lit 128 = nat_lit 128 ∧ nat_lit 0 = nat_lit 0 ∧ nat_lit 9 = nat_lit 9 ∧ nat_lit 9 = nat_lit 9 ∧ n.int = (L.list.length : Int) ∧ n.int ≤ (8 : Int) ∧ (0 : Int) ≤ IntKind.wrap .i64 (i.int + (1 : Int)) ∧ IntKind.wrap .i64 (i.int + (1 : Int)) ≤ n.int ∧ (0 : Int) ≤ c.int ∧ c.int ≤ (6 : Int) ∧ (↑(List.length (xs ++ [nth (U.i (0 : Int)) (U.list (nth (U.i (0 : Int)) L.list (Int.toNat i.int))) (0 : Nat)])) : Int) ≤ IntKind.wrap .i64 (i.int + (1 : Int))) ∧ bif shotsR c.int (List.drop (Int.toNat (IntKind.wrap .i64 (i.int + (1 : Int)))) L.list) then k (Ex.exit (nat_lit 0)) (St.mk [(nat_lit 3, .own (nat_lit 508)), (nat_lit 4, .own (nat_lit 636)), (nat_lit 1, .ptr (nat_lit 128) (nat_lit 0))] [(nat_lit 508, .arr (nat_lit 9) (xs ++ [nth (U.i (0 : Int)) (U.list (nth (U.i (0 : Int)) L.list (Int.toNat i.int))) (0 : Nat)] ++ List.map e0 (List.drop (Int.toNat (IntKind.wrap .i64 (i.int + (1 : Int)))) L.list))), (nat_lit 636, .arr (nat_lit 9) ys), (nat_lit 128, .box [.val (.int IntKind.i64) c, .val (.int IntKind.i64) sz, .val .str bk, .val (.sl false [.sl true [.int .i64, .int .i64, .int .i64, .int .i64, .int .u32]]) T, .val (.sl true [.str, .int .i64, Ct.sl false [.sl true [.int .i64, .int .i64, .int .i64, .int .i64, .int .u32]]]) S, .val (.sl true [.str, Ct.bool, Ct.sl true [.int .i64, .int .i64]]) M, .val (.sl false [.int .i64]) Q])]) else k Ex.ret (St.mk [(nat_lit 2, .val .bool (U.b false))] []) else False else False else False else k (Ex.exit (nat_lit 0)) (St.mk [(nat_lit 3, .own (nat_lit 508)), (nat_lit 4, .own (nat_lit 636)), (nat_lit 1, .ptr (nat_lit 128) (nat_lit 0))] [(nat_lit 508, .arr (nat_lit 9) xs), (nat_lit 636, .arr (nat_lit 9) ys), (nat_lit 128, .box [.val (.int IntKind.i64) c, .val (.int IntKind.i64) sz, .val .str bk, .val (.sl false [.sl true [.int .i64, .int .i64, .int .i64, .int .i64, .int .u32]]) T, .val (.sl true [.str, .int .i64, Ct.sl false [.sl true [.int .i64, .int .i64, .int .i64, .int .i64, .int .u32]]]) S, .val (.sl true [.str, Ct.bool, Ct.sl true [.int .i64, .int .i64]]) M, .val (.sl false [.int .i64]) Q])])) := by kernel_rfl
theorem maps_round (pan : KP) (μ : Mu) (N : Nat) (k : KE) (i n L c sz bk T S M Q : U) (xs ys : List U) : (exec (metaC.panics pan) (loopBody Try.f21 1) 2 ⟨[(102, vi i), (101, vi n), (100, vt BC L), (3, .own 508), (4, .own 636), (1, .ptr 128 0)], [(508, .arr strT xs), (636, .arr strT ys), (128, .box [vi c, vi sz, vs bk, vl (.sl true EC) T, vt SC S, vt BC M, vl (.int .i64) Q])]⟩ (again PR (some ([3, 4, 1], [508, 636, 128])) (some ([2], [])) pan [102, 101, 100, 3, 4, 1] [508, 636, 128] metaLoop2 μ N k)) = (bif decide (i.int < n.int) then bif decide ((0 : Int) ≤ i.int ∧ i.int < (L.list.length : Int)) then bif decide (List.length ys + ((0 : Nat) + (1 : Nat)) ≤ room) && !oddB (636 : Nat) then bif !spansR (-1 : Int) (U.list (nth (U.i (0 : Int)) (List.tail (List.tail (U.list (nth (U.i (0 : Int)) L.list (Int.toNat i.int))))) (0 : Nat))) then k Ex.ret (St.mk [(nat_lit 2, .val .bool (U.b false))] []) else bif decide ((↑(List.length (U.list (nth (U.i (0 : Int)) (List.tail (List.tail (U.list (nth (U.i (0 : Int)) L.list (Int.toNat i.int))))) (0 : Nat)))) : Int) > (0 : Int)) then bif decide ((0 : Int) ≤ IntKind.wrap .i64 ((↑(List.length (U.list (nth (U.i (0 : Int)) (List.tail (List.tail (U.list (nth (U.i (0 : Int)) L.list (Int.toNat i.int))))) (0 : Nat)))) : Int) - (1 : Int)) ∧ IntKind.wrap .i64 ((↑(List.length (U.list (nth (U.i (0 : Int)) (List.tail (List.tail (U.list (nth (U.i (0 : Int)) L.list (Int.toNat i.int))))) (0 : Nat)))) : Int) - (1 : Int)) < (↑(List.length (U.list (nth (U.i (0 : Int)) (List.tail (List.tail (U.list (nth (U.i (0 : Int)) L.list (Int.toNat i.int))))) (0 : Nat)))) : Int)) then bif decide (U.int (nth (U.i (0 : Int)) (List.drop (1 : Nat) (U.list (nth (U.i (0 : Int)) (U.list (nth (U.i (0 : Int)) (List.tail (List.tail (U.list (nth (U.i (0 : Int)) L.list (Int.toNat i.int))))) (0 : Nat))) (Int.toNat (IntKind.wrap .i64 ((↑(List.length (U.list (nth (U.i (0 : Int)) (List.tail (List.tail (U.list (nth (U.i (0 : Int)) L.list (Int.toNat i.int))))) (0 : Nat)))) : Int) - (1 : Int))))))) (0 : Nat)) > (4096 : Int)) then k Ex.ret (St.mk [(nat_lit 2, .val .bool (U.b false))] []) else bif Nat.blt (μ [.val (.int IntKind.i64) (U.i (IntKind.wrap .i64 (i.int + (1 : Int)))), .val (.int IntKind.i64) n, .val (.sl true [Ct.str, Ct.bool, Ct.sl true [Ct.int IntKind.i64, Ct.int IntKind.i64]]) L, SV.own (nat_lit 508), SV.own (nat_lit 636), SV.ptr (nat_lit 128) (nat_lit 0)] [Obj.arr (nat_lit 9) xs, Obj.arr (nat_lit 9) (ys ++ [nth (U.i (0 : Int)) (U.list (nth (U.i (0 : Int)) L.list (Int.toNat i.int))) (0 : Nat)]), Obj.box [SV.val (Ct.int IntKind.i64) c, SV.val (Ct.int IntKind.i64) sz, SV.val Ct.str bk, SV.val (Ct.sl false [Ct.sl true [Ct.int IntKind.i64, Ct.int IntKind.i64, Ct.int IntKind.i64, Ct.int IntKind.i64, Ct.int IntKind.u32]]) T, SV.val (Ct.sl true [Ct.str, Ct.int IntKind.i64, Ct.sl false [Ct.sl true [Ct.int IntKind.i64, Ct.int IntKind.i64, Ct.int IntKind.i64, Ct.int IntKind.i64, Ct.int IntKind.u32]]]) S, SV.val (Ct.sl true [Ct.str, Ct.bool, Ct.sl true [Ct.int IntKind.i64, Ct.int IntKind.i64]]) M, SV.val (Ct.sl false [Ct.int IntKind.i64]) Q]]) N then ([Ct.int IntKind.i64, Ct.int IntKind.i64, Ct.int IntKind.i64, Ct.int IntKind.i64, Ct.int IntKind.u32] = [.int .i64, .int .i64, .int .i64, .int .i64, .int .u32] ∧ [Ct.str, Ct.int IntKind.i64, Ct.sl false [Ct.sl true [Ct.int IntKind.i64, Ct.int IntKind.i64, Ct.int IntKind.i64, Ct.int IntKind.i64, Ct.int IntKind.u32]]] = [.str, .int .i64, Ct.sl false [.sl true [.int .i64, .int .i64, .int .i64, .int .i64, .int .u32]]] ∧ [Ct.str, Ct.bool, Ct.sl true [Ct.int IntKind.i64, Ct.int IntKind.i64]] = [.str, Ct.bool, Ct.sl true [.int .i64, .int .i64]] ∧ [Ct.str, Ct.bool, Ct.sl true [Ct.int IntKind.i64, Ct.int IntKind.i64]] = [.str, Ct.bool, Ct.sl true [.int .i64, .int .i64]] ∧ nat_lit 508 = nat_lit 508 ∧ nat_lit 636 = nat_lit 636 ∧ nat_lit 128 = nat_lit 128 ∧ nat_lit 0 = nat_lit 0 ∧ nat_lit 9 = nat_lit 9 ∧ nat_lit 9 = nat_lit 9 ∧ n.int = (L.list.length : Int) ∧ n.int ≤ (8 : Int) ∧ (0 : Int) ≤ IntKind.wrap .i64 (i.int + (1 : Int)) ∧ IntKind.wrap .i64 (i.int + (1 : Int)) ≤ n.int ∧ (↑(List.length (ys ++ [nth (U.i (0 : Int)) (U.list (nth (U.i (0 : Int)) L.list (Int.toNat i.int))) (0 : Nat)])) : Int) ≤ IntKind.wrap .i64 (i.int + (1 : Int))) ∧ bif mapsR (List.drop (Int.toNat (IntKind.wrap .i64 (i.int + (1 : Int)))) L.list) then k (Ex.exit (nat_lit 2)) (St.mk [(nat_lit 3, .own (nat_lit 508)), (nat_lit 4, .own (nat_lit 636)), (nat_lit 1, .ptr (nat_lit 128) (nat_lit 0))] [(nat_lit 508, .arr (nat_lit 9) xs), (nat_lit 636, .arr (nat_lit 9) (ys ++ [nth (U.i (0 : Int)) (U.list (nth (U.i (0 : Int)) L.list (Int.toNat i.int))) (0 : Nat)] ++ List.map e0 (List.drop (Int.toNat (IntKind.wrap .i64 (i.int + (1 : Int)))) L.list))), (nat_lit 128, .box [.val (.int IntKind.i64) c, .val (.int IntKind.i64) sz, .val .str bk, .val (.sl false [Ct.sl true [Ct.int IntKind.i64, Ct.int IntKind.i64, Ct.int IntKind.i64, Ct.int IntKind.i64, Ct.int IntKind.u32]]) T, SV.val (Ct.sl true [Ct.str, Ct.int IntKind.i64, Ct.sl false [Ct.sl true [Ct.int IntKind.i64, Ct.int IntKind.i64, Ct.int IntKind.i64, Ct.int IntKind.i64, Ct.int IntKind.u32]]]) S, SV.val (Ct.sl true [Ct.str, Ct.bool, Ct.sl true [Ct.int IntKind.i64, Ct.int IntKind.i64]]) M, SV.val (Ct.sl false [Ct.int IntKind.i64]) Q])]) else k Ex.ret (St.mk [(nat_lit 2, SV.val Ct.bool (U.b false))] []) else False else False else bif Nat.blt (μ [SV.val (Ct.int IntKind.i64) (U.i (IntKind.wrap .i64 (i.int + (1 : Int)))), SV.val (Ct.int IntKind.i64) n, SV.val (Ct.sl true [Ct.str, Ct.bool, Ct.sl true [Ct.int IntKind.i64, Ct.int IntKind.i64]]) L, SV.own (nat_lit 508), SV.own (nat_lit 636), SV.ptr (nat_lit 128) (nat_lit 0)] [Obj.arr (nat_lit 9) xs, Obj.arr (nat_lit 9) (ys ++ [nth (U.i (0 : Int)) (U.list (nth (U.i (0 : Int)) L.list (Int.toNat i.int))) (0 : Nat)]), Obj.box [SV.val (Ct.int IntKind.i64) c, SV.val (Ct.int IntKind.i64) sz, SV.val Ct.str bk, SV.val (Ct.sl false [Ct.sl true [Ct.int IntKind.i64, Ct.int IntKind.i64, Ct.int IntKind.i64, Ct.int IntKind.i64, Ct.int IntKind.u32]]) T, SV.val (Ct.sl true [Ct.str, Ct.int IntKind.i64, Ct.sl false [Ct.sl true [Ct.int IntKind.i64, Ct.int IntKind.i64, Ct.int IntKind.i64, Ct.int IntKind.i64, Ct.int IntKind.u32]]]) S, SV.val (Ct.sl true [Ct.str, Ct.bool, Ct.sl true [Ct.int IntKind.i64, Ct.int IntKind.i64]]) M, SV.val (Ct.sl false [Ct.int IntKind.i64]) Q]]) N then ([Ct.int IntKind.i64, Ct.int IntKind.i64, Ct.int IntKind.i64, Ct.int IntKind.i64, Ct.int IntKind.u32] = [.int .i64, .int .i64, .int .i64, .int .i64, .int .u32] ∧ [Ct.str, Ct.int IntKind.i64, Ct.sl false [Ct.sl true [Ct.int IntKind.i64, Ct.int IntKind.i64, Ct.int IntKind.i64, Ct.int IntKind.i64, Ct.int IntKind.u32]]] = [.str, .int .i64, Ct.sl false [.sl true [.int .i64, .int .i64, .int .i64, .int .i64, .int .u32]]] ∧ [Ct.str, Ct.bool, Ct.sl true [Ct.int IntKind.i64, Ct.int IntKind.i64]] = [.str, Ct.bool, Ct.sl true [.int .i64, .int .i64]] ∧ [Ct.str, Ct.bool, Ct.sl true [Ct.int IntKind.i64, Ct.int IntKind.i64]] = [.str, Ct.bool, Ct.sl true [.int .i64, .int .i64]] ∧ nat_lit 508 = nat_lit 508 ∧ nat_lit 636 = nat_lit 636 ∧ nat_lit 128 = nat_lit 128 ∧ nat_lit 0 = nat_lit 0 ∧ nat_lit 9 = nat_lit 9 ∧ nat_lit 9 = nat_lit 9 ∧ n.int = (L.list.length : Int) ∧ n.int ≤ (8 : Int) ∧ (0 : Int) ≤ IntKind.wrap .i64 (i.int + (1 : Int)) ∧ IntKind.wrap .i64 (i.int + (1 : Int)) ≤ n.int ∧ (↑(List.length (ys ++ [nth (U.i (0 : Int)) (U.list (nth (U.i (0 : Int)) L.list (Int.toNat i.int))) (0 : Nat)])) : Int) ≤ IntKind.wrap .i64 (i.int + (1 : Int))) ∧ bif mapsR (List.drop (Int.toNat (IntKind.wrap .i64 (i.int + (1 : Int)))) L.list) then k (Ex.exit (nat_lit 2)) (St.mk [(nat_lit 3, .own (nat_lit 508)), (nat_lit 4, .own (nat_lit 636)), (nat_lit 1, .ptr (nat_lit 128) (nat_lit 0))] [(nat_lit 508, .arr (nat_lit 9) xs), (nat_lit 636, .arr (nat_lit 9) (ys ++ [nth (U.i (0 : Int)) (U.list (nth (U.i (0 : Int)) L.list (Int.toNat i.int))) (0 : Nat)] ++ List.map e0 (List.drop (Int.toNat (IntKind.wrap .i64 (i.int + (1 : Int)))) L.list))), (nat_lit 128, .box [.val (.int IntKind.i64) c, .val (.int IntKind.i64) sz, .val .str bk, .val (.sl false [.sl true [.int .i64, .int .i64, .int .i64, .int .i64, .int .u32]]) T, .val (.sl true [.str, .int .i64, Ct.sl false [.sl true [.int .i64, .int .i64, .int .i64, .int .i64, .int .u32]]]) S, .val (.sl true [.str, Ct.bool, Ct.sl true [.int .i64, .int .i64]]) M, .val (.sl false [.int .i64]) Q])]) else k Ex.ret (St.mk [(nat_lit 2, .val .bool (U.b false))] []) else False else False else False else k (Ex.exit (nat_lit 2)) (St.mk [(nat_lit 3, .own (nat_lit 508)), (nat_lit 4, .own (nat_lit 636)), (nat_lit 1, .ptr (nat_lit 128) (nat_lit 0))] [(nat_lit 508, .arr (nat_lit 9) xs), (nat_lit 636, .arr (nat_lit 9) ys), (nat_lit 128, .box [.val (.int IntKind.i64) c, .val (.int IntKind.i64) sz, .val .str bk, .val (.sl false [.sl true [.int .i64, .int .i64, .int .i64, .int .i64, .int .u32]]) T, .val (.sl true [.str, .int .i64, Ct.sl false [.sl true [.int .i64, .int .i64, .int .i64, .int .i64, .int .u32]]]) S, .val (.sl true [.str, Ct.bool, Ct.sl true [.int .i64, .int .i64]]) M, .val (.sl false [.int .i64]) Q])])) := by kernel_rfl
theorem counts_round (pan : KP) (μ : Mu) (N : Nat) (k : KE) (i n L : U) (xs ys : List U) : (exec (metaC.panics pan) (loopBody Try.f21 2) 4 ⟨[(137, vi i), (136, vi n), (135, vl (.int .i64) L), (3, .own 508), (4, .own 636)], [(508, .arr strT xs), (636, .arr strT ys)]⟩ (again PR (some ([3, 4], [508, 636])) (some ([2], [])) pan [137, 136, 135, 3, 4] [508, 636] metaLoop4 μ N k)) = (bif decide (i.int < n.int) then bif decide ((0 : Int) ≤ i.int ∧ i.int < (L.list.length : Int)) then bif decide (U.int (nth (U.i (0 : Int)) L.list (Int.toNat i.int)) < (0 : Int)) then k Ex.ret (St.mk [(nat_lit 2, .val .bool (U.b false))] []) else bif decide (U.int (nth (U.i (0 : Int)) L.list (Int.toNat i.int)) > (65535 : Int)) then k Ex.ret (St.mk [(nat_lit 2, .val .bool (U.b false))] []) else bif Nat.blt (μ [.val (.int IntKind.i64) (U.i (IntKind.wrap .i64 (i.int + (1 : Int)))), .val (.int IntKind.i64) n, .val (.sl false [.int .i64]) L, .own (nat_lit 508), .own (nat_lit 636)] [.arr (nat_lit 9) xs, .arr (nat_lit 9) ys]) N then (nat_lit 508 = nat_lit 508 ∧ nat_lit 636 = nat_lit 636 ∧ nat_lit 9 = nat_lit 9 ∧ nat_lit 9 = nat_lit 9 ∧ n.int = (L.list.length : Int) ∧ (0 : Int) ≤ IntKind.wrap .i64 (i.int + (1 : Int)) ∧ IntKind.wrap .i64 (i.int + (1 : Int)) ≤ n.int) ∧ bif countsR (List.drop (Int.toNat (IntKind.wrap .i64 (i.int + (1 : Int)))) L.list) then k (Ex.exit (nat_lit 4)) (St.mk [(nat_lit 3, .own (nat_lit 508)), (nat_lit 4, .own (nat_lit 636))] [(nat_lit 508, .arr (nat_lit 9) xs), (nat_lit 636, .arr (nat_lit 9) ys)]) else k Ex.ret (St.mk [(nat_lit 2, .val .bool (U.b false))] []) else False else False else k (Ex.exit (nat_lit 4)) (St.mk [(nat_lit 3, .own (nat_lit 508)), (nat_lit 4, .own (nat_lit 636))] [(nat_lit 508, .arr (nat_lit 9) xs), (nat_lit 636, .arr (nat_lit 9) ys)])) := by kernel_rfl
theorem meta_tree (R : RF) (c sz bk T S M Q : U) : (run metaC Try.f21 [[c, sz, bk, T, S, M, Q]] R) = (bif decide (c.int < (0 : Int)) then R [[U.b false]] else bif decide (c.int > (6 : Int)) then R [[U.b false]] else sizeP [[sz], [c]] ∧ bif !sizeR sz.int c.int then R [[U.b false]] else bif !ByteArray.toList bk.str == ByteArray.toList (ByteArray.mk #[]) then bif !nameR bk.str then R [[U.b false]] else bif decide (c.int < (0 : Int)) then False else bif !tableR T.list (Int.fdiv sz.int ((2 : Int) ^ min (Int.toNat c.int) (IntKind.bits IntKind.i64))) c.int then R [[U.b false]] else bif decide ((S.list.length : Int) > (8 : Int)) then R [[U.b false]] else bif decide ((M.list.length : Int) > (8 : Int)) then R [[U.b false]] else bif decide ((Q.list.length : Int) > (65536 : Int)) then R [[U.b false]] else ([Ct.int IntKind.i64, Ct.int IntKind.i64, Ct.int IntKind.i64, Ct.int IntKind.i64, Ct.int IntKind.u32] = [.int .i64, .int .i64, .int .i64, .int .i64, .int .u32] ∧ [Ct.str, Ct.int IntKind.i64, Ct.sl false [Ct.sl true [Ct.int IntKind.i64, Ct.int IntKind.i64, Ct.int IntKind.i64, Ct.int IntKind.i64, Ct.int IntKind.u32]]] = [.str, .int .i64, Ct.sl false [.sl true [.int .i64, .int .i64, .int .i64, .int .i64, .int .u32]]] ∧ [Ct.str, Ct.bool, Ct.sl true [Ct.int IntKind.i64, Ct.int IntKind.i64]] = [.str, Ct.bool, Ct.sl true [.int .i64, .int .i64]] ∧ [Ct.str, Ct.int IntKind.i64, Ct.sl false [Ct.sl true [Ct.int IntKind.i64, Ct.int IntKind.i64, Ct.int IntKind.i64, Ct.int IntKind.i64, Ct.int IntKind.u32]]] = [.str, .int .i64, Ct.sl false [.sl true [.int .i64, .int .i64, .int .i64, .int .i64, .int .u32]]] ∧ nat_lit 508 = nat_lit 508 ∧ nat_lit 636 = nat_lit 636 ∧ nat_lit 128 = nat_lit 128 ∧ nat_lit 0 = nat_lit 0 ∧ nat_lit 9 = nat_lit 9 ∧ nat_lit 9 = nat_lit 9 ∧ (S.list.length : Int) = (S.list.length : Int) ∧ (S.list.length : Int) ≤ (8 : Int) ∧ (0 : Int) ≤ (0 : Int) ∧ (0 : Int) ≤ (S.list.length : Int) ∧ (0 : Int) ≤ c.int ∧ c.int ≤ (6 : Int) ∧ (↑(0 : Nat) : Int) ≤ (0 : Int)) ∧ bif shotsR c.int (List.drop (Int.toNat (0 : Int)) S.list) then ([Ct.int IntKind.i64, Ct.int IntKind.i64, Ct.int IntKind.i64, Ct.int IntKind.i64, Ct.int IntKind.u32] = [.int .i64, .int .i64, .int .i64, .int .i64, .int .u32] ∧ [Ct.str, Ct.int IntKind.i64, Ct.sl false [Ct.sl true [Ct.int IntKind.i64, Ct.int IntKind.i64, Ct.int IntKind.i64, Ct.int IntKind.i64, Ct.int IntKind.u32]]] = [.str, .int .i64, Ct.sl false [.sl true [.int .i64, .int .i64, .int .i64, .int .i64, .int .u32]]] ∧ [Ct.str, Ct.bool, Ct.sl true [Ct.int IntKind.i64, Ct.int IntKind.i64]] = [.str, Ct.bool, Ct.sl true [.int .i64, .int .i64]] ∧ [Ct.str, Ct.bool, Ct.sl true [Ct.int IntKind.i64, Ct.int IntKind.i64]] = [.str, Ct.bool, Ct.sl true [.int .i64, .int .i64]] ∧ nat_lit 508 = nat_lit 508 ∧ nat_lit 636 = nat_lit 636 ∧ nat_lit 128 = nat_lit 128 ∧ nat_lit 0 = nat_lit 0 ∧ nat_lit 9 = nat_lit 9 ∧ nat_lit 9 = nat_lit 9 ∧ (M.list.length : Int) = (M.list.length : Int) ∧ (M.list.length : Int) ≤ (8 : Int) ∧ (0 : Int) ≤ (0 : Int) ∧ (0 : Int) ≤ (M.list.length : Int) ∧ (↑(0 : Nat) : Int) ≤ (0 : Int)) ∧ bif mapsR (List.drop (Int.toNat (0 : Int)) M.list) then (nat_lit 508 = nat_lit 508 ∧ nat_lit 636 = nat_lit 636 ∧ nat_lit 9 = nat_lit 9 ∧ nat_lit 9 = nat_lit 9 ∧ (Q.list.length : Int) = (Q.list.length : Int) ∧ (0 : Int) ≤ (0 : Int) ∧ (0 : Int) ≤ (Q.list.length : Int)) ∧ bif countsR (List.drop (Int.toNat (0 : Int)) Q.list) then bif unlikeR [] ([] ++ List.map e0 (List.drop (Int.toNat (0 : Int)) S.list)) then R [[U.b (unlikeR [] ([] ++ List.map e0 (List.drop (Int.toNat (0 : Int)) M.list)))]] else R [[U.b false]] else R [[U.b false]] else R [[U.b false]] else R [[U.b false]] else bif decide (c.int < (0 : Int)) then False else bif !tableR T.list (Int.fdiv sz.int ((2 : Int) ^ min (Int.toNat c.int) (IntKind.bits IntKind.i64))) c.int then R [[U.b false]] else bif decide ((S.list.length : Int) > (8 : Int)) then R [[U.b false]] else bif decide ((M.list.length : Int) > (8 : Int)) then R [[U.b false]] else bif decide ((Q.list.length : Int) > (65536 : Int)) then R [[U.b false]] else ([Ct.int IntKind.i64, Ct.int IntKind.i64, Ct.int IntKind.i64, Ct.int IntKind.i64, Ct.int IntKind.u32] = [.int .i64, .int .i64, .int .i64, .int .i64, .int .u32] ∧ [Ct.str, Ct.int IntKind.i64, Ct.sl false [Ct.sl true [Ct.int IntKind.i64, Ct.int IntKind.i64, Ct.int IntKind.i64, Ct.int IntKind.i64, Ct.int IntKind.u32]]] = [.str, .int .i64, Ct.sl false [.sl true [.int .i64, .int .i64, .int .i64, .int .i64, .int .u32]]] ∧ [Ct.str, Ct.bool, Ct.sl true [Ct.int IntKind.i64, Ct.int IntKind.i64]] = [.str, Ct.bool, Ct.sl true [.int .i64, .int .i64]] ∧ [Ct.str, Ct.int IntKind.i64, Ct.sl false [Ct.sl true [Ct.int IntKind.i64, Ct.int IntKind.i64, Ct.int IntKind.i64, Ct.int IntKind.i64, Ct.int IntKind.u32]]] = [.str, .int .i64, Ct.sl false [.sl true [.int .i64, .int .i64, .int .i64, .int .i64, .int .u32]]] ∧ nat_lit 508 = nat_lit 508 ∧ nat_lit 636 = nat_lit 636 ∧ nat_lit 128 = nat_lit 128 ∧ nat_lit 0 = nat_lit 0 ∧ nat_lit 9 = nat_lit 9 ∧ nat_lit 9 = nat_lit 9 ∧ (S.list.length : Int) = (S.list.length : Int) ∧ (S.list.length : Int) ≤ (8 : Int) ∧ (0 : Int) ≤ (0 : Int) ∧ (0 : Int) ≤ (S.list.length : Int) ∧ (0 : Int) ≤ c.int ∧ c.int ≤ (6 : Int) ∧ (↑(0 : Nat) : Int) ≤ (0 : Int)) ∧ bif shotsR c.int (List.drop (Int.toNat (0 : Int)) S.list) then ([Ct.int IntKind.i64, Ct.int IntKind.i64, Ct.int IntKind.i64, Ct.int IntKind.i64, Ct.int IntKind.u32] = [.int .i64, .int .i64, .int .i64, .int .i64, .int .u32] ∧ [Ct.str, Ct.int IntKind.i64, Ct.sl false [Ct.sl true [Ct.int IntKind.i64, Ct.int IntKind.i64, Ct.int IntKind.i64, Ct.int IntKind.i64, Ct.int IntKind.u32]]] = [.str, .int .i64, Ct.sl false [.sl true [.int .i64, .int .i64, .int .i64, .int .i64, .int .u32]]] ∧ [Ct.str, Ct.bool, Ct.sl true [Ct.int IntKind.i64, Ct.int IntKind.i64]] = [.str, Ct.bool, Ct.sl true [.int .i64, .int .i64]] ∧ [Ct.str, Ct.bool, Ct.sl true [Ct.int IntKind.i64, Ct.int IntKind.i64]] = [.str, Ct.bool, Ct.sl true [.int .i64, .int .i64]] ∧ nat_lit 508 = nat_lit 508 ∧ nat_lit 636 = nat_lit 636 ∧ nat_lit 128 = nat_lit 128 ∧ nat_lit 0 = nat_lit 0 ∧ nat_lit 9 = nat_lit 9 ∧ nat_lit 9 = nat_lit 9 ∧ (M.list.length : Int) = (M.list.length : Int) ∧ (M.list.length : Int) ≤ (8 : Int) ∧ (0 : Int) ≤ (0 : Int) ∧ (0 : Int) ≤ (M.list.length : Int) ∧ (↑(0 : Nat) : Int) ≤ (0 : Int)) ∧ bif mapsR (List.drop (Int.toNat (0 : Int)) M.list) then (nat_lit 508 = nat_lit 508 ∧ nat_lit 636 = nat_lit 636 ∧ nat_lit 9 = nat_lit 9 ∧ nat_lit 9 = nat_lit 9 ∧ (Q.list.length : Int) = (Q.list.length : Int) ∧ (0 : Int) ≤ (0 : Int) ∧ (0 : Int) ≤ (Q.list.length : Int)) ∧ bif countsR (List.drop (Int.toNat (0 : Int)) Q.list) then bif unlikeR [] ([] ++ List.map e0 (List.drop (Int.toNat (0 : Int)) S.list)) then R [[U.b (unlikeR [] ([] ++ List.map e0 (List.drop (Int.toNat (0 : Int)) M.list)))]] else R [[U.b false]] else R [[U.b false]] else R [[U.b false]] else R [[U.b false]]) := by kernel_rfl
end Go.Mat

namespace Go.Mat
open Go Go.Den Go.Proofs
theorem shr_in {n c : Int} (h : 0 ≤ c) (h' : c ≤ 6) : Int.fdiv n (2 ^ min c.toNat (IntKind.bits .i64)) = n / 2 ^ c.toNat := by
  rw [shl_min h h', Int.fdiv_eq_ediv_of_nonneg _ (by have := (pow_le h h').1; omega)]
theorem map_snoc (xs : List U) (s : U) (r : List U) : xs ++ [nth (.i 0) s.list 0] ++ r.map e0 = xs ++ (s :: r).map e0 := by simp
theorem shots_loop : LoopOk metaC 0 (loopBody Try.f21 0) := by
  refine loopOk_of (F := metaLoop0) (ts := [70, 69, 68, 3, 4, 1]) (os := [508, 636, 128]) rfl (fun svs _ => match svs with | .val _ i :: .val _ m :: _ => (m.int - i.int).toNat | _ => 0) ?_
  intro pan svs os k ho1 ho2 h
  unfold metaLoop0 at h
  split at h
  · rename_i i n ec L o1 o2 pp po t1 xs t2 ys c sz bk x1 T x2 S x3 M Q
    obtain ⟨⟨rfl, rfl, rfl, rfl, rfl, rfl, rfl, rfl, rfl, rfl, hn, hn8, h0, hi, hc0, hc6, hx⟩, hk⟩ := h
    refine .eq (shots_round pan _ _ k i n L c sz bk T S M Q xs ys) ?_
    refine bd (fun hlt => dt ⟨h0, by omega⟩ ?_) (fun hlt => ?_)
    · rw [drop_at (by omega), shotsR, ← map_snoc] at hk
      simp only [U.at, e1, e2] at hk
      have hw : IntKind.wrap .i64 (i.int + 1) = i.int + 1 := i64_in (by omega) (by omega)
      have hc : (i.int + 1).toNat = i.int.toNat + 1 := by omega
      have hlt' : (n.int - (i.int + 1)).toNat < (n.int - i.int).toNat := by omega
      simp only [nth_tail, Nat.zero_add, Nat.reduceAdd, hw, hc, shr_in hc0 hc6]
      generalize nth (U.i 0) L.list i.int.toNat = s at hk ⊢
      refine broom (by simp [room]; omega) rfl ⟨⟨by simpa using hc0, by simpa using hc6⟩, bi (fun h1 => ?_) (fun h1 => df (by omega) (bi (fun h2 => ?_) (fun h2 => ?_)))⟩
      · rw [nt h1] at hk; exact hk
      · rw [nf h1, nt h2] at hk; exact hk
      · rw [nf h1, nf h2] at hk
        exact blt hlt' ⟨⟨by trivial, by trivial, by trivial, by trivial, by trivial, by trivial, by trivial, by trivial, by trivial, by trivial, hn, hn8, by omega, by omega, hc0, hc6, by simp; omega⟩, hk⟩
    · rw [List.drop_of_length_le (by omega)] at hk
      simpa [shotsR] using hk
  · exact h.elim
theorem maps_loop : LoopOk metaC 2 (loopBody Try.f21 1) := by
  refine loopOk_of (F := metaLoop2) (ts := [102, 101, 100, 3, 4, 1]) (os := [508, 636, 128]) rfl (fun svs _ => match svs with | .val _ i :: .val _ m :: _ => (m.int - i.int).toNat | _ => 0) ?_
  intro pan svs os k ho1 ho2 h
  unfold metaLoop2 at h
  split at h
  · rename_i i n ec L o1 o2 pp po t1 xs t2 ys c sz bk x1 T x2 S x3 M Q
    obtain ⟨⟨rfl, rfl, rfl, rfl, rfl, rfl, rfl, rfl, rfl, rfl, hn, hn8, h0, hi, hx⟩, hk⟩ := h
    have hlen : ∀ j, j < L.list.length → (nth (.i 0) (nth (.i 0) L.list j).list 2).list.length ≤ maxLen := fun j hj => by
      have h2 := (ho1.2.2.1.2 j hj).2.2.1.1
      simpa [U.at, elemU] using h2
    refine .eq (maps_round pan _ _ k i n L c sz bk T S M Q xs ys) ?_
    refine bd (fun hlt => dt ⟨h0, by omega⟩ ?_) (fun hlt => ?_)
    · have hl := hlen i.int.toNat (by omega)
      rw [drop_at (by omega), mapsR, ← map_snoc] at hk
      simp only [U.at, e1, e2] at hk
      have hw : IntKind.wrap .i64 (i.int + 1) = i.int + 1 := i64_in (by omega) (by omega)
      have hc : (i.int + 1).toNat = i.int.toNat + 1 := by omega
      have hlt' : (n.int - (i.int + 1)).toNat < (n.int - i.int).toNat := by omega
      simp only [nth_tail, nth_drop, Nat.zero_add, Nat.add_zero, Nat.reduceAdd, hw, hc]
      generalize nth (U.i 0) L.list i.int.toNat = s at hk hl ⊢
      generalize (nth (U.i 0) s.list 2).list = l at hk hl ⊢
      have hw1 : 0 < l.length → IntKind.wrap .i64 ((l.length : Int) - 1) = (l.length : Int) - 1 := fun h => i64_in (by omega) (by unfold maxLen at hl; omega)
      refine broom (by simp [room]; omega) rfl (bi (fun h1 => ?_) (fun h1 => bd (fun h2 => ?_) (fun h2 => ?_)))
      · rw [nt h1] at hk; exact hk
      · rw [hw1 (by omega)]
        have hj : ((l.length : Int) - 1).toNat = l.length - 1 := by omega
        refine dt (by omega) (bd (fun h3 => ?_) (fun h3 => ?_))
        · rw [hj] at h3
          rw [nf h1, lastR, decide_eq_true (show 0 < l.length by omega)] at hk
          simp only [U.at, e1] at hk
          rw [decide_eq_false (by omega)] at hk
          exact hk
        · rw [hj] at h3
          rw [nf h1, lastR, decide_eq_true (show 0 < l.length by omega)] at hk
          simp only [U.at, e1] at hk
          rw [decide_eq_true (by omega)] at hk
          exact blt hlt' ⟨⟨by trivial, by trivial, by trivial, by trivial, by trivial, by trivial, by trivial, by trivial, by trivial, by trivial, hn, hn8, by omega, by omega, by simp; omega⟩, hk⟩
      · rw [nf h1, lastR, decide_eq_false (show ¬ 0 < l.length by omega)] at hk
        exact blt hlt' ⟨⟨by trivial, by trivial, by trivial, by trivial, by trivial, by trivial, by trivial, by trivial, by trivial, by trivial, hn, hn8, by omega, by omega, by simp; omega⟩, hk⟩
    · rw [List.drop_of_length_le (by omega)] at hk
      simpa [mapsR] using hk
  · exact h.elim
theorem counts_loop : LoopOk metaC 4 (loopBody Try.f21 2) := by
  refine loopOk_of (F := metaLoop4) (ts := [137, 136, 135, 3, 4]) (os := [508, 636]) rfl (fun svs _ => match svs with | .val _ i :: .val _ m :: _ => (m.int - i.int).toNat | _ => 0) ?_
  intro pan svs os k ho1 ho2 h
  unfold metaLoop4 at h
  split at h
  · rename_i i n L o1 o2 t1 xs t2 ys
    obtain ⟨⟨rfl, rfl, rfl, rfl, hn, h0, hi⟩, hk⟩ := h
    have hL : L.list.length ≤ maxLen := ho1.2.2.1.1
    refine .eq (counts_round pan _ _ k i n L xs ys) ?_
    refine bd (fun hlt => dt ⟨h0, by omega⟩ ?_) (fun hlt => ?_)
    · rw [drop_at (by omega), countsR] at hk
      simp only [U.at] at hk
      have hw : IntKind.wrap .i64 (i.int + 1) = i.int + 1 := i64_in (by omega) (by unfold maxLen at hL; omega)
      have hc : (i.int + 1).toNat = i.int.toNat + 1 := by omega
      have hlt' : (n.int - (i.int + 1)).toNat < (n.int - i.int).toNat := by omega
      simp only [hw, hc]
      refine bd (fun h1 => ?_) (fun h1 => bd (fun h2 => ?_) (fun h2 => ?_))
      · rw [decide_eq_false (by omega)] at hk; exact hk
      · rw [decide_eq_true (show 0 ≤ (nth (U.i 0) L.list i.int.toNat).int by omega), decide_eq_false (by omega)] at hk; exact hk
      · rw [decide_eq_true (show 0 ≤ (nth (U.i 0) L.list i.int.toNat).int by omega), decide_eq_true (by omega)] at hk
        exact blt hlt' ⟨⟨by trivial, by trivial, by trivial, by trivial, hn, by omega, by omega⟩, hk⟩
    · rw [List.drop_of_length_le (by omega)] at hk
      exact hk
  · exact h.elim
theorem metaR_iff (c sz bk T S M Q : U) : metaR c sz bk T S M Q = true ↔ 0 ≤ c.int ∧ c.int ≤ 6 ∧ sizeR sz.int c.int = true ∧ backR bk.str = true ∧ tableR T.list (sz.int / 2 ^ c.int.toNat) c.int = true ∧ S.list.length ≤ 8 ∧ M.list.length ≤ 8 ∧ Q.list.length ≤ 65536 ∧
    shotsR c.int S.list = true ∧ mapsR M.list = true ∧ countsR Q.list = true ∧ unlikeR [] (S.list.map e0) = true ∧ unlikeR [] (M.list.map e0) = true := by
  simp only [metaR, Bool.and_eq_true, decide_eq_true_eq, and_assoc]
theorem meta_neg {c sz bk T S M Q : U} (h : (0 ≤ c.int ∧ c.int ≤ 6 ∧ sizeR sz.int c.int = true ∧ backR bk.str = true ∧ tableR T.list (sz.int / 2 ^ c.int.toNat) c.int = true ∧ S.list.length ≤ 8 ∧ M.list.length ≤ 8 ∧ Q.list.length ≤ 65536 ∧
    shotsR c.int S.list = true ∧ mapsR M.list = true ∧ countsR Q.list = true ∧ unlikeR [] (S.list.map e0) = true ∧ unlikeR [] (M.list.map e0) = true) → False) : ([[U.b false]] : List (List U)) = [[.b (metaR c sz bk T S M Q)]] := by
  rw [show metaR c sz bk T S M Q = false from Bool.eq_false_iff.2 fun h' => h ((metaR_iff ..).1 h')]
theorem fls {b : Bool} (h : (!b) = true) (h' : b = true) : False := by rw [h'] at h; cases h
theorem flf {b : Bool} (h : b = false) (h' : b = true) : False := by rw [h'] at h; cases h
theorem meta_ok : SpecF PR 21 metaS := fun fn us hfn => by
  have hf : PR.funcs[(21 : Nat)]? = some Try.f21 := by kernel_rfl
  rw [hf] at hfn; cases hfn
  refine fn_okH (C := metaC) (mkC_ok eqs0_ok mixed_ok (.consP size_ok (.cons name_ok (.cons tab_ok (.cons spans_ok (.cons unlike_ok .nil))))) .nil) hf (by kernel_rfl) (loops_three (by kernel_rfl) shots_loop maps_loop counts_loop) fun hok => ?_
  have hp : Try.f21.params.toList = [29] := by kernel_rfl
  rw [hp] at hok
  obtain ⟨c, sz, bk, T, S, M, Q, hus⟩ : ∃ c sz bk T S M Q, us = [[c, sz, bk, T, S, M, Q]] := by
    obtain ⟨u, rfl, h1⟩ := shape1 (by kernel_rfl : Cs PR 29 = some (true, [.int .i64, .int .i64, .str, .sl false [.sl true EC], .sl true SC, .sl true BC, .sl false [.int .i64]])) hok.1
    obtain ⟨c, sz, bk, T, S, M, Q, rfl⟩ := len7 h1
    exact ⟨c, sz, bk, T, S, M, Q, rfl⟩
  subst hus
  refine .eq (meta_tree _ _ _ _ _ _ _ _) ?_
  unfold metaS
  simp only [nth_zero, nth_succ]
  have eb : (ByteArray.toList bk.str == ByteArray.toList { data := #[] }) = (bk.str.data.toList == []) := by rw [ByteArray.toList_eq, ByteArray.toList_eq]
  rw [eb]
  refine bd (fun h => meta_neg fun h' => by omega) (fun hc0 => bd (fun h => meta_neg fun h' => by omega) (fun hc6 => ⟨⟨by simpa using hc0, by simpa using hc6⟩, bi (fun h => meta_neg fun h' => fls h h'.2.2.1) (fun hs => ?_)⟩))
  replace hc0 : 0 ≤ c.int := by omega
  replace hc6 : c.int ≤ 6 := by omega
  simp only [shr_in hc0 hc6, Int.toNat_zero, List.drop_zero, List.nil_append]
  refine bi (fun hb => bi (fun hb2 => meta_neg fun h' => ?_) (fun hb2 => ?_)) (fun hb => ?_)
  · have := h'.2.2.2.1
    rw [backR, nt hb, nt hb2] at this; cases this
  all_goals
    have hbk : backR bk.str = true := by
      rw [backR]
      first | rw [nf hb2, Bool.or_true] | rw [nf hb, Bool.true_or]
    refine df (by omega) (bi (fun h => meta_neg fun h' => fls h h'.2.2.2.2.1) (fun ht => ?_))
    refine bd (fun h => meta_neg fun h' => by omega) (fun h8 => bd (fun h => meta_neg fun h' => by omega) (fun h9 => bd (fun h => meta_neg fun h' => by omega) (fun h10 => ?_)))
    refine ⟨⟨by trivial, by trivial, by trivial, by trivial, by trivial, by trivial, by trivial, by trivial, by trivial, by trivial, by trivial, by omega, by omega, by omega, hc0, hc6, by simp⟩, bi (fun h11 => ?_) (fun h => meta_neg fun h' => flf h h'.2.2.2.2.2.2.2.2.1)⟩
    refine ⟨⟨by trivial, by trivial, by trivial, by trivial, by trivial, by trivial, by trivial, by trivial, by trivial, by trivial, by trivial, by omega, by omega, by omega, by simp⟩, bi (fun h12 => ?_) (fun h => meta_neg fun h' => flf h h'.2.2.2.2.2.2.2.2.2.1)⟩
    refine ⟨⟨by trivial, by trivial, by trivial, by trivial, by trivial, by omega, by omega⟩, bi (fun h13 => ?_) (fun h => meta_neg fun h' => flf h h'.2.2.2.2.2.2.2.2.2.2.1)⟩
    refine bi (fun h14 => ?_) (fun h => meta_neg fun h' => flf h h'.2.2.2.2.2.2.2.2.2.2.2.1)
    refine ubi ?_
    rw [metaR_iff]
    exact ⟨fun h => ⟨hc0, hc6, nf hs, hbk, nf ht, by omega, by omega, by omega, h11, h12, h13, h14, h⟩, fun h => h.2.2.2.2.2.2.2.2.2.2.2.2⟩
end Go.Mat

namespace Go.Mat
open Go Go.Den Go.Proofs
def hasR (x : U) : List U → Bool
  | [] => false
  | s :: r => ((e0 s).str.data.toList == x.str.data.toList) || hasR x r
def findR (x : U) : Int → List U → Int
  | _, [] => -1
  | i, s :: r => bif (e0 s).str.data.toList == x.str.data.toList then i else findR x (i + 1) r
def shotS : List (List U) → List (List U) := fun us => [[.i (findR (nth (.i 0) (nth [] us 1) 0) 0 (nth (.i 0) (nth [] us 0) 4).list)]]
def bitmapS : List (List U) → List (List U) := fun us => [[.i (findR (nth (.i 0) (nth [] us 1) 0) 0 (nth (.i 0) (nth [] us 0) 0).list)]]
noncomputable def shotLoop : LoopF := fun _ svs os k => match svs, os with
  | [.val (.int .i64) i, .ptr pp po, .val .str x], [.box [.val (.int .i64) c, .val (.int .i64) sz, .val .str bk, .val (.sl false [.sl true x1]) T, .val (.sl true x2) S, .val (.sl true x3) M, .val (.sl false [.int .i64]) Q]] =>
    (x1 = EC ∧ x2 = SC ∧ x3 = BC ∧ pp = 256 ∧ po = 0 ∧ i = .i i.int ∧ 0 ≤ i.int ∧ i.int ≤ (S.list.length : Int)) ∧
    (bif hasR x (S.list.drop i.int.toNat) then k .ret ⟨[(4, vi (.i (findR x i.int (S.list.drop i.int.toNat))))], []⟩ else k (.exit 0) ⟨[(4, .unk)], []⟩)
  | _, _ => False
noncomputable def shotC : Ctx := mkC PR eqs0 fnsNil trsNil (loopCons 0 [5, 2, 1] [256] shotLoop noLoops) (outCons 0 [4] [] noOut) noOut
noncomputable def bitmapLoop : LoopF := fun _ svs _ k => match svs with
  | [.val (.int .i64) i, .val (.sl true ec) L, .val .str x] =>
    (ec = BC ∧ i = .i i.int ∧ 0 ≤ i.int ∧ i.int ≤ (L.list.length : Int)) ∧
    (bif hasR x (L.list.drop i.int.toNat) then k .ret ⟨[(4, vi (.i (findR x i.int (L.list.drop i.int.toNat))))], []⟩ else k (.exit 0) ⟨[(4, .unk)], []⟩)
  | _ => False
noncomputable def bitmapC : Ctx := mkC PR eqs0 fnsNil trsNil (loopCons 0 [5, 0, 1] [] bitmapLoop noLoops) (outCons 0 [4] [] noOut) noOut
theorem shot_round (pan : KP) (μ : Mu) (N : Nat) (k : KE) (i x c sz bk T S M Q : U) : (exec (shotC.panics pan) (loopBody Try.f33 0) 0 ⟨[(5, vi i), (2, .ptr 256 0), (1, vs x)], [(256, .box [vi c, vi sz, vs bk, vl (.sl true EC) T, vt SC S, vt BC M, vl (.int .i64) Q])]⟩ (again PR (some ([4], [])) none pan [5, 2, 1] [256] shotLoop μ N k)) = (bif decide (i.int < (S.list.length : Int)) then bif decide ((0 : Int) ≤ i.int ∧ i.int < (S.list.length : Int)) then bif ByteArray.toList (U.str (nth (U.i (0 : Int)) (List.drop (0 : Nat) (U.list (nth (U.i (0 : Int)) S.list (Int.toNat i.int)))) (0 : Nat))) == ByteArray.toList x.str then k Ex.ret (St.mk [(nat_lit 4, .val (.int IntKind.i64) i)] []) else bif Nat.blt (μ [.val (.int IntKind.i64) (U.i (IntKind.wrap .i64 (i.int + (1 : Int)))), .ptr (nat_lit 256) (nat_lit 0), .val .str x] [.box [.val (.int IntKind.i64) c, .val (.int IntKind.i64) sz, .val .str bk, .val (.sl false [Ct.sl true [Ct.int IntKind.i64, Ct.int IntKind.i64, Ct.int IntKind.i64, Ct.int IntKind.i64, Ct.int IntKind.u32]]) T, SV.val (Ct.sl true [Ct.str, Ct.int IntKind.i64, Ct.sl false [Ct.sl true [Ct.int IntKind.i64, Ct.int IntKind.i64, Ct.int IntKind.i64, Ct.int IntKind.i64, Ct.int IntKind.u32]]]) S, SV.val (Ct.sl true [Ct.str, Ct.bool, Ct.sl true [Ct.int IntKind.i64, Ct.int IntKind.i64]]) M, SV.val (Ct.sl false [Ct.int IntKind.i64]) Q]]) N then ([Ct.int IntKind.i64, Ct.int IntKind.i64, Ct.int IntKind.i64, Ct.int IntKind.i64, Ct.int IntKind.u32] = [.int .i64, .int .i64, .int .i64, .int .i64, .int .u32] ∧ [Ct.str, Ct.int IntKind.i64, Ct.sl false [Ct.sl true [Ct.int IntKind.i64, Ct.int IntKind.i64, Ct.int IntKind.i64, Ct.int IntKind.i64, Ct.int IntKind.u32]]] = [.str, .int .i64, Ct.sl false [.sl true [.int .i64, .int .i64, .int .i64, .int .i64, .int .u32]]] ∧ [Ct.str, Ct.bool, Ct.sl true [Ct.int IntKind.i64, Ct.int IntKind.i64]] = [.str, Ct.bool, Ct.sl true [.int .i64, .int .i64]] ∧ nat_lit 256 = nat_lit 256 ∧ nat_lit 0 = nat_lit 0 ∧ U.i (IntKind.wrap .i64 (i.int + (1 : Int))) = U.i (IntKind.wrap .i64 (i.int + (1 : Int))) ∧ (0 : Int) ≤ IntKind.wrap .i64 (i.int + (1 : Int)) ∧ IntKind.wrap .i64 (i.int + (1 : Int)) ≤ (S.list.length : Int)) ∧ bif hasR x (List.drop (Int.toNat (IntKind.wrap .i64 (i.int + (1 : Int)))) S.list) then k Ex.ret (St.mk [(nat_lit 4, .val (.int IntKind.i64) (U.i (findR x (IntKind.wrap .i64 (i.int + (1 : Int))) (List.drop (Int.toNat (IntKind.wrap .i64 (i.int + (1 : Int)))) S.list))))] []) else k (Ex.exit (nat_lit 0)) (St.mk [(nat_lit 4, .unk)] []) else False else False else k (Ex.exit (nat_lit 0)) (St.mk [(nat_lit 4, .unk)] [])) := by kernel_rfl
theorem shot_tree (R : RF) (c sz bk T S M Q x : U) : (run shotC Try.f33 [[c, sz, bk, T, S, M, Q], [x]] R) = (([Ct.int IntKind.i64, Ct.int IntKind.i64, Ct.int IntKind.i64, Ct.int IntKind.i64, Ct.int IntKind.u32] = [Ct.int IntKind.i64, Ct.int IntKind.i64, Ct.int IntKind.i64, Ct.int IntKind.i64, Ct.int IntKind.u32]
  ∧ [Ct.str, Ct.int IntKind.i64, Ct.sl false [Ct.sl true [Ct.int IntKind.i64, Ct.int IntKind.i64, Ct.int IntKind.i64, Ct.int IntKind.i64, Ct.int IntKind.u32]]] = [Ct.str, Ct.int IntKind.i64, Ct.sl false
  [Ct.sl true [Ct.int IntKind.i64, Ct.int IntKind.i64, Ct.int IntKind.i64, Ct.int IntKind.i64, Ct.int IntKind.u32]]] ∧ [Ct.str, Ct.bool, Ct.sl true [Ct.int IntKind.i64, Ct.int IntKind.i64]] = [Ct.str, Ct.bool,
  Ct.sl true [Ct.int IntKind.i64, Ct.int IntKind.i64]] ∧ nat_lit 256 = nat_lit 256 ∧ nat_lit 0 = nat_lit 0 ∧ U.i (0 : Int) = U.i (0 : Int) ∧ (0 : Int) ≤ (0 : Int) ∧ (0 : Int) ≤ (↑(List.length (U.list S))
  : Int)) ∧ bif hasR x (List.drop (Int.toNat (0 : Int)) (U.list S)) then R [[U.i (findR x (0 : Int) (List.drop (Int.toNat (0 : Int)) (U.list S)))]] else R [[U.i (-1 : Int)]]) := by kernel_rfl
theorem bitmap_round (pan : KP) (μ : Mu) (N : Nat) (k : KE) (i x L : U) : (exec (bitmapC.panics pan) (loopBody Try.f34 0) 0 ⟨[(5, vi i), (0, vt BC L), (1, vs x)], []⟩ (again PR (some ([4], [])) none pan [5, 0, 1] [] bitmapLoop μ N k)) = (bif decide (i.int < (L.list.length : Int)) then bif decide ((0 : Int) ≤ i.int ∧ i.int < (L.list.length : Int)) then bif ByteArray.toList (U.str (nth (U.i (0 : Int)) (List.drop (0 : Nat) (U.list (nth (U.i (0 : Int)) L.list (Int.toNat i.int)))) (0 : Nat))) == ByteArray.toList x.str then k Ex.ret (St.mk [(nat_lit 4, .val (.int IntKind.i64) i)] []) else bif Nat.blt (μ [.val (.int IntKind.i64) (U.i (IntKind.wrap .i64 (i.int + (1 : Int)))), .val (.sl true [Ct.str, Ct.bool, Ct.sl true [Ct.int IntKind.i64, Ct.int IntKind.i64]]) L, SV.val Ct.str x] []) N then ([Ct.str, Ct.bool, Ct.sl true [Ct.int IntKind.i64, Ct.int IntKind.i64]] = [.str, Ct.bool, Ct.sl true [.int .i64, .int .i64]] ∧ U.i (IntKind.wrap .i64 (i.int + (1 : Int))) = U.i (IntKind.wrap .i64 (i.int + (1 : Int))) ∧ (0 : Int) ≤ IntKind.wrap .i64 (i.int + (1 : Int)) ∧ IntKind.wrap .i64 (i.int + (1 : Int)) ≤ (L.list.length : Int)) ∧ bif hasR x (List.drop (Int.toNat (IntKind.wrap .i64 (i.int + (1 : Int)))) L.list) then k Ex.ret (St.mk [(nat_lit 4, .val (.int IntKind.i64) (U.i (findR x (IntKind.wrap .i64 (i.int + (1 : Int))) (List.drop (Int.toNat (IntKind.wrap .i64 (i.int + (1 : Int)))) L.list))))] []) else k (Ex.exit (nat_lit 0)) (St.mk [(nat_lit 4, .unk)] []) else False else False else k (Ex.exit (nat_lit 0)) (St.mk [(nat_lit 4, .unk)] [])) := by kernel_rfl
theorem bitmap_tree (R : RF) (L x : U) : (run bitmapC Try.f34 [[L], [x]] R) = (([Ct.str, Ct.bool, Ct.sl true [Ct.int IntKind.i64, Ct.int IntKind.i64]] = [Ct.str, Ct.bool, Ct.sl true [Ct.int IntKind.i64, Ct.int IntKind.i64]] ∧ U.i (0 : Int) = U.i (0 : Int) ∧ (0 : Int) ≤ (0 : Int)
  ∧ (0 : Int) ≤ (↑(List.length (U.list L)) : Int)) ∧ bif hasR x (List.drop (Int.toNat (0 : Int)) (U.list L)) then R [[U.i (findR x (0 : Int) (List.drop (Int.toNat (0 : Int)) (U.list L)))]] else R [[U.i (-1
  : Int)]]) := by kernel_rfl
def rshotsR (c : Int) (S : List U) : Int → List U → Bool
  | _, [] => true
  | i, s :: r => nameR (e0 s).str && (findR (e0 s) 0 S == i) && sizeR (e1 s).int c && rtableR (e2 s).list ((e1 s).int / 2 ^ c.toNat) c && rshotsR c S (i + 1) r
def rmapsR (M : List U) : Int → List U → Bool
  | _, [] => true
  | i, b :: r => nameR (e0 b).str && (findR (e0 b) 0 M == i) && spansR (-1) (e2 b).list && lastR (e2 b).list && rmapsR M (i + 1) r
def rmetaR (c sz bk T S M Q : U) : Bool :=
  decide (0 ≤ c.int) && decide (c.int ≤ 6) && sizeR sz.int c.int && backR bk.str && decide (S.list.length ≤ 8) && decide (M.list.length ≤ 8) && decide (Q.list.length ≤ 65536) && rtableR T.list (sz.int / 2 ^ c.int.toNat) c.int &&
  rshotsR c.int S.list 0 S.list && rmapsR M.list 0 M.list && countsR Q.list
def rmetaS : List (List U) → List (List U) := fun us => [[.b (rmetaR (nth (.i 0) (nth [] us 0) 0) (nth (.i 0) (nth [] us 0) 1) (nth (.i 0) (nth [] us 0) 2) (nth (.i 0) (nth [] us 0) 3) (nth (.i 0) (nth [] us 0) 4) (nth (.i 0) (nth [] us 0) 5) (nth (.i 0) (nth [] us 0) 6))]]
noncomputable def rmetaLoop0 : LoopF := fun _ svs os k => match svs, os with
  | [.val (.int .i64) i, .ptr pp po], [.box [.val (.int .i64) c, .val (.int .i64) sz, .val .str bk, .val (.sl false [.sl true x1]) T, .val (.sl true x2) S, .val (.sl true x3) M, .val (.sl false [.int .i64]) Q]] =>
    (x1 = EC ∧ x2 = SC ∧ x3 = BC ∧ pp = 128 ∧ po = 0 ∧ S.list.length ≤ 8 ∧ 0 ≤ i.int ∧ i.int ≤ (S.list.length : Int) ∧ 0 ≤ c.int ∧ c.int ≤ 6) ∧
    (bif rshotsR c.int S.list i.int (S.list.drop i.int.toNat) then k (.exit 0) ⟨[(1, .ptr 128 0)], [(128, .box [vi c, vi sz, vs bk, vl (.sl true EC) T, vt SC S, vt BC M, vl (.int .i64) Q])]⟩ else k .ret noRet)
  | _, _ => False
noncomputable def rmetaLoop2 : LoopF := fun _ svs os k => match svs, os with
  | [.val (.int .i64) i, .ptr pp po], [.box [.val (.int .i64) c, .val (.int .i64) sz, .val .str bk, .val (.sl false [.sl true x1]) T, .val (.sl true x2) S, .val (.sl true x3) M, .val (.sl false [.int .i64]) Q]] =>
    (x1 = EC ∧ x2 = SC ∧ x3 = BC ∧ pp = 128 ∧ po = 0 ∧ M.list.length ≤ 8 ∧ 0 ≤ i.int ∧ i.int ≤ (M.list.length : Int)) ∧
    (bif rmapsR M.list i.int (M.list.drop i.int.toNat) then k (.exit 2) ⟨[(1, .ptr 128 0)], [(128, .box [vi c, vi sz, vs bk, vl (.sl true EC) T, vt SC S, vt BC M, vl (.int .i64) Q])]⟩ else k .ret noRet)
  | _, _ => False
noncomputable def rmetaLoop4 : LoopF := fun _ svs os k => match svs, os with
  | [.val (.int .i64) i, .ptr pp po], [.box [.val (.int .i64) c, .val (.int .i64) sz, .val .str bk, .val (.sl false [.sl true x1]) T, .val (.sl true x2) S, .val (.sl true x3) M, .val (.sl false [.int .i64]) Q]] =>
    (x1 = EC ∧ x2 = SC ∧ x3 = BC ∧ pp = 128 ∧ po = 0 ∧ Q.list.length ≤ 65536 ∧ 0 ≤ i.int ∧ i.int ≤ (Q.list.length : Int)) ∧
    (bif countsR (Q.list.drop i.int.toNat) then k (.exit 4) ⟨[(2, .unk)], []⟩ else k .ret noRet)
  | _, _ => False
noncomputable def rmetaC : Ctx := mkC PR eqs0 (fnsConsP 30 sizeP sizeS (fnsCons 31 nameS (fnsCons 32 rtableS (fnsCons 35 spansS (fnsCons 33 shotS (fnsCons 34 bitmapS fnsNil)))))) trsNil
  (loopCons 4 [7, 1] [128] rmetaLoop4 (loopCons 2 [5, 1] [128] rmetaLoop2 (loopCons 0 [3, 1] [128] rmetaLoop0 noLoops)))
  (outCons 4 [2] [] (outCons 2 [1] [128] (outCons 0 [1] [128] (outCons 1048578 [2] [] (outCons 1048576 [2] [] noOut))))) noOut
theorem rshots_round (pan : KP) (μ : Mu) (N : Nat) (k : KE) (i c sz bk T S M Q : U) : (exec (rmetaC.panics pan) (loopBody Try.f15 0) 0 ⟨[(3, vi i), (1, .ptr 128 0)], [(128, .box [vi c, vi sz, vs bk, vl (.sl true EC) T, vt SC S, vt BC M, vl (.int .i64) Q])]⟩ (again PR (some ([1], [128])) (some ([2], [])) pan [3, 1] [128] rmetaLoop0 μ N k)) = (bif decide (i.int < (S.list.length : Int)) then bif decide ((0 : Int) ≤ i.int ∧ i.int < (S.list.length : Int)) then bif !nameR (U.str (nth (U.i (0 : Int)) (U.list (nth (U.i (0 : Int)) S.list (Int.toNat i.int))) (0 : Nat))) then k Ex.ret (St.mk [(nat_lit 2, .val .bool (U.b false))] []) else bif findR (nth (U.i (0 : Int)) (U.list (nth (U.i (0 : Int)) S.list (Int.toNat i.int))) (0 : Nat)) (0 : Int) S.list != i.int then k Ex.ret (St.mk [(nat_lit 2, .val .bool (U.b false))] []) else sizeP [[nth (U.i (0 : Int)) (List.tail (U.list (nth (U.i (0 : Int)) S.list (Int.toNat i.int)))) (0 : Nat)], [c]] ∧ bif !sizeR (U.int (nth (U.i (0 : Int)) (List.tail (U.list (nth (U.i (0 : Int)) S.list (Int.toNat i.int)))) (0 : Nat))) c.int then k Ex.ret (St.mk [(nat_lit 2, .val .bool (U.b false))] []) else bif decide (IntKind.wrap .u64 c.int < (0 : Int)) then False else bif !rtableR (U.list (nth (U.i (0 : Int)) (List.tail (List.tail (U.list (nth (U.i (0 : Int)) S.list (Int.toNat i.int))))) (0 : Nat))) (Int.fdiv (U.int (nth (U.i (0 : Int)) (List.tail (U.list (nth (U.i (0 : Int)) S.list (Int.toNat i.int)))) (0 : Nat))) ((2 : Int) ^ min (Int.toNat (IntKind.wrap .u64 c.int)) (IntKind.bits IntKind.i64))) c.int then k Ex.ret (St.mk [(nat_lit 2, .val .bool (U.b false))] []) else bif Nat.blt (μ [.val (.int IntKind.i64) (U.i (IntKind.wrap .i64 (i.int + (1 : Int)))), .ptr (nat_lit 128) (nat_lit 0)] [.box [.val (.int IntKind.i64) c, .val (.int IntKind.i64) sz, .val .str bk, .val (.sl false [Ct.sl true [Ct.int IntKind.i64, Ct.int IntKind.i64, Ct.int IntKind.i64, Ct.int IntKind.i64, Ct.int IntKind.u32]]) T, SV.val (Ct.sl true [Ct.str, Ct.int IntKind.i64, Ct.sl false [Ct.sl true [Ct.int IntKind.i64, Ct.int IntKind.i64, Ct.int IntKind.i64, Ct.int IntKind.i64, Ct.int IntKind.u32]]]) S, SV.val (Ct.sl true [Ct.str, Ct.bool, Ct.sl true [Ct.int IntKind.i64, Ct.int IntKind.i64]]) M, SV.val (Ct.sl false [Ct.int IntKind.i64]) Q]]) N then ([Ct.int IntKind.i64, Ct.int IntKind.i64, Ct.int IntKind.i64, Ct.int IntKind.i64, Ct.int IntKind.u32] = [.int .i64, .int .i64, .int .i64, .int .i64, .int .u32] ∧ [Ct.str, Ct.int IntKind.i64, Ct.sl false [Ct.sl true [Ct.int IntKind.i64, Ct.int IntKind.i64, Ct.int IntKind.i64, Ct.int IntKind.i64, Ct.int IntKind.u32]]] = [.str, .int .i64, Ct.sl false [.sl true [.int .i64, .int .i64, .int .i64, .int .i64, .int .u32]]] ∧ [Ct.str, Ct.bool, Ct.sl true [Ct.int IntKind.i64, Ct.int IntKind.i64]] = [.str, Ct.bool, Ct.sl true [.int .i64, .int .i64]] ∧ nat_lit 128 = nat_lit 128 ∧ nat_lit 0 = nat_lit 0 ∧ S.list.length ≤ (8 : Nat) ∧ (0 : Int) ≤ IntKind.wrap .i64 (i.int + (1 : Int)) ∧ IntKind.wrap .i64 (i.int + (1 : Int)) ≤ (S.list.length : Int) ∧ (0 : Int) ≤ c.int ∧ c.int ≤ (6 : Int)) ∧ bif rshotsR c.int S.list (IntKind.wrap .i64 (i.int + (1 : Int))) (List.drop (Int.toNat (IntKind.wrap .i64 (i.int + (1 : Int)))) S.list) then k (Ex.exit (nat_lit 0)) (St.mk [(nat_lit 1, .ptr (nat_lit 128) (nat_lit 0))] [(nat_lit 128, .box [.val (.int IntKind.i64) c, .val (.int IntKind.i64) sz, .val .str bk, .val (.sl false [.sl true [.int .i64, .int .i64, .int .i64, .int .i64, .int .u32]]) T, .val (.sl true [.str, .int .i64, Ct.sl false [.sl true [.int .i64, .int .i64, .int .i64, .int .i64, .int .u32]]]) S, .val (.sl true [.str, Ct.bool, Ct.sl true [.int .i64, .int .i64]]) M, .val (.sl false [.int .i64]) Q])]) else k Ex.ret (St.mk [(nat_lit 2, .val .bool (U.b false))] []) else False else False else k (Ex.exit (nat_lit 0)) (St.mk [(nat_lit 1, .ptr (nat_lit 128) (nat_lit 0))] [(nat_lit 128, .box [.val (.int IntKind.i64) c, .val (.int IntKind.i64) sz, .val .str bk, .val (.sl false [.sl true [.int .i64, .int .i64, .int .i64, .int .i64, .int .u32]]) T, .val (.sl true [.str, .int .i64, Ct.sl false [.sl true [.int .i64, .int .i64, .int .i64, .int .i64, .int .u32]]]) S, .val (.sl true [.str, Ct.bool, Ct.sl true [.int .i64, .int .i64]]) M, .val (.sl false [.int .i64]) Q])])) := by kernel_rfl
theorem rmaps_round (pan : KP) (μ : Mu) (N : Nat) (k : KE) (i c sz bk T S M Q : U) : (exec (rmetaC.panics pan) (loopBody Try.f15 1) 2 ⟨[(5, vi i), (1, .ptr 128 0)], [(128, .box [vi c, vi sz, vs bk, vl (.sl true EC) T, vt SC S, vt BC M, vl (.int .i64) Q])]⟩ (again PR (some ([1], [128])) (some ([2], [])) pan [5, 1] [128] rmetaLoop2 μ N k)) = (bif decide (i.int < (M.list.length : Int)) then bif decide ((0 : Int) ≤ i.int ∧ i.int < (M.list.length : Int)) then bif !nameR (U.str (nth (U.i (0 : Int)) (U.list (nth (U.i (0 : Int)) M.list (Int.toNat i.int))) (0 : Nat))) then k Ex.ret (St.mk [(nat_lit 2, .val .bool (U.b false))] []) else bif findR (nth (U.i (0 : Int)) (U.list (nth (U.i (0 : Int)) M.list (Int.toNat i.int))) (0 : Nat)) (0 : Int) M.list != i.int then k Ex.ret (St.mk [(nat_lit 2, .val .bool (U.b false))] []) else bif !spansR (-1 : Int) (U.list (nth (U.i (0 : Int)) (List.tail (List.tail (U.list (nth (U.i (0 : Int)) M.list (Int.toNat i.int))))) (0 : Nat))) then k Ex.ret (St.mk [(nat_lit 2, .val .bool (U.b false))] []) else bif decide ((↑(List.length (U.list (nth (U.i (0 : Int)) (List.tail (List.tail (U.list (nth (U.i (0 : Int)) M.list (Int.toNat i.int))))) (0 : Nat)))) : Int) > (0 : Int)) then bif decide ((0 : Int) ≤ IntKind.wrap .i64 ((↑(List.length (U.list (nth (U.i (0 : Int)) (List.tail (List.tail (U.list (nth (U.i (0 : Int)) M.list (Int.toNat i.int))))) (0 : Nat)))) : Int) - (1 : Int)) ∧ IntKind.wrap .i64 ((↑(List.length (U.list (nth (U.i (0 : Int)) (List.tail (List.tail (U.list (nth (U.i (0 : Int)) M.list (Int.toNat i.int))))) (0 : Nat)))) : Int) - (1 : Int)) < (↑(List.length (U.list (nth (U.i (0 : Int)) (List.tail (List.tail (U.list (nth (U.i (0 : Int)) M.list (Int.toNat i.int))))) (0 : Nat)))) : Int)) then bif decide (U.int (nth (U.i (0 : Int)) (List.drop (1 : Nat) (U.list (nth (U.i (0 : Int)) (U.list (nth (U.i (0 : Int)) (List.tail (List.tail (U.list (nth (U.i (0 : Int)) M.list (Int.toNat i.int))))) (0 : Nat))) (Int.toNat (IntKind.wrap .i64 ((↑(List.length (U.list (nth (U.i (0 : Int)) (List.tail (List.tail (U.list (nth (U.i (0 : Int)) M.list (Int.toNat i.int))))) (0 : Nat)))) : Int) - (1 : Int))))))) (0 : Nat)) > (4096 : Int)) then k Ex.ret (St.mk [(nat_lit 2, .val .bool (U.b false))] []) else bif Nat.blt (μ [.val (.int IntKind.i64) (U.i (IntKind.wrap .i64 (i.int + (1 : Int)))), .ptr (nat_lit 128) (nat_lit 0)] [.box [.val (.int IntKind.i64) c, .val (.int IntKind.i64) sz, .val .str bk, .val (.sl false [Ct.sl true [Ct.int IntKind.i64, Ct.int IntKind.i64, Ct.int IntKind.i64, Ct.int IntKind.i64, Ct.int IntKind.u32]]) T, SV.val (Ct.sl true [Ct.str, Ct.int IntKind.i64, Ct.sl false [Ct.sl true [Ct.int IntKind.i64, Ct.int IntKind.i64, Ct.int IntKind.i64, Ct.int IntKind.i64, Ct.int IntKind.u32]]]) S, SV.val (Ct.sl true [Ct.str, Ct.bool, Ct.sl true [Ct.int IntKind.i64, Ct.int IntKind.i64]]) M, SV.val (Ct.sl false [Ct.int IntKind.i64]) Q]]) N then ([Ct.int IntKind.i64, Ct.int IntKind.i64, Ct.int IntKind.i64, Ct.int IntKind.i64, Ct.int IntKind.u32] = [.int .i64, .int .i64, .int .i64, .int .i64, .int .u32] ∧ [Ct.str, Ct.int IntKind.i64, Ct.sl false [Ct.sl true [Ct.int IntKind.i64, Ct.int IntKind.i64, Ct.int IntKind.i64, Ct.int IntKind.i64, Ct.int IntKind.u32]]] = [.str, .int .i64, Ct.sl false [.sl true [.int .i64, .int .i64, .int .i64, .int .i64, .int .u32]]] ∧ [Ct.str, Ct.bool, Ct.sl true [Ct.int IntKind.i64, Ct.int IntKind.i64]] = [.str, Ct.bool, Ct.sl true [.int .i64, .int .i64]] ∧ nat_lit 128 = nat_lit 128 ∧ nat_lit 0 = nat_lit 0 ∧ M.list.length ≤ (8 : Nat) ∧ (0 : Int) ≤ IntKind.wrap .i64 (i.int + (1 : Int)) ∧ IntKind.wrap .i64 (i.int + (1 : Int)) ≤ (M.list.length : Int)) ∧ bif rmapsR M.list (IntKind.wrap .i64 (i.int + (1 : Int))) (List.drop (Int.toNat (IntKind.wrap .i64 (i.int + (1 : Int)))) M.list) then k (Ex.exit (nat_lit 2)) (St.mk [(nat_lit 1, .ptr (nat_lit 128) (nat_lit 0))] [(nat_lit 128, .box [.val (.int IntKind.i64) c, .val (.int IntKind.i64) sz, .val .str bk, .val (.sl false [Ct.sl true [Ct.int IntKind.i64, Ct.int IntKind.i64, Ct.int IntKind.i64, Ct.int IntKind.i64, Ct.int IntKind.u32]]) T, SV.val (Ct.sl true [Ct.str, Ct.int IntKind.i64, Ct.sl false [Ct.sl true [Ct.int IntKind.i64, Ct.int IntKind.i64, Ct.int IntKind.i64, Ct.int IntKind.i64, Ct.int IntKind.u32]]]) S, SV.val (Ct.sl true [Ct.str, Ct.bool, Ct.sl true [Ct.int IntKind.i64, Ct.int IntKind.i64]]) M, SV.val (Ct.sl false [Ct.int IntKind.i64]) Q])]) else k Ex.ret (St.mk [(nat_lit 2, SV.val Ct.bool (U.b false))] []) else False else False else bif Nat.blt (μ [SV.val (Ct.int IntKind.i64) (U.i (IntKind.wrap .i64 (i.int + (1 : Int)))), SV.ptr (nat_lit 128) (nat_lit 0)] [Obj.box [SV.val (Ct.int IntKind.i64) c, SV.val (Ct.int IntKind.i64) sz, SV.val Ct.str bk, SV.val (Ct.sl false [Ct.sl true [Ct.int IntKind.i64, Ct.int IntKind.i64, Ct.int IntKind.i64, Ct.int IntKind.i64, Ct.int IntKind.u32]]) T, SV.val (Ct.sl true [Ct.str, Ct.int IntKind.i64, Ct.sl false [Ct.sl true [Ct.int IntKind.i64, Ct.int IntKind.i64, Ct.int IntKind.i64, Ct.int IntKind.i64, Ct.int IntKind.u32]]]) S, SV.val (Ct.sl true [Ct.str, Ct.bool, Ct.sl true [Ct.int IntKind.i64, Ct.int IntKind.i64]]) M, SV.val (Ct.sl false [Ct.int IntKind.i64]) Q]]) N then ([Ct.int IntKind.i64, Ct.int IntKind.i64, Ct.int IntKind.i64, Ct.int IntKind.i64, Ct.int IntKind.u32] = [.int .i64, .int .i64, .int .i64, .int .i64, .int .u32] ∧ [Ct.str, Ct.int IntKind.i64, Ct.sl false [Ct.sl true [Ct.int IntKind.i64, Ct.int IntKind.i64, Ct.int IntKind.i64, Ct.int IntKind.i64, Ct.int IntKind.u32]]] = [.str, .int .i64, Ct.sl false [.sl true [.int .i64, .int .i64, .int .i64, .int .i64, .int .u32]]] ∧ [Ct.str, Ct.bool, Ct.sl true [Ct.int IntKind.i64, Ct.int IntKind.i64]] = [.str, Ct.bool, Ct.sl true [.int .i64, .int .i64]] ∧ nat_lit 128 = nat_lit 128 ∧ nat_lit 0 = nat_lit 0 ∧ M.list.length ≤ (8 : Nat) ∧ (0 : Int) ≤ IntKind.wrap .i64 (i.int + (1 : Int)) ∧ IntKind.wrap .i64 (i.int + (1 : Int)) ≤ (M.list.length : Int)) ∧ bif rmapsR M.list (IntKind.wrap .i64 (i.int + (1 : Int))) (List.drop (Int.toNat (IntKind.wrap .i64 (i.int + (1 : Int)))) M.list) then k (Ex.exit (nat_lit 2)) (St.mk [(nat_lit 1, .ptr (nat_lit 128) (nat_lit 0))] [(nat_lit 128, .box [.val (.int IntKind.i64) c, .val (.int IntKind.i64) sz, .val .str bk, .val (.sl false [.sl true [.int .i64, .int .i64, .int .i64, .int .i64, .int .u32]]) T, .val (.sl true [.str, .int .i64, Ct.sl false [.sl true [.int .i64, .int .i64, .int .i64, .int .i64, .int .u32]]]) S, .val (.sl true [.str, Ct.bool, Ct.sl true [.int .i64, .int .i64]]) M, .val (.sl false [.int .i64]) Q])]) else k Ex.ret (St.mk [(nat_lit 2, .val .bool (U.b false))] []) else False else False else k (Ex.exit (nat_lit 2)) (St.mk [(nat_lit 1, .ptr (nat_lit 128) (nat_lit 0))] [(nat_lit 128, .box [.val (.int IntKind.i64) c, .val (.int IntKind.i64) sz, .val .str bk, .val (.sl false [.sl true [.int .i64, .int .i64, .int .i64, .int .i64, .int .u32]]) T, .val (.sl true [.str, .int .i64, Ct.sl false [.sl true [.int .i64, .int .i64, .int .i64, .int .i64, .int .u32]]]) S, .val (.sl true [.str, Ct.bool, Ct.sl true [.int .i64, .int .i64]]) M, .val (.sl false [.int .i64]) Q])])) := by kernel_rfl
theorem rcounts_round (pan : KP) (μ : Mu) (N : Nat) (k : KE) (i c sz bk T S M Q : U) : (exec (rmetaC.panics pan) (loopBody Try.f15 2) 4 ⟨[(7, vi i), (1, .ptr 128 0)], [(128, .box [vi c, vi sz, vs bk, vl (.sl true EC) T, vt SC S, vt BC M, vl (.int .i64) Q])]⟩ (again PR (some ([2], [])) none pan [7, 1] [128] rmetaLoop4 μ N k)) = (bif decide (i.int < (Q.list.length : Int)) then bif decide ((0 : Int) ≤ i.int ∧ i.int < (Q.list.length : Int)) then bif decide (U.int (nth (U.i (0 : Int)) Q.list (Int.toNat i.int)) < (0 : Int)) then k Ex.ret (St.mk [(nat_lit 2, .val .bool (U.b false))] []) else bif decide ((0 : Int) ≤ i.int ∧ i.int < (Q.list.length : Int)) then bif decide (U.int (nth (U.i (0 : Int)) Q.list (Int.toNat i.int)) > (65535 : Int)) then k Ex.ret (St.mk [(nat_lit 2, .val .bool (U.b false))] []) else bif Nat.blt (μ [.val (.int IntKind.i64) (U.i (IntKind.wrap .i64 (i.int + (1 : Int)))), .ptr (nat_lit 128) (nat_lit 0)] [.box [.val (.int IntKind.i64) c, .val (.int IntKind.i64) sz, .val .str bk, .val (.sl false [Ct.sl true [Ct.int IntKind.i64, Ct.int IntKind.i64, Ct.int IntKind.i64, Ct.int IntKind.i64, Ct.int IntKind.u32]]) T, SV.val (Ct.sl true [Ct.str, Ct.int IntKind.i64, Ct.sl false [Ct.sl true [Ct.int IntKind.i64, Ct.int IntKind.i64, Ct.int IntKind.i64, Ct.int IntKind.i64, Ct.int IntKind.u32]]]) S, SV.val (Ct.sl true [Ct.str, Ct.bool, Ct.sl true [Ct.int IntKind.i64, Ct.int IntKind.i64]]) M, SV.val (Ct.sl false [Ct.int IntKind.i64]) Q]]) N then ([Ct.int IntKind.i64, Ct.int IntKind.i64, Ct.int IntKind.i64, Ct.int IntKind.i64, Ct.int IntKind.u32] = [.int .i64, .int .i64, .int .i64, .int .i64, .int .u32] ∧ [Ct.str, Ct.int IntKind.i64, Ct.sl false [Ct.sl true [Ct.int IntKind.i64, Ct.int IntKind.i64, Ct.int IntKind.i64, Ct.int IntKind.i64, Ct.int IntKind.u32]]] = [.str, .int .i64, Ct.sl false [.sl true [.int .i64, .int .i64, .int .i64, .int .i64, .int .u32]]] ∧ [Ct.str, Ct.bool, Ct.sl true [Ct.int IntKind.i64, Ct.int IntKind.i64]] = [.str, Ct.bool, Ct.sl true [.int .i64, .int .i64]] ∧ nat_lit 128 = nat_lit 128 ∧ nat_lit 0 = nat_lit 0 ∧ Q.list.length ≤ (65536 : Nat) ∧ (0 : Int) ≤ IntKind.wrap .i64 (i.int + (1 : Int)) ∧ IntKind.wrap .i64 (i.int + (1 : Int)) ≤ (Q.list.length : Int)) ∧ bif countsR (List.drop (Int.toNat (IntKind.wrap .i64 (i.int + (1 : Int)))) Q.list) then k (Ex.exit (nat_lit 4)) (St.mk [(nat_lit 2, .unk)] []) else k Ex.ret (St.mk [(nat_lit 2, .val .bool (U.b false))] []) else False else False else False else k (Ex.exit (nat_lit 4)) (St.mk [(nat_lit 2, .unk)] [])) := by kernel_rfl
theorem rmeta_tree (R : RF) (c sz bk T S M Q : U) : (run rmetaC Try.f15 [[c, sz, bk, T, S, M, Q]] R) = (bif decide (c.int < (0 : Int)) then R [[U.b false]] else bif decide (c.int > (6 : Int)) then R [[U.b false]] else sizeP [[sz], [c]] ∧ bif !sizeR sz.int c.int then R [[U.b false]] else bif !ByteArray.toList bk.str == ByteArray.toList (ByteArray.mk #[]) then bif !nameR bk.str then R [[U.b false]] else bif decide ((S.list.length : Int) > (8 : Int)) then R [[U.b false]] else bif decide ((M.list.length : Int) > (8 : Int)) then R [[U.b false]] else bif decide ((Q.list.length : Int) > (65536 : Int)) then R [[U.b false]] else bif decide (IntKind.wrap .u64 c.int < (0 : Int)) then False else bif !rtableR T.list (Int.fdiv sz.int ((2 : Int) ^ min (Int.toNat (IntKind.wrap .u64 c.int)) (IntKind.bits IntKind.i64))) c.int then R [[U.b false]] else ([Ct.int IntKind.i64, Ct.int IntKind.i64, Ct.int IntKind.i64, Ct.int IntKind.i64, Ct.int IntKind.u32] = [.int .i64, .int .i64, .int .i64, .int .i64, .int .u32] ∧ [Ct.str, Ct.int IntKind.i64, Ct.sl false [Ct.sl true [Ct.int IntKind.i64, Ct.int IntKind.i64, Ct.int IntKind.i64, Ct.int IntKind.i64, Ct.int IntKind.u32]]] = [.str, .int .i64, Ct.sl false [.sl true [.int .i64, .int .i64, .int .i64, .int .i64, .int .u32]]] ∧ [Ct.str, Ct.bool, Ct.sl true [Ct.int IntKind.i64, Ct.int IntKind.i64]] = [.str, Ct.bool, Ct.sl true [.int .i64, .int .i64]] ∧ nat_lit 128 = nat_lit 128 ∧ nat_lit 0 = nat_lit 0 ∧ S.list.length ≤ (8 : Nat) ∧ (0 : Int) ≤ (0 : Int) ∧ (0 : Int) ≤ (S.list.length : Int) ∧ (0 : Int) ≤ c.int ∧ c.int ≤ (6 : Int)) ∧ bif rshotsR c.int S.list (0 : Int) (List.drop (Int.toNat (0 : Int)) S.list) then ([Ct.int IntKind.i64, Ct.int IntKind.i64, Ct.int IntKind.i64, Ct.int IntKind.i64, Ct.int IntKind.u32] = [.int .i64, .int .i64, .int .i64, .int .i64, .int .u32] ∧ [Ct.str, Ct.int IntKind.i64, Ct.sl false [Ct.sl true [Ct.int IntKind.i64, Ct.int IntKind.i64, Ct.int IntKind.i64, Ct.int IntKind.i64, Ct.int IntKind.u32]]] = [.str, .int .i64, Ct.sl false [.sl true [.int .i64, .int .i64, .int .i64, .int .i64, .int .u32]]] ∧ [Ct.str, Ct.bool, Ct.sl true [Ct.int IntKind.i64, Ct.int IntKind.i64]] = [.str, Ct.bool, Ct.sl true [.int .i64, .int .i64]] ∧ nat_lit 128 = nat_lit 128 ∧ nat_lit 0 = nat_lit 0 ∧ M.list.length ≤ (8 : Nat) ∧ (0 : Int) ≤ (0 : Int) ∧ (0 : Int) ≤ (M.list.length : Int)) ∧ bif rmapsR M.list (0 : Int) (List.drop (Int.toNat (0 : Int)) M.list) then ([Ct.int IntKind.i64, Ct.int IntKind.i64, Ct.int IntKind.i64, Ct.int IntKind.i64, Ct.int IntKind.u32] = [.int .i64, .int .i64, .int .i64, .int .i64, .int .u32] ∧ [Ct.str, Ct.int IntKind.i64, Ct.sl false [Ct.sl true [Ct.int IntKind.i64, Ct.int IntKind.i64, Ct.int IntKind.i64, Ct.int IntKind.i64, Ct.int IntKind.u32]]] = [.str, .int .i64, Ct.sl false [.sl true [.int .i64, .int .i64, .int .i64, .int .i64, .int .u32]]] ∧ [Ct.str, Ct.bool, Ct.sl true [Ct.int IntKind.i64, Ct.int IntKind.i64]] = [.str, Ct.bool, Ct.sl true [.int .i64, .int .i64]] ∧ nat_lit 128 = nat_lit 128 ∧ nat_lit 0 = nat_lit 0 ∧ Q.list.length ≤ (65536 : Nat) ∧ (0 : Int) ≤ (0 : Int) ∧ (0 : Int) ≤ (Q.list.length : Int)) ∧ bif countsR (List.drop (Int.toNat (0 : Int)) Q.list) then R [[U.b true]] else R [[U.b false]] else R [[U.b false]] else R [[U.b false]] else bif decide ((S.list.length : Int) > (8 : Int)) then R [[U.b false]] else bif decide ((M.list.length : Int) > (8 : Int)) then R [[U.b false]] else bif decide ((Q.list.length : Int) > (65536 : Int)) then R [[U.b false]] else bif decide (IntKind.wrap .u64 c.int < (0 : Int)) then False else bif !rtableR T.list (Int.fdiv sz.int ((2 : Int) ^ min (Int.toNat (IntKind.wrap .u64 c.int)) (IntKind.bits IntKind.i64))) c.int then R [[U.b false]] else ([Ct.int IntKind.i64, Ct.int IntKind.i64, Ct.int IntKind.i64, Ct.int IntKind.i64, Ct.int IntKind.u32] = [.int .i64, .int .i64, .int .i64, .int .i64, .int .u32] ∧ [Ct.str, Ct.int IntKind.i64, Ct.sl false [Ct.sl true [Ct.int IntKind.i64, Ct.int IntKind.i64, Ct.int IntKind.i64, Ct.int IntKind.i64, Ct.int IntKind.u32]]] = [.str, .int .i64, Ct.sl false [.sl true [.int .i64, .int .i64, .int .i64, .int .i64, .int .u32]]] ∧ [Ct.str, Ct.bool, Ct.sl true [Ct.int IntKind.i64, Ct.int IntKind.i64]] = [.str, Ct.bool, Ct.sl true [.int .i64, .int .i64]] ∧ nat_lit 128 = nat_lit 128 ∧ nat_lit 0 = nat_lit 0 ∧ S.list.length ≤ (8 : Nat) ∧ (0 : Int) ≤ (0 : Int) ∧ (0 : Int) ≤ (S.list.length : Int) ∧ (0 : Int) ≤ c.int ∧ c.int ≤ (6 : Int)) ∧ bif rshotsR c.int S.list (0 : Int) (List.drop (Int.toNat (0 : Int)) S.list) then ([Ct.int IntKind.i64, Ct.int IntKind.i64, Ct.int IntKind.i64, Ct.int IntKind.i64, Ct.int IntKind.u32] = [.int .i64, .int .i64, .int .i64, .int .i64, .int .u32] ∧ [Ct.str, Ct.int IntKind.i64, Ct.sl false [Ct.sl true [Ct.int IntKind.i64, Ct.int IntKind.i64, Ct.int IntKind.i64, Ct.int IntKind.i64, Ct.int IntKind.u32]]] = [.str, .int .i64, Ct.sl false [.sl true [.int .i64, .int .i64, .int .i64, .int .i64, .int .u32]]] ∧ [Ct.str, Ct.bool, Ct.sl true [Ct.int IntKind.i64, Ct.int IntKind.i64]] = [.str, Ct.bool, Ct.sl true [.int .i64, .int .i64]] ∧ nat_lit 128 = nat_lit 128 ∧ nat_lit 0 = nat_lit 0 ∧ M.list.length ≤ (8 : Nat) ∧ (0 : Int) ≤ (0 : Int) ∧ (0 : Int) ≤ (M.list.length : Int)) ∧ bif rmapsR M.list (0 : Int) (List.drop (Int.toNat (0 : Int)) M.list) then ([Ct.int IntKind.i64, Ct.int IntKind.i64, Ct.int IntKind.i64, Ct.int IntKind.i64, Ct.int IntKind.u32] = [.int .i64, .int .i64, .int .i64, .int .i64, .int .u32] ∧ [Ct.str, Ct.int IntKind.i64, Ct.sl false [Ct.sl true [Ct.int IntKind.i64, Ct.int IntKind.i64, Ct.int IntKind.i64, Ct.int IntKind.i64, Ct.int IntKind.u32]]] = [.str, .int .i64, Ct.sl false [.sl true [.int .i64, .int .i64, .int .i64, .int .i64, .int .u32]]] ∧ [Ct.str, Ct.bool, Ct.sl true [Ct.int IntKind.i64, Ct.int IntKind.i64]] = [.str, Ct.bool, Ct.sl true [.int .i64, .int .i64]] ∧ nat_lit 128 = nat_lit 128 ∧ nat_lit 0 = nat_lit 0 ∧ Q.list.length ≤ (65536 : Nat) ∧ (0 : Int) ≤ (0 : Int) ∧ (0 : Int) ≤ (Q.list.length : Int)) ∧ bif countsR (List.drop (Int.toNat (0 : Int)) Q.list) then R [[U.b true]] else R [[U.b false]] else R [[U.b false]] else R [[U.b false]]) := by kernel_rfl
end Go.Mat

namespace Go.Mat
open Go Go.Den Go.Proofs
theorem findR_not {x : U} : ∀ {L : List U} {i : Int}, hasR x L = false → findR x i L = -1
  | [], _, _ => rfl
  | s :: r, i, h => by
    rw [hasR, Bool.or_eq_false_iff] at h
    rw [findR, h.1]
    exact findR_not h.2
theorem shot_loop : LoopOk shotC 0 (loopBody Try.f33 0) := by
  refine loopOk_of (F := shotLoop) (ts := [5, 2, 1]) (os := [256]) rfl (fun svs os => match svs, os with | .val _ i :: _, [.box (_ :: _ :: _ :: _ :: .val _ S :: _)] => ((S.list.length : Int) - i.int).toNat | _, _ => 0) ?_
  intro pan svs os k ho1 ho2 h
  unfold shotLoop at h
  split at h
  · rename_i i pp po x c sz bk x1 T x2 S x3 M Q
    obtain ⟨⟨rfl, rfl, rfl, rfl, rfl, hs, h0, hi⟩, hk⟩ := h
    have hS : S.list.length ≤ maxLen := ho2.1.2.2.2.2.1.1
    refine .eq (shot_round pan _ _ k i x c sz bk T S M Q) ?_
    refine bd (fun hlt => dt ⟨h0, by omega⟩ ?_) (fun hlt => ?_)
    · rw [drop_at (by omega), hasR, findR] at hk
      have hw : IntKind.wrap .i64 (i.int + 1) = i.int + 1 := i64_in (by omega) (by unfold maxLen at hS; omega)
      have hc : (i.int + 1).toNat = i.int.toNat + 1 := by omega
      have hlt' : ((S.list.length : Int) - (i.int + 1)).toNat < ((S.list.length : Int) - i.int).toNat := by omega
      simp only [U.at, e0] at hk
      simp only [nth_tail, nth_drop, Nat.zero_add, Nat.add_zero, hw, hc, ByteArray.toList_eq]
      refine bi (fun h1 => ?_) (fun h1 => ?_)
      · rw [h1] at hk
        simp only [Bool.true_or, cond_true, ← hs] at hk
        exact hk
      · rw [h1] at hk
        exact blt hlt' ⟨⟨by trivial, by trivial, by trivial, by trivial, by trivial, by trivial, by omega, by omega⟩, hk⟩
    · rw [List.drop_of_length_le (by omega)] at hk
      exact hk
  · exact h.elim
theorem bitmap_loop : LoopOk bitmapC 0 (loopBody Try.f34 0) := by
  refine loopOk_of (F := bitmapLoop) (ts := [5, 0, 1]) (os := []) rfl (fun svs _ => match svs with | .val _ i :: .val _ S :: _ => ((S.list.length : Int) - i.int).toNat | _ => 0) ?_
  intro pan svs os k ho1 ho2 h
  unfold bitmapLoop at h
  split at h
  · rename_i i ec L x
    obtain ⟨⟨rfl, hs, h0, hi⟩, hk⟩ := h
    have hS : L.list.length ≤ maxLen := ho1.2.1.1
    refine .eq (bitmap_round pan _ _ k i x L) ?_
    refine bd (fun hlt => dt ⟨h0, by omega⟩ ?_) (fun hlt => ?_)
    · rw [drop_at (by omega), hasR, findR] at hk
      have hw : IntKind.wrap .i64 (i.int + 1) = i.int + 1 := i64_in (by omega) (by unfold maxLen at hS; omega)
      have hc : (i.int + 1).toNat = i.int.toNat + 1 := by omega
      have hlt' : ((L.list.length : Int) - (i.int + 1)).toNat < ((L.list.length : Int) - i.int).toNat := by omega
      simp only [U.at, e0] at hk
      simp only [nth_tail, nth_drop, Nat.zero_add, Nat.add_zero, hw, hc, ByteArray.toList_eq]
      refine bi (fun h1 => ?_) (fun h1 => ?_)
      · rw [h1] at hk
        simp only [Bool.true_or, cond_true, ← hs] at hk
        exact hk
      · rw [h1] at hk
        exact blt hlt' ⟨⟨by trivial, by trivial, by omega, by omega⟩, hk⟩
    · rw [List.drop_of_length_le (by omega)] at hk
      exact hk
  · exact h.elim
theorem shot_ok : SpecF PR 33 shotS := fun fn us hfn => by
  have hf : PR.funcs[(33 : Nat)]? = some Try.f33 := by kernel_rfl
  rw [hf] at hfn; cases hfn
  refine fn_okH (C := shotC) (mkC_ok eqs0_ok mixed_ok .nil .nil) hf (by kernel_rfl) (loops_one (by kernel_rfl) shot_loop) fun hok => ?_
  have hp : Try.f33.params.toList = [29, 9] := by kernel_rfl
  rw [hp] at hok
  obtain ⟨c, sz, bk, T, S, M, Q, x, hus⟩ : ∃ c sz bk T S M Q x, us = [[c, sz, bk, T, S, M, Q], [x]] := by
    obtain ⟨u, u2, rfl, h1, h2⟩ := shape2 (by kernel_rfl : Cs PR 29 = some (true, [.int .i64, .int .i64, .str, .sl false [.sl true EC], .sl true SC, .sl true BC, .sl false [.int .i64]])) (by kernel_rfl : Cs PR 9 = some (false, [.str])) hok.1
    obtain ⟨c, sz, bk, T, S, M, Q, rfl⟩ := len7 h1
    obtain ⟨x, rfl⟩ := len1 h2
    exact ⟨c, sz, bk, T, S, M, Q, x, rfl⟩
  subst hus
  refine .eq (shot_tree _ _ _ _ _ _ _ _ _) ?_
  unfold shotS
  simp only [nth_zero, nth_succ]
  simp only [Int.toNat_zero, List.drop_zero]
  refine ⟨⟨by trivial, by trivial, by trivial, by trivial, by trivial, by trivial, by omega, by omega⟩, bi (fun _ => ?_) (fun h => ?_)⟩
  · trivial
  · rw [findR_not h]
theorem bitmap_ok : SpecF PR 34 bitmapS := fun fn us hfn => by
  have hf : PR.funcs[(34 : Nat)]? = some Try.f34 := by kernel_rfl
  rw [hf] at hfn; cases hfn
  refine fn_okH (C := bitmapC) (mkC_ok eqs0_ok mixed_ok .nil .nil) hf (by kernel_rfl) (loops_one (by kernel_rfl) bitmap_loop) fun hok => ?_
  have hp : Try.f34.params.toList = [26, 9] := by kernel_rfl
  rw [hp] at hok
  obtain ⟨L, x, hus⟩ : ∃ L x, us = [[L], [x]] := by
    obtain ⟨u, u2, rfl, h1, h2⟩ := shape2 (by kernel_rfl : Cs PR 26 = some (false, [.sl true BC])) (by kernel_rfl : Cs PR 9 = some (false, [.str])) hok.1
    obtain ⟨L, rfl⟩ := len1 h1
    obtain ⟨x, rfl⟩ := len1 h2
    exact ⟨L, x, rfl⟩
  subst hus
  refine .eq (bitmap_tree _ _ _) ?_
  unfold bitmapS
  simp only [nth_zero, nth_succ]
  simp only [Int.toNat_zero, List.drop_zero]
  refine ⟨⟨by trivial, by trivial, by omega, by omega⟩, bi (fun _ => ?_) (fun h => ?_)⟩
  · trivial
  · rw [findR_not h]
theorem shr_inu {n c : Int} (h : 0 ≤ c) (h' : c ≤ 6) : Int.fdiv n (2 ^ min (IntKind.wrap .u64 c).toNat (IntKind.bits .i64)) = n / 2 ^ c.toNat := by
  rw [u64_in h (by omega), shr_in h h']
theorem bnf {a b : Int} (h : (a != b) = true) : (a == b) = false := nt h
theorem bnt {a b : Int} (h : (a != b) = false) : (a == b) = true := nf h
theorem rshots_loop : LoopOk rmetaC 0 (loopBody Try.f15 0) := by
  refine loopOk_of (F := rmetaLoop0) (ts := [3, 1]) (os := [128]) rfl (fun svs os => match svs, os with | .val _ i :: _, [.box (_ :: _ :: _ :: _ :: .val _ S :: _)] => ((S.list.length : Int) - i.int).toNat | _, _ => 0) ?_
  intro pan svs os k ho1 ho2 h
  unfold rmetaLoop0 at h
  split at h
  · rename_i i pp po c sz bk x1 T x2 S x3 M Q
    obtain ⟨⟨rfl, rfl, rfl, rfl, rfl, hS, h0, hi, hc0, hc6⟩, hk⟩ := h
    refine .eq (rshots_round pan _ _ k i c sz bk T S M Q) ?_
    refine bd (fun hlt => dt ⟨h0, by omega⟩ ?_) (fun hlt => ?_)
    · rw [drop_at (by omega), rshotsR] at hk
      simp only [U.at, e0, e1, e2] at hk
      have hw : IntKind.wrap .i64 (i.int + 1) = i.int + 1 := i64_in (by omega) (by omega)
      have hc : (i.int + 1).toNat = i.int.toNat + 1 := by omega
      have hlt' : ((S.list.length : Int) - (i.int + 1)).toNat < ((S.list.length : Int) - i.int).toNat := by omega
      simp only [nth_tail, Nat.zero_add, Nat.reduceAdd, hw, hc, shr_inu hc0 hc6]
      generalize nth (U.i 0) S.list i.int.toNat = s at hk ⊢
      refine bi (fun h1 => ?_) (fun h1 => bi (fun h2 => ?_) (fun h2 => ⟨⟨by simpa using hc0, by simpa using hc6⟩, bi (fun h3 => ?_) (fun h3 => df (by rw [u64_in hc0 (by omega)]; omega) (bi (fun h4 => ?_) (fun h4 => ?_)))⟩))
      · rw [nt h1] at hk; exact hk
      · rw [nf h1, bnf h2] at hk; exact hk
      · rw [nf h1, bnt h2, nt h3] at hk; exact hk
      · rw [nf h1, bnt h2, nf h3, nt h4] at hk; exact hk
      · rw [nf h1, bnt h2, nf h3, nf h4] at hk
        exact blt hlt' ⟨⟨by trivial, by trivial, by trivial, by trivial, by trivial, hS, by omega, by omega, hc0, hc6⟩, hk⟩
    · rw [List.drop_of_length_le (by omega)] at hk
      exact hk
  · exact h.elim
theorem rmaps_loop : LoopOk rmetaC 2 (loopBody Try.f15 1) := by
  refine loopOk_of (F := rmetaLoop2) (ts := [5, 1]) (os := [128]) rfl (fun svs os => match svs, os with | .val _ i :: _, [.box (_ :: _ :: _ :: _ :: _ :: .val _ M :: _)] => ((M.list.length : Int) - i.int).toNat | _, _ => 0) ?_
  intro pan svs os k ho1 ho2 h
  unfold rmetaLoop2 at h
  split at h
  · rename_i i pp po c sz bk x1 T x2 S x3 M Q
    obtain ⟨⟨rfl, rfl, rfl, rfl, rfl, hM, h0, hi⟩, hk⟩ := h
    have hlen : ∀ j, j < M.list.length → (nth (.i 0) (nth (.i 0) M.list j).list 2).list.length ≤ maxLen := fun j hj => by
      have h2 := (ho2.1.2.2.2.2.2.1.2 j hj).2.2.1.1
      simpa [U.at, elemU] using h2
    refine .eq (rmaps_round pan _ _ k i c sz bk T S M Q) ?_
    refine bd (fun hlt => dt ⟨h0, by omega⟩ ?_) (fun hlt => ?_)
    · have hl := hlen i.int.toNat (by omega)
      rw [drop_at (by omega), rmapsR] at hk
      simp only [U.at, e0, e1, e2] at hk
      have hw : IntKind.wrap .i64 (i.int + 1) = i.int + 1 := i64_in (by omega) (by omega)
      have hc : (i.int + 1).toNat = i.int.toNat + 1 := by omega
      have hlt' : ((M.list.length : Int) - (i.int + 1)).toNat < ((M.list.length : Int) - i.int).toNat := by omega
      simp only [nth_tail, nth_drop, Nat.zero_add, Nat.add_zero, Nat.reduceAdd, hw, hc]
      generalize nth (U.i 0) M.list i.int.toNat = s at hk hl ⊢
      generalize (nth (U.i 0) s.list 2).list = l at hk hl ⊢
      have hw1 : 0 < l.length → IntKind.wrap .i64 ((l.length : Int) - 1) = (l.length : Int) - 1 := fun h => i64_in (by omega) (by unfold maxLen at hl; omega)
      refine bi (fun h1 => ?_) (fun h1 => bi (fun h2 => ?_) (fun h2 => bi (fun h3 => ?_) (fun h3 => bd (fun h4 => ?_) (fun h4 => ?_))))
      · rw [nt h1] at hk; exact hk
      · rw [nf h1, bnf h2] at hk; exact hk
      · rw [nf h1, bnt h2, nt h3] at hk; exact hk
      · rw [hw1 (by omega)]
        have hj : ((l.length : Int) - 1).toNat = l.length - 1 := by omega
        refine dt (by omega) (bd (fun h5 => ?_) (fun h5 => ?_))
        · rw [hj] at h5
          rw [nf h1, bnt h2, nf h3, lastR, decide_eq_true (show 0 < l.length by omega)] at hk
          simp only [U.at, e1] at hk
          rw [decide_eq_false (by omega)] at hk
          exact hk
        · rw [hj] at h5
          rw [nf h1, bnt h2, nf h3, lastR, decide_eq_true (show 0 < l.length by omega)] at hk
          simp only [U.at, e1] at hk
          rw [decide_eq_true (by omega)] at hk
          exact blt hlt' ⟨⟨by trivial, by trivial, by trivial, by trivial, by trivial, hM, by omega, by omega⟩, hk⟩
      · rw [nf h1, bnt h2, nf h3, lastR, decide_eq_false (show ¬ 0 < l.length by omega)] at hk
        exact blt hlt' ⟨⟨by trivial, by trivial, by trivial, by trivial, by trivial, hM, by omega, by omega⟩, hk⟩
    · rw [List.drop_of_length_le (by omega)] at hk
      exact hk
  · exact h.elim
theorem rcounts_loop : LoopOk rmetaC 4 (loopBody Try.f15 2) := by
  refine loopOk_of (F := rmetaLoop4) (ts := [7, 1]) (os := [128]) rfl (fun svs os => match svs, os with | .val _ i :: _, [.box (_ :: _ :: _ :: _ :: _ :: _ :: .val _ Q :: _)] => ((Q.list.length : Int) - i.int).toNat | _, _ => 0) ?_
  intro pan svs os k ho1 ho2 h
  unfold rmetaLoop4 at h
  split at h
  · rename_i i pp po c sz bk x1 T x2 S x3 M Q
    obtain ⟨⟨rfl, rfl, rfl, rfl, rfl, hQ, h0, hi⟩, hk⟩ := h
    refine .eq (rcounts_round pan _ _ k i c sz bk T S M Q) ?_
    refine bd (fun hlt => dt ⟨h0, by omega⟩ ?_) (fun hlt => ?_)
    · rw [drop_at (by omega), countsR] at hk
      simp only [U.at] at hk
      have hw : IntKind.wrap .i64 (i.int + 1) = i.int + 1 := i64_in (by omega) (by omega)
      have hc : (i.int + 1).toNat = i.int.toNat + 1 := by omega
      have hlt' : ((Q.list.length : Int) - (i.int + 1)).toNat < ((Q.list.length : Int) - i.int).toNat := by omega
      simp only [hw, hc]
      refine bd (fun h1 => ?_) (fun h1 => dt ⟨h0, by omega⟩ (bd (fun h2 => ?_) (fun h2 => ?_)))
      · rw [decide_eq_false (by omega)] at hk; exact hk
      · rw [decide_eq_true (show 0 ≤ (nth (U.i 0) Q.list i.int.toNat).int by omega), decide_eq_false (by omega)] at hk; exact hk
      · rw [decide_eq_true (show 0 ≤ (nth (U.i 0) Q.list i.int.toNat).int by omega), decide_eq_true (by omega)] at hk
        exact blt hlt' ⟨⟨by trivial, by trivial, by trivial, by trivial, by trivial, hQ, by omega, by omega⟩, hk⟩
    · rw [List.drop_of_length_le (by omega)] at hk
      exact hk
  · exact h.elim
theorem rmetaR_iff (c sz bk T S M Q : U) : rmetaR c sz bk T S M Q = true ↔ 0 ≤ c.int ∧ c.int ≤ 6 ∧ sizeR sz.int c.int = true ∧ backR bk.str = true ∧ S.list.length ≤ 8 ∧ M.list.length ≤ 8 ∧ Q.list.length ≤ 65536 ∧ rtableR T.list (sz.int / 2 ^ c.int.toNat) c.int = true ∧ rshotsR c.int S.list 0 S.list = true ∧ rmapsR M.list 0 M.list = true ∧ countsR Q.list = true := by
  simp only [rmetaR, Bool.and_eq_true, decide_eq_true_eq, and_assoc]
theorem rmeta_neg {c sz bk T S M Q : U} (h : (0 ≤ c.int ∧ c.int ≤ 6 ∧ sizeR sz.int c.int = true ∧ backR bk.str = true ∧ S.list.length ≤ 8 ∧ M.list.length ≤ 8 ∧ Q.list.length ≤ 65536 ∧ rtableR T.list (sz.int / 2 ^ c.int.toNat) c.int = true ∧ rshotsR c.int S.list 0 S.list = true ∧ rmapsR M.list 0 M.list = true ∧ countsR Q.list = true) → False) : ([[U.b false]] : List (List U)) = [[.b (rmetaR c sz bk T S M Q)]] := by
  rw [show rmetaR c sz bk T S M Q = false from Bool.eq_false_iff.2 fun h' => h ((rmetaR_iff ..).1 h')]
theorem rmeta_ok : SpecF PR 15 rmetaS := fun fn us hfn => by
  have hf : PR.funcs[(15 : Nat)]? = some Try.f15 := by kernel_rfl
  rw [hf] at hfn; cases hfn
  refine fn_okH (C := rmetaC) (mkC_ok eqs0_ok mixed_ok (.consP sized_ok (.cons rname_ok (.cons rtab_ok (.cons rspans_ok (.cons shot_ok (.cons bitmap_ok .nil)))))) .nil) hf (by kernel_rfl) (loops_three (by kernel_rfl) rshots_loop rmaps_loop rcounts_loop) fun hok => ?_
  have hp : Try.f15.params.toList = [29] := by kernel_rfl
  rw [hp] at hok
  obtain ⟨c, sz, bk, T, S, M, Q, hus⟩ : ∃ c sz bk T S M Q, us = [[c, sz, bk, T, S, M, Q]] := by
    obtain ⟨u, rfl, h1⟩ := shape1 (by kernel_rfl : Cs PR 29 = some (true, [.int .i64, .int .i64, .str, .sl false [.sl true EC], .sl true SC, .sl true BC, .sl false [.int .i64]])) hok.1
    obtain ⟨c, sz, bk, T, S, M, Q, rfl⟩ := len7 h1
    exact ⟨c, sz, bk, T, S, M, Q, rfl⟩
  subst hus
  refine .eq (rmeta_tree _ _ _ _ _ _ _ _) ?_
  unfold rmetaS
  simp only [nth_zero, nth_succ]
  have eb : (ByteArray.toList bk.str == ByteArray.toList { data := #[] }) = (bk.str.data.toList == []) := by rw [ByteArray.toList_eq, ByteArray.toList_eq]
  rw [eb]
  refine bd (fun h => rmeta_neg fun h' => by omega) (fun hc0 => bd (fun h => rmeta_neg fun h' => by omega) (fun hc6 => ⟨⟨by simpa using hc0, by simpa using hc6⟩, bi (fun h => rmeta_neg fun h' => fls h h'.2.2.1) (fun hs => ?_)⟩))
  replace hc0 : 0 ≤ c.int := by omega
  replace hc6 : c.int ≤ 6 := by omega
  simp only [shr_inu hc0 hc6, Int.toNat_zero, List.drop_zero]
  refine bi (fun hb => bi (fun hb2 => rmeta_neg fun h' => ?_) (fun hb2 => ?_)) (fun hb => ?_)
  · have := h'.2.2.2.1
    rw [backR, nt hb, nt hb2] at this; cases this
  all_goals
    have hbk : backR bk.str = true := by
      rw [backR]
      first | rw [nf hb2, Bool.or_true] | rw [nf hb, Bool.true_or]
    refine bd (fun h => rmeta_neg fun h' => by omega) (fun h8 => bd (fun h => rmeta_neg fun h' => by omega) (fun h9 => bd (fun h => rmeta_neg fun h' => by omega) (fun h10 => ?_)))
    refine df (by rw [u64_in hc0 (by omega)]; omega) (bi (fun h => rmeta_neg fun h' => fls h h'.2.2.2.2.2.2.2.1) (fun ht => ?_))
    refine ⟨⟨by trivial, by trivial, by trivial, by trivial, by trivial, by omega, by omega, by omega, hc0, hc6⟩, bi (fun h11 => ?_) (fun h => rmeta_neg fun h' => flf h h'.2.2.2.2.2.2.2.2.1)⟩
    refine ⟨⟨by trivial, by trivial, by trivial, by trivial, by trivial, by omega, by omega, by omega⟩, bi (fun h12 => ?_) (fun h => rmeta_neg fun h' => flf h h'.2.2.2.2.2.2.2.2.2.1)⟩
    refine ⟨⟨by trivial, by trivial, by trivial, by trivial, by trivial, by omega, by omega, by omega⟩, bi (fun h13 => ?_) (fun h => rmeta_neg fun h' => flf h h'.2.2.2.2.2.2.2.2.2.2)⟩
    refine ubi ?_
    rw [rmetaR_iff]
    exact ⟨fun _ => ⟨hc0, hc6, nf hs, hbk, by omega, by omega, by omega, nf ht, h11, h12, h13⟩, fun _ => rfl⟩
end Go.Mat

namespace Go.Mat
open Go Go.Den Go.Proofs
theorem hasR_app (x : U) : ∀ p q : List U, hasR x (p ++ q) = (hasR x p || hasR x q)
  | [], q => rfl
  | s :: r, q => by rw [List.cons_append, hasR, hasR, hasR_app x r q, Bool.or_assoc]
theorem findR_app (x : U) : ∀ (p q : List U) (i : Int), hasR x p = false → findR x i (p ++ q) = findR x (i + p.length) q
  | [], q, i, _ => by simp
  | s :: r, q, i, h => by
    rw [hasR, Bool.or_eq_false_iff] at h
    rw [List.cons_append, findR, h.1, cond_false, findR_app x r q _ h.2]
    congr 1; simp; omega
theorem findR_lt (x : U) : ∀ (p q : List U) (i : Int), hasR x p = true → findR x i (p ++ q) < i + p.length
  | s :: r, q, i, h => by
    rw [List.cons_append, findR]
    cases hc : (e0 s).str.data.toList == x.str.data.toList with
    | true => simp; omega
    | false =>
      rw [hasR, hc, Bool.false_or] at h
      have := findR_lt x r q (i + 1) h
      simp only [cond_false, List.length_cons]; omega
theorem findR_at (s : U) (p q : List U) : (findR (e0 s) 0 (p ++ s :: q) == (p.length : Int)) = !hasR (e0 s) p := by
  cases h : hasR (e0 s) p with
  | true => have := findR_lt (e0 s) p (s :: q) 0 h; simp; omega
  | false => rw [findR_app _ _ _ _ h, findR]; simp
theorem ueq_iff (a b : U) : ueq .str a b = true ↔ a.str.data.toList = b.str.data.toList := by simp [ueq]
theorem mhas_mput (y x v : U) : ∀ es : List (U × U), mhas .str y (mput .str x v es) = (mhas .str y es || ueq .str y x)
  | [] => by simp [mput, mhas]
  | (a, z) :: r => by
    unfold mput
    cases hu : ueq .str x a with
    | true =>
      have h1 := (ueq_iff _ _).1 hu
      have h2 : ueq .str y a = ueq .str y x := by rw [Bool.eq_iff_iff, ueq_iff, ueq_iff, h1]
      simp only [cond_true, mhas, h2]
      cases ueq .str y x <;> simp
    | false => simp only [cond_false, mhas, mhas_mput y x v r, Bool.or_assoc]
theorem ueq_has (y s : U) : ueq .str y (e0 s) = ((e0 s).str.data.toList == y.str.data.toList) := by
  rw [Bool.eq_iff_iff, ueq_iff, beq_iff_eq]; exact eq_comm
theorem keys_step {es : List (U × U)} {p : List U} {s : U} (h : ∀ x, mhas .str x es = hasR x p) : ∀ x, mhas .str x (mput .str (e0 s) (.i 1) es) = hasR x (p ++ [s]) := fun x => by
  rw [mhas_mput, hasR_app, h x, ueq_has]; simp [hasR]
theorem rshotsR_eq {c : Int} {S : List U} : ∀ (r p : List U) (es : List (U × U)), S = p ++ r → (∀ x, mhas .str x es = hasR x p) →
    (∀ s ∈ r, rtableR (e2 s).list ((e1 s).int / 2 ^ c.toNat) c = tableR (e2 s).list ((e1 s).int / 2 ^ c.toNat) c) → rshotsR c S p.length r = (shotsR c r && unlikeR es (r.map e0))
  | [], _, _, _, _, _ => rfl
  | s :: r, p, es, hS, hk, ht => by
    have hr := rshotsR_eq (c := c) (S := S) r (p ++ [s]) _ (by rw [hS]; simp) (keys_step (s := s) hk) fun s hs => ht s (by simp [hs])
    have hl : (((p ++ [s]).length : Nat) : Int) = (p.length : Int) + 1 := by simp
    rw [hl] at hr
    rw [rshotsR, hr, shotsR, List.map_cons, unlikeR, ht s (by simp), hk (e0 s)]
    have hf : (findR (e0 s) 0 S == (p.length : Int)) = !hasR (e0 s) p := by rw [hS]; exact findR_at s p r
    rw [hf]
    cases nameR (e0 s).str <;> cases hasR (e0 s) p <;> cases sizeR (e1 s).int c <;> cases tableR (e2 s).list ((e1 s).int / 2 ^ c.toNat) c <;> simp
theorem rmapsR_eq {M : List U} : ∀ (r p : List U) (es : List (U × U)), M = p ++ r → (∀ x, mhas .str x es = hasR x p) → rmapsR M p.length r = (mapsR r && unlikeR es (r.map e0))
  | [], _, _, _, _ => rfl
  | s :: r, p, es, hS, hk => by
    have hr := rmapsR_eq (M := M) r (p ++ [s]) _ (by rw [hS]; simp) (keys_step (s := s) hk)
    have hl : (((p ++ [s]).length : Nat) : Int) = (p.length : Int) + 1 := by simp
    rw [hl] at hr
    rw [rmapsR, hr, mapsR, List.map_cons, unlikeR, hk (e0 s)]
    have hf : (findR (e0 s) 0 M == (p.length : Int)) = !hasR (e0 s) p := by rw [hS]; exact findR_at s p r
    rw [hf]
    cases nameR (e0 s).str <;> cases hasR (e0 s) p <;> cases spansR (-1) (e2 s).list <;> cases lastR (e2 s).list <;> simp
theorem rmetaR_eq {c sz bk T S M Q : U} (hT : T.list.length ≤ 1099511627776) (hS : ∀ s ∈ S.list, (e2 s).list.length ≤ 1099511627776) : rmetaR c sz bk T S M Q = metaR c sz bk T S M Q := by
  have h1 := rshotsR_eq (c := c.int) (S := S.list) S.list [] [] (by simp) (fun _ => rfl) fun s hs => (rtableR_eq (hS s hs)).symm
  have h2 := rmapsR_eq (M := M.list) M.list [] [] (by simp) (fun _ => rfl)
  simp only [List.length_nil, Int.natCast_zero] at h1 h2
  rw [rmetaR, metaR, show rshotsR c.int S.list 0 S.list = _ from h1, show rmapsR M.list 0 M.list = _ from h2, ← rtableR_eq hT]
  ac_rfl
end Go.Mat

namespace Go.Mat
open Go Go.Den Go.Proofs
noncomputable def wnumC : Ctx := mkC PR eqs0 fnsNil (trsCons 49 [false, false, false, false] putF trsNil) noLoops noOut noOut
theorem wnum_tree (R : RT) (n v : U) (xs : List U) : (runD wnumC Try.f22 [.ptr 2097153 0, vi n, vi v] [(2097153, .box [.own 2097280]), (2097280, .arr u8T xs)] R) = ((0 : Nat) ≤ (536870912 : Nat) ∧ bif decide (List.length xs + List.length (putX [] (U.int n) false (IntKind.wrap IntKind.u64 (U.int v))) ≤ room) && !oddB ((2097279 : Nat) + (1 : Nat)) then R (Out.ret [])
  [(nat_lit 2097153, Obj.box [SV.own (nat_lit 2097280)]), (nat_lit 2097280, Obj.arr (nat_lit 5) (xs ++ putX [] (U.int n) false (IntKind.wrap IntKind.u64 (U.int v))))] else False) := by kernel_rfl
end Go.Mat

namespace Go.Mat
open Go Go.Den Go.Proofs
def putS : List (List U) → List (List U) := fun us => [[.l (putX (nth (.i 0) (nth [] us 0) 0).list (nth (.i 0) (nth [] us 1) 0).int (nth (.i 0) (nth [] us 2) 0).bool (nth (.i 0) (nth [] us 3) 0).int)], [.i (putErr (nth (.i 0) (nth [] us 1) 0).int (nth (.i 0) (nth [] us 3) 0).int)]]
def putP : List (List U) → Prop := fun us => (nth (.i 0) (nth [] us 0) 0).list.length ≤ 536870912
theorem putp_tree (R : RF) (b n g v : U) : (run putC Try.f49 [[b], [n], [g], [v]] R) = (bif decide (n.int < (1 : Int)) then R [[U.l []], [U.i (1 : Int)]] else bif decide (n.int > (8 : Int)) then R [[U.l []], [U.i (1 : Int)]] else bif decide (n.int < (8 : Int)) then bif decide (IntKind.wrap .i64 ((8 : Int) * n.int) < (0 : Int)) then False else bif Int.fdiv v.int ((2 : Int) ^ min (Int.toNat (IntKind.wrap .i64 ((8 : Int) * n.int))) (IntKind.bits IntKind.u64)) != (0 : Int) then R [[U.l []], [U.i (6 : Int)]] else bif decide ((0 : Int) ≤ (0 : Int) ∧ (0 : Int) ≤ IntKind.wrap .i64 ((b.list.length : Int) + n.int) ∧ IntKind.wrap .i64 ((b.list.length : Int) + n.int) ≤ (↑room : Int)) then bif decide (List.length (List.replicate (Int.toNat (0 : Int)) (U.i (0 : Int))) + b.list.length ≤ room) && !oddB ((2 : Nat) * ((34 : Nat) * (64 : Nat) + (63 : Nat))) then (nat_lit 4478 = nat_lit 4478 ∧ nat_lit 5 = nat_lit 5 ∧ n = n ∧ (0 : Int) ≤ (0 : Int) ∧ (0 : Int) ≤ n.int ∧ n.int ≤ (8 : Int) ∧ List.length (List.replicate (Int.toNat (0 : Int)) (U.i (0 : Int)) ++ b.list) ≤ (536870912 : Nat) + Int.toNat (0 : Int)) ∧ R [[U.l (List.replicate (Int.toNat (0 : Int)) (U.i (0 : Int)) ++ b.list ++ putFrom g.bool n.int v.int (0 : Int) (Int.toNat (n.int - (0 : Int))))], [U.i (0 : Int)]] else False else False else bif decide ((0 : Int) ≤ (0 : Int) ∧ (0 : Int) ≤ IntKind.wrap .i64 ((b.list.length : Int) + n.int) ∧ IntKind.wrap .i64 ((b.list.length : Int) + n.int) ≤ (↑room : Int)) then bif decide (List.length (List.replicate (Int.toNat (0 : Int)) (U.i (0 : Int))) + b.list.length ≤ room) && !oddB ((2 : Nat) * ((34 : Nat) * (64 : Nat) + (63 : Nat))) then (nat_lit 4478 = nat_lit 4478 ∧ nat_lit 5 = nat_lit 5 ∧ n = n ∧ (0 : Int) ≤ (0 : Int) ∧ (0 : Int) ≤ n.int ∧ n.int ≤ (8 : Int) ∧ List.length (List.replicate (Int.toNat (0 : Int)) (U.i (0 : Int)) ++ b.list) ≤ (536870912 : Nat) + Int.toNat (0 : Int)) ∧ R [[U.l (List.replicate (Int.toNat (0 : Int)) (U.i (0 : Int)) ++ b.list ++ putFrom g.bool n.int v.int (0 : Int) (Int.toNat (n.int - (0 : Int))))], [U.i (0 : Int)]] else False else False) := by kernel_rfl
end Go.Mat

namespace Go.Mat
open Go Go.Den Go.Proofs
theorem shape4 {P : Program} {t t2 t3 t4 : TypeId} {us : List (List U)} {m m2 m3 m4 : Bool} {cs cs2 cs3 cs4 : List Ct} (hc : Cs P t = some (m, cs)) (hc2 : Cs P t2 = some (m2, cs2)) (hc3 : Cs P t3 = some (m3, cs3)) (hc4 : Cs P t4 = some (m4, cs4)) (h : shapeOk P [t, t2, t3, t4] us) :
    ∃ u u2 u3 u4, us = [u, u2, u3, u4] ∧ u.length = cs.length ∧ u2.length = cs2.length ∧ u3.length = cs3.length ∧ u4.length = cs4.length := by
  obtain ⟨u, r, m', cs', rfl, hcs, hl, hr⟩ := h
  rw [hc] at hcs; cases hcs
  obtain ⟨u2, u3, u4, rfl, hl2, hl3, hl4⟩ := shape3 hc2 hc3 hc4 hr
  exact ⟨u, u2, u3, u4, rfl, hl, hl2, hl3, hl4⟩
theorem putp_ok : SpecFP PR 49 putP putS := fun fn us hfn hpre => by
  have hf : PR.funcs[(49 : Nat)]? = some Try.f49 := by kernel_rfl
  rw [hf] at hfn; cases hfn
  refine fn_okH (C := putC) (mkC_ok eqs0_ok mixed_ok .nil .nil) hf (by kernel_rfl) (loops_one (by kernel_rfl) put_loop) fun hok => ?_
  have hp : Try.f49.params.toList = [32, 3, 4, 95] := by kernel_rfl
  rw [hp] at hok
  obtain ⟨b, n, g, v, hus⟩ : ∃ b n g v, us = [[b], [n], [g], [v]] := by
    obtain ⟨u, u2, u3, u4, rfl, h1, h2, h3, h4⟩ := shape4 (by kernel_rfl : Cs PR 32 = some (false, [.sl false [.int .u8]])) (by kernel_rfl : Cs PR 3 = some (false, [.int .i64])) (by kernel_rfl : Cs PR 4 = some (false, [.bool])) (by kernel_rfl : Cs PR 95 = some (false, [.int .u64])) hok.1
    obtain ⟨b, rfl⟩ := len1 h1
    obtain ⟨n, rfl⟩ := len1 h2
    obtain ⟨g, rfl⟩ := len1 h3
    obtain ⟨v, rfl⟩ := len1 h4
    exact ⟨b, n, g, v, rfl⟩
  subst hus
  have hb : b.list.length ≤ 536870912 := hpre
  refine .eq (putp_tree _ b n g v) ?_
  unfold putS
  simp only [nth_zero, nth_succ]
  have bad : ∀ e : Int, e ≠ 0 → putErr n.int v.int = e → ([[U.l []], [.i e]] : List (List U)) = [[.l (putX b.list n.int g.bool v.int)], [.i (putErr n.int v.int)]] := fun e h0 he => by
    rw [putX, he, if_neg h0]
  have good : putErr n.int v.int = 0 → 0 ≤ n.int → ([[U.l (b.list ++ putFrom g.bool n.int v.int 0 (n.int - 0).toNat)], [.i 0]] : List (List U)) = [[.l (putX b.list n.int g.bool v.int)], [.i (putErr n.int v.int)]] := fun he h0 => by
    rw [putX, he, if_pos rfl, Int.sub_zero]
  refine bd (fun h1 => bad 1 (by decide) (by rw [putErr, if_pos (.inl h1)])) (fun h1 => bd (fun h2 => bad 1 (by decide) (by rw [putErr, if_pos (.inr h2)])) (fun h2 => ?_))
  have h12 : ¬ (n.int < 1 ∨ 8 < n.int) := by omega
  have hlen : IntKind.wrap .i64 ((b.list.length : Int) + n.int) = (b.list.length : Int) + n.int := i64_in (by omega) (by omega)
  have h8 : IntKind.wrap .i64 (8 * n.int) = 8 * n.int := i64_in (by omega) (by omega)
  have hpow : (0 : Int) ≤ 2 ^ (8 * n.int).toNat := Int.le_of_lt (Int.pow_pos (by omega))
  have hmin : n.int < 8 → min (8 * n.int).toNat (IntKind.bits .u64) = (8 * n.int).toNat := fun h => Nat.min_eq_left (by simp [IntKind.bits]; omega)
  refine bd (fun h3 => ?_) (fun h3 => ?_)
  · rw [h8, hmin h3, Int.fdiv_eq_ediv_of_nonneg _ hpow]
    refine df (by omega) (bi (fun h4 => ?_) (fun h4 => ?_))
    · exact bad 6 (by decide) (by rw [putErr, if_neg h12, if_pos ⟨h3, by simpa using h4⟩])
    · have he : putErr n.int v.int = 0 := by rw [putErr, if_neg h12, if_neg (by simp at h4; simp [h4])]
      rw [hlen]
      refine dt (by simp [room]; omega) (broom (by simp [room]; omega) rfl ⟨⟨by trivial, by trivial, by trivial, by omega, by omega, by omega, by simpa using hb⟩, ?_⟩)
      simpa using good he (by omega)
  · have he : putErr n.int v.int = 0 := by rw [putErr, if_neg h12, if_neg (fun h => h3 h.1)]
    rw [hlen]
    refine dt (by simp [room]; omega) (broom (by simp [room]; omega) rfl ⟨⟨by trivial, by trivial, by trivial, by omega, by omega, by omega, by simpa using hb⟩, ?_⟩)
    simpa using good he (by omega)
end Go.Mat

namespace Go.Mat
open Go Go.Den Go.Proofs
def num (b : List U) (n v : Int) : List U := putX b n false (IntKind.wrap .u64 v)
def entB (a b c d e : Int) : List U := num (num (num (num [.i (IntKind.wrap .u8 a), .i 0] 2 c) 4 b) 4 d) 4 (IntKind.wrap .i64 e)
def entS : List (List U) → List (List U) := fun us => [[.l (bif mayR (nth (.i 0) (nth [] us 0) 0).int (nth (.i 0) (nth [] us 0) 1).int (nth (.i 0) (nth [] us 0) 2).int (nth (.i 0) (nth [] us 0) 3).int (nth (.i 0) (nth [] us 0) 4).int (nth (.i 0) (nth [] us 1) 0).int then (entB (nth (.i 0) (nth [] us 0) 0).int (nth (.i 0) (nth [] us 0) 1).int (nth (.i 0) (nth [] us 0) 2).int (nth (.i 0) (nth [] us 0) 3).int (nth (.i 0) (nth [] us 0) 4).int) else [])], [.i (bif mayR (nth (.i 0) (nth [] us 0) 0).int (nth (.i 0) (nth [] us 0) 1).int (nth (.i 0) (nth [] us 0) 2).int (nth (.i 0) (nth [] us 0) 3).int (nth (.i 0) (nth [] us 0) 4).int (nth (.i 0) (nth [] us 1) 0).int then 0 else 1)]]
abbrev intT : TypeId := 3
def nums4 (b : List U) : List U → List U
  | [] => b
  | x :: r => nums4 (num b 4 x.int) r
noncomputable def entLoop : LoopF := fun _ svs os k => match svs, os with
  | [.val (.int .i64) i, .val (.int .i64) n, .own o, .val (.sl false [.int .u8]) b], [.arr t xs] =>
    (o = 4222 ∧ t = intT ∧ b = .l b.list ∧ n.int = (xs.length : Int) ∧ n.int ≤ 3 ∧ 0 ≤ i.int ∧ i.int ≤ n.int ∧ (b.list.length : Int) ≤ 100 + 8 * i.int) ∧
    k (.exit 0) ⟨[(6, .val (.sl false [.int .u8]) (.l (nums4 b.list (xs.drop i.int.toNat))))], []⟩
  | _, _ => False
noncomputable def entC : Ctx := mkC PR eqs0 (fnsConsP 49 putP putS (fnsCons 65 mayS fnsNil)) trsNil
  (loopCons 0 [34, 33, 32, 6] [4222] entLoop noLoops) (outCons 0 [6] [] noOut) noOut
theorem ent_round (pan : KP) (μ : Mu) (N : Nat) (k : KE) (i n b : U) (xs : List U) : (exec (entC.panics pan) (loopBody Try.f70 0) 0 ⟨[(34, vi i), (33, vi n), (32, .own 4222), (6, vl (.int .u8) b)], [(4222, .arr intT xs)]⟩ (again PR (some ([6], [])) none pan [34, 33, 32, 6] [4222] entLoop μ N k)) = (bif decide (i.int < n.int) then bif decide ((0 : Int) ≤ i.int ∧ i.int < (xs.length : Int)) then bif Nat.beq ((0 : Nat) + (1 : Nat)) ((0 : Nat) + (1 : Nat)) && Nat.blt (Int.toNat i.int) (List.length xs) then putP [[b], [U.i (4 : Int)], [U.b false], [U.i (IntKind.wrap .u64 (U.int (nth (U.i (0 : Int)) xs (Int.toNat i.int))))]] ∧ bif Nat.blt (μ [.val (.int IntKind.i64) (U.i (IntKind.wrap .i64 (i.int + (1 : Int)))), .val (.int IntKind.i64) n, .own (nat_lit 4222), .val (.sl false [.int .u8]) (U.l (putX b.list (4 : Int) false (IntKind.wrap .u64 (U.int (nth (U.i (0 : Int)) xs (Int.toNat i.int))))))] [.arr (nat_lit 3) xs]) N then (nat_lit 4222 = nat_lit 4222 ∧ nat_lit 3 = nat_lit 3 ∧ U.l (putX b.list (4 : Int) false (IntKind.wrap .u64 (U.int (nth (U.i (0 : Int)) xs (Int.toNat i.int))))) = U.l (putX b.list (4 : Int) false (IntKind.wrap .u64 (U.int (nth (U.i (0 : Int)) xs (Int.toNat i.int))))) ∧ n.int = (xs.length : Int) ∧ n.int ≤ (3 : Int) ∧ (0 : Int) ≤ IntKind.wrap .i64 (i.int + (1 : Int)) ∧ IntKind.wrap .i64 (i.int + (1 : Int)) ≤ n.int ∧ (↑(List.length (putX b.list (4 : Int) false (IntKind.wrap .u64 (U.int (nth (U.i (0 : Int)) xs (Int.toNat i.int)))))) : Int) ≤ (100 : Int) + (8 : Int) * IntKind.wrap .i64 (i.int + (1 : Int))) ∧ k (Ex.exit (nat_lit 0)) (St.mk [(nat_lit 6, .val (.sl false [.int .u8]) (U.l (nums4 (putX b.list (4 : Int) false (IntKind.wrap .u64 (U.int (nth (U.i (0 : Int)) xs (Int.toNat i.int))))) (List.drop (Int.toNat (IntKind.wrap .i64 (i.int + (1 : Int)))) xs))))] []) else False else False else False else k (Ex.exit (nat_lit 0)) (St.mk [(nat_lit 6, .val (.sl false [.int .u8]) b)] [])) := by kernel_rfl
theorem ent_tree (R : RF) (a b c d e k : U) : (run entC Try.f70 [[a, b, c, d, e], [k]] R) = (bif !mayR a.int b.int c.int d.int e.int k.int then R [[U.l []], [U.i (1 : Int)]] else putP [[U.l (List.set (List.set (List.replicate (2 : Nat) (U.i (0 : Int))) (0 : Nat) (U.i (IntKind.wrap .u8 a.int))) (1 : Nat) (U.i (0 : Int)))], [U.i (2 : Int)], [U.b false], [U.i (IntKind.wrap .u64 c.int)]] ∧ (nat_lit 4222 = nat_lit 4222 ∧ nat_lit 3 = nat_lit 3 ∧ U.l (putX (List.set (List.set (List.replicate (2 : Nat) (U.i (0 : Int))) (0 : Nat) (U.i (IntKind.wrap .u8 a.int))) (1 : Nat) (U.i (0 : Int))) (2 : Int) false (IntKind.wrap .u64 c.int)) = U.l (putX (List.set (List.set (List.replicate (2 : Nat) (U.i (0 : Int))) (0 : Nat) (U.i (IntKind.wrap .u8 a.int))) (1 : Nat) (U.i (0 : Int))) (2 : Int) false (IntKind.wrap .u64 c.int)) ∧ (↑(List.length (List.set (List.set (List.set (List.replicate (3 : Nat) (U.i (0 : Int))) (0 : Nat) b) (1 : Nat) d) (2 : Nat) (U.i (IntKind.wrap .i64 e.int)))) : Int) = (↑(List.length (List.set (List.set (List.set (List.replicate (3 : Nat) (U.i (0 : Int))) (0 : Nat) b) (1 : Nat) d) (2 : Nat) (U.i (IntKind.wrap .i64 e.int)))) : Int) ∧ (↑(List.length (List.set (List.set (List.set (List.replicate (3 : Nat) (U.i (0 : Int))) (0 : Nat) b) (1 : Nat) d) (2 : Nat) (U.i (IntKind.wrap .i64 e.int)))) : Int) ≤ (3 : Int) ∧ (0 : Int) ≤ (0 : Int) ∧ (0 : Int) ≤ (↑(List.length (List.set (List.set (List.set (List.replicate (3 : Nat) (U.i (0 : Int))) (0 : Nat) b) (1 : Nat) d) (2 : Nat) (U.i (IntKind.wrap .i64 e.int)))) : Int) ∧ (↑(List.length (putX (List.set (List.set (List.replicate (2 : Nat) (U.i (0 : Int))) (0 : Nat) (U.i (IntKind.wrap .u8 a.int))) (1 : Nat) (U.i (0 : Int))) (2 : Int) false (IntKind.wrap .u64 c.int))) : Int) ≤ (100 : Int) + (8 : Int) * (0 : Int)) ∧ R [[U.l (nums4 (putX (List.set (List.set (List.replicate (2 : Nat) (U.i (0 : Int))) (0 : Nat) (U.i (IntKind.wrap .u8 a.int))) (1 : Nat) (U.i (0 : Int))) (2 : Int) false (IntKind.wrap .u64 c.int)) (List.drop (Int.toNat (0 : Int)) (List.set (List.set (List.set (List.replicate (3 : Nat) (U.i (0 : Int))) (0 : Nat) b) (1 : Nat) d) (2 : Nat) (U.i (IntKind.wrap .i64 e.int)))))], [U.i (0 : Int)]]) := by kernel_rfl
end Go.Mat

namespace Go.Mat
open Go Go.Den Go.Proofs
theorem putFrom_len (g : Bool) (m v : Int) : ∀ (n : Nat) (i : Int), (putFrom g m v i n).length = n
  | 0, _ => rfl
  | n + 1, i => by rw [putFrom, List.length_cons, putFrom_len g m v n]
theorem putX_len (b : List U) (n : Int) (g : Bool) (v : Int) : (putX b n g v).length ≤ b.length + n.toNat := by
  rw [putX]
  split
  · rw [List.length_append, putFrom_len]; omega
  · simp
theorem num_len (b : List U) (n v : Int) : (num b n v).length ≤ b.length + n.toNat := putX_len ..
theorem ent_loop : LoopOk entC 0 (loopBody Try.f70 0) := by
  refine loopOk_of (F := entLoop) (ts := [34, 33, 32, 6]) (os := [4222]) rfl (fun svs _ => match svs with | .val _ i :: .val _ m :: _ => (m.int - i.int).toNat | _ => 0) ?_
  intro pan svs os k ho1 ho2 h
  unfold entLoop at h
  split at h
  · rename_i i n o b t xs
    obtain ⟨⟨rfl, rfl, hb, hn, hn3, h0, hi, hl⟩, hk⟩ := h
    refine .eq (ent_round pan _ _ k i n b xs) ?_
    refine bd (fun hlt => dt ⟨h0, by omega⟩ (bt (by simp [Nat.blt_eq]; omega) ?_)) (fun hlt => ?_)
    · rw [drop_at (by omega), nums4] at hk
      have hw : IntKind.wrap .i64 (i.int + 1) = i.int + 1 := i64_in (by omega) (by omega)
      have hc : (i.int + 1).toNat = i.int.toNat + 1 := by omega
      have hlt' : (n.int - (i.int + 1)).toNat < (n.int - i.int).toNat := by omega
      simp only [U.at, num] at hk
      simp only [hw, hc]
      have hlen := putX_len b.list 4 false (IntKind.wrap .u64 (nth (U.i 0) xs i.int.toNat).int)
      refine ⟨by show b.list.length ≤ 536870912; omega, blt hlt' ⟨⟨by trivial, by trivial, by trivial, hn, hn3, by omega, by omega, by rw [show ((4 : Int).toNat) = 4 from rfl] at hlen; show ((putX b.list 4 false (IntKind.wrap .u64 (nth (U.i 0) xs i.int.toNat).int)).length : Int) ≤ _; omega⟩, hk⟩⟩
    · rw [List.drop_of_length_le (by omega), nums4, ← hb] at hk
      exact hk
  · exact h.elim
theorem ent_ok : SpecF PR 70 entS := fun fn us hfn => by
  have hf : PR.funcs[(70 : Nat)]? = some Try.f70 := by kernel_rfl
  rw [hf] at hfn; cases hfn
  refine fn_okH (C := entC) (mkC_ok eqs0_ok mixed_ok (.consP putp_ok (.cons may_ok .nil)) .nil) hf (by kernel_rfl) (loops_one (by kernel_rfl) ent_loop) fun hok => ?_
  have hp : Try.f70.params.toList = [54, 3] := by kernel_rfl
  rw [hp] at hok
  obtain ⟨a, b, c, d, e, k, hus⟩ : ∃ a b c d e k, us = [[a, b, c, d, e], [k]] := by
    obtain ⟨u, u2, rfl, h1, h2⟩ := shape2 (by kernel_rfl : Cs PR 54 = some (true, [.int .i64, .int .i64, .int .i64, .int .i64, .int .u32])) (by kernel_rfl : Cs PR 3 = some (false, [.int .i64])) hok.1
    obtain ⟨a, b, c, d, e, rfl⟩ := len5 h1
    obtain ⟨k, rfl⟩ := len1 h2
    exact ⟨a, b, c, d, e, k, rfl⟩
  subst hus
  refine .eq (ent_tree _ _ _ _ _ _ _) ?_
  unfold entS
  simp only [nth_zero, nth_succ]
  refine bi (fun h => by rw [nt h]; rfl) (fun h => ?_)
  rw [nf h]
  have l1 := putX_len [.i (IntKind.wrap .u8 a.int), .i 0] 2 false (IntKind.wrap .u64 c.int)
  simp only [Int.reduceToNat, List.length_cons, List.length_nil] at l1
  refine ⟨?_, ⟨by trivial, by trivial, by trivial, by trivial, by simp, by trivial, by simp, ?_⟩, rfl⟩
  · show List.length [U.i (IntKind.wrap .u8 a.int), U.i 0] ≤ 536870912
    simp
  · show ((putX [.i (IntKind.wrap .u8 a.int), .i 0] 2 false (IntKind.wrap .u64 c.int)).length : Int) ≤ 100 + 8 * 0
    omega
end Go.Mat

namespace Go.Mat
open Go Go.Den Go.Proofs
def entX (k : Int) (x : U) : List U := bif mayR (e0 x).int (e1 x).int (e2 x).int (e3 x).int (e4 x).int k then entB (e0 x).int (e1 x).int (e2 x).int (e3 x).int (e4 x).int else []
def leafB (k : Int) : List U → List U
  | [] => []
  | x :: r => entX k x ++ leafB k r
def leavesB (k : Int) : Int → List U → List U
  | _, [] => []
  | i, l :: r => (bif decide (l.list = []) then [] else num [] 2 i ++ leafB k l.list) ++ leavesB k (i + 1) r
def countB : List U → Int
  | [] => 0
  | l :: r => (bif decide (l.list = []) then 0 else 1) + countB r
def tputB (L : List U) (k : Int) : List U := num [] 2 (countB L) ++ leavesB k 0 L
def tputP : List (List U) → Prop := fun us => (nth (.i 0) (nth [] us 0) 0).list.length ≤ 1099511627776
def tputS : List (List U) → List (List U) := fun us => [[.l (bif tableR (nth (.i 0) (nth [] us 0) 0).list 4096 (nth (.i 0) (nth [] us 1) 0).int then tputB (nth (.i 0) (nth [] us 0) 0).list (nth (.i 0) (nth [] us 1) 0).int else [])], [.i (bif tableR (nth (.i 0) (nth [] us 0) 0).list 4096 (nth (.i 0) (nth [] us 1) 0).int then 0 else 1)]]
noncomputable def tputLoop2 : LoopF := fun _ svs os k => match svs with
  | .val (.int .i64) i :: .val (.int .i64) n :: .val (.sl true ec) l :: .own o :: rest => match rest, os with
    | [.val (.int .i64) kk, .val (.int .i64) j, .val (.int .i64) m, .val (.sl false [.sl true ec2]) L, .val (.int .i64) cnt], [.arr t xs] =>
      (ec = EC ∧ ec2 = EC ∧ o = 1020 ∧ t = u8T ∧ n.int = (l.list.length : Int) ∧ 0 ≤ i.int ∧ i.int ≤ n.int ∧ (xs.length : Int) + 16 * (n.int - i.int) ≤ 536870912) ∧
      k (.exit 2) ⟨[(7, .own 1020), (1, vi kk), (25, vi j), (24, vi m), (23, vl (.sl true EC) L), (6, vi cnt)], [(1020, .arr u8T (xs ++ leafB kk.int (l.list.drop i.int.toNat)))]⟩
    | _, _ => False
  | _ => False
noncomputable def tputLoop0 : LoopF := fun _ svs os k => match svs, os with
  | [.val (.int .i64) j, .val (.int .i64) m, .val (.sl false [.sl true ec]) L, .val (.int .i64) cnt, .own o, .val (.int .i64) kk], [.arr t xs] =>
    (ec = EC ∧ o = 1020 ∧ t = u8T ∧ cnt = .i cnt.int ∧ m.int = (L.list.length : Int) ∧ m.int ≤ 4096 ∧ 0 ≤ j.int ∧ j.int ≤ m.int ∧ 0 ≤ cnt.int ∧ cnt.int ≤ j.int ∧ (∀ l ∈ L.list, l.list.length ≤ 8) ∧ (xs.length : Int) + 200 * (m.int - j.int) ≤ 536870912) ∧
    k (.exit 0) ⟨[(6, vi (.i (cnt.int + countB (L.list.drop j.int.toNat)))), (7, .own 1020)], [(1020, .arr u8T (xs ++ leavesB kk.int j.int (L.list.drop j.int.toNat)))]⟩
  | _, _ => False
noncomputable def tputC : Ctx := mkC PR eqs0 (fnsCons 70 entS (fnsCons 46 tableS fnsNil)) (trsCons 49 [false, false, false, false] putF trsNil)
  (loopCons 2 [46, 45, 44, 7, 1, 25, 24, 23, 6] [1020] tputLoop2 (loopCons 0 [25, 24, 23, 6, 7, 1] [1020] tputLoop0 noLoops)) (outCons 2 [7, 1, 25, 24, 23, 6] [1020] (outCons 0 [6, 7] [1020] noOut)) noOut
theorem tput_round2 (pan : KP) (μ : Mu) (N : Nat) (k : KE) (i n l kk j m L cnt : U) (xs : List U) : (exec (tputC.panics pan) (loopBody Try.f51 1) 2 ⟨[(46, vi i), (45, vi n), (44, vt EC l), (7, .own 1020), (1, vi kk), (25, vi j), (24, vi m), (23, vl (.sl true EC) L), (6, vi cnt)], [(1020, .arr u8T xs)]⟩ (again PR (some ([7, 1, 25, 24, 23, 6], [1020])) none pan [46, 45, 44, 7, 1, 25, 24, 23, 6] [1020] tputLoop2 μ N k)) = (bif decide (i.int < n.int) then bif decide ((0 : Int) ≤ i.int ∧ i.int < (l.list.length : Int)) then bif decide (List.length xs + List.length (bif mayR (U.int (nth (U.i (0 : Int)) (U.list (nth (U.i (0 : Int)) l.list (Int.toNat i.int))) (0 : Nat))) (U.int (nth (U.i (0 : Int)) (List.tail (U.list (nth (U.i (0 : Int)) l.list (Int.toNat i.int)))) (0 : Nat))) (U.int (nth (U.i (0 : Int)) (List.tail (List.tail (U.list (nth (U.i (0 : Int)) l.list (Int.toNat i.int))))) (0 : Nat))) (U.int (nth (U.i (0 : Int)) (List.tail (List.tail (List.tail (U.list (nth (U.i (0 : Int)) l.list (Int.toNat i.int)))))) (0 : Nat))) (U.int (nth (U.i (0 : Int)) (List.tail (List.tail (List.tail (List.tail (U.list (nth (U.i (0 : Int)) l.list (Int.toNat i.int))))))) (0 : Nat))) kk.int then entB (U.int (nth (U.i (0 : Int)) (U.list (nth (U.i (0 : Int)) l.list (Int.toNat i.int))) (0 : Nat))) (U.int (nth (U.i (0 : Int)) (List.tail (U.list (nth (U.i (0 : Int)) l.list (Int.toNat i.int)))) (0 : Nat))) (U.int (nth (U.i (0 : Int)) (List.tail (List.tail (U.list (nth (U.i (0 : Int)) l.list (Int.toNat i.int))))) (0 : Nat))) (U.int (nth (U.i (0 : Int)) (List.tail (List.tail (List.tail (U.list (nth (U.i (0 : Int)) l.list (Int.toNat i.int)))))) (0 : Nat))) (U.int (nth (U.i (0 : Int)) (List.tail (List.tail (List.tail (List.tail (U.list (nth (U.i (0 : Int)) l.list (Int.toNat i.int))))))) (0 : Nat))) else []) ≤ room) && !oddB (1020 : Nat) then bif Nat.blt (μ [.val (.int IntKind.i64) (U.i (IntKind.wrap .i64 (i.int + (1 : Int)))), .val (.int IntKind.i64) n, .val (.sl true [Ct.int IntKind.i64, Ct.int IntKind.i64, Ct.int IntKind.i64, Ct.int IntKind.i64, Ct.int IntKind.u32]) l, SV.own (nat_lit 1020), SV.val (Ct.int IntKind.i64) kk, SV.val (Ct.int IntKind.i64) j, SV.val (Ct.int IntKind.i64) m, SV.val (Ct.sl false [Ct.sl true [Ct.int IntKind.i64, Ct.int IntKind.i64, Ct.int IntKind.i64, Ct.int IntKind.i64, Ct.int IntKind.u32]]) L, SV.val (Ct.int IntKind.i64) cnt] [Obj.arr (nat_lit 5) (xs ++ bif mayR (U.int (nth (U.i (0 : Int)) (U.list (nth (U.i (0 : Int)) l.list (Int.toNat i.int))) (0 : Nat))) (U.int (nth (U.i (0 : Int)) (List.tail (U.list (nth (U.i (0 : Int)) l.list (Int.toNat i.int)))) (0 : Nat))) (U.int (nth (U.i (0 : Int)) (List.tail (List.tail (U.list (nth (U.i (0 : Int)) l.list (Int.toNat i.int))))) (0 : Nat))) (U.int (nth (U.i (0 : Int)) (List.tail (List.tail (List.tail (U.list (nth (U.i (0 : Int)) l.list (Int.toNat i.int)))))) (0 : Nat))) (U.int (nth (U.i (0 : Int)) (List.tail (List.tail (List.tail (List.tail (U.list (nth (U.i (0 : Int)) l.list (Int.toNat i.int))))))) (0 : Nat))) kk.int then entB (U.int (nth (U.i (0 : Int)) (U.list (nth (U.i (0 : Int)) l.list (Int.toNat i.int))) (0 : Nat))) (U.int (nth (U.i (0 : Int)) (List.tail (U.list (nth (U.i (0 : Int)) l.list (Int.toNat i.int)))) (0 : Nat))) (U.int (nth (U.i (0 : Int)) (List.tail (List.tail (U.list (nth (U.i (0 : Int)) l.list (Int.toNat i.int))))) (0 : Nat))) (U.int (nth (U.i (0 : Int)) (List.tail (List.tail (List.tail (U.list (nth (U.i (0 : Int)) l.list (Int.toNat i.int)))))) (0 : Nat))) (U.int (nth (U.i (0 : Int)) (List.tail (List.tail (List.tail (List.tail (U.list (nth (U.i (0 : Int)) l.list (Int.toNat i.int))))))) (0 : Nat))) else [])]) N then ([Ct.int IntKind.i64, Ct.int IntKind.i64, Ct.int IntKind.i64, Ct.int IntKind.i64, Ct.int IntKind.u32] = [.int .i64, .int .i64, .int .i64, .int .i64, .int .u32] ∧ [Ct.int IntKind.i64, Ct.int IntKind.i64, Ct.int IntKind.i64, Ct.int IntKind.i64, Ct.int IntKind.u32] = [.int .i64, .int .i64, .int .i64, .int .i64, .int .u32] ∧ nat_lit 1020 = nat_lit 1020 ∧ nat_lit 5 = nat_lit 5 ∧ n.int = (l.list.length : Int) ∧ (0 : Int) ≤ IntKind.wrap .i64 (i.int + (1 : Int)) ∧ IntKind.wrap .i64 (i.int + (1 : Int)) ≤ n.int ∧ (↑(List.length (xs ++ bif mayR (U.int (nth (U.i (0 : Int)) (U.list (nth (U.i (0 : Int)) l.list (Int.toNat i.int))) (0 : Nat))) (U.int (nth (U.i (0 : Int)) (List.tail (U.list (nth (U.i (0 : Int)) l.list (Int.toNat i.int)))) (0 : Nat))) (U.int (nth (U.i (0 : Int)) (List.tail (List.tail (U.list (nth (U.i (0 : Int)) l.list (Int.toNat i.int))))) (0 : Nat))) (U.int (nth (U.i (0 : Int)) (List.tail (List.tail (List.tail (U.list (nth (U.i (0 : Int)) l.list (Int.toNat i.int)))))) (0 : Nat))) (U.int (nth (U.i (0 : Int)) (List.tail (List.tail (List.tail (List.tail (U.list (nth (U.i (0 : Int)) l.list (Int.toNat i.int))))))) (0 : Nat))) kk.int then entB (U.int (nth (U.i (0 : Int)) (U.list (nth (U.i (0 : Int)) l.list (Int.toNat i.int))) (0 : Nat))) (U.int (nth (U.i (0 : Int)) (List.tail (U.list (nth (U.i (0 : Int)) l.list (Int.toNat i.int)))) (0 : Nat))) (U.int (nth (U.i (0 : Int)) (List.tail (List.tail (U.list (nth (U.i (0 : Int)) l.list (Int.toNat i.int))))) (0 : Nat))) (U.int (nth (U.i (0 : Int)) (List.tail (List.tail (List.tail (U.list (nth (U.i (0 : Int)) l.list (Int.toNat i.int)))))) (0 : Nat))) (U.int (nth (U.i (0 : Int)) (List.tail (List.tail (List.tail (List.tail (U.list (nth (U.i (0 : Int)) l.list (Int.toNat i.int))))))) (0 : Nat))) else [])) : Int) + (16 : Int) * (n.int - IntKind.wrap .i64 (i.int + (1 : Int))) ≤ (536870912 : Int)) ∧ k (Ex.exit (nat_lit 2)) (St.mk [(nat_lit 7, .own (nat_lit 1020)), (nat_lit 1, .val (.int IntKind.i64) kk), (nat_lit 25, .val (.int IntKind.i64) j), (nat_lit 24, .val (.int IntKind.i64) m), (nat_lit 23, .val (.sl false [.sl true [.int .i64, .int .i64, .int .i64, .int .i64, .int .u32]]) L), (nat_lit 6, .val (.int IntKind.i64) cnt)] [(nat_lit 1020, .arr (nat_lit 5) ((xs ++ bif mayR (U.int (nth (U.i (0 : Int)) (U.list (nth (U.i (0 : Int)) l.list (Int.toNat i.int))) (0 : Nat))) (U.int (nth (U.i (0 : Int)) (List.tail (U.list (nth (U.i (0 : Int)) l.list (Int.toNat i.int)))) (0 : Nat))) (U.int (nth (U.i (0 : Int)) (List.tail (List.tail (U.list (nth (U.i (0 : Int)) l.list (Int.toNat i.int))))) (0 : Nat))) (U.int (nth (U.i (0 : Int)) (List.tail (List.tail (List.tail (U.list (nth (U.i (0 : Int)) l.list (Int.toNat i.int)))))) (0 : Nat))) (U.int (nth (U.i (0 : Int)) (List.tail (List.tail (List.tail (List.tail (U.list (nth (U.i (0 : Int)) l.list (Int.toNat i.int))))))) (0 : Nat))) kk.int then entB (U.int (nth (U.i (0 : Int)) (U.list (nth (U.i (0 : Int)) l.list (Int.toNat i.int))) (0 : Nat))) (U.int (nth (U.i (0 : Int)) (List.tail (U.list (nth (U.i (0 : Int)) l.list (Int.toNat i.int)))) (0 : Nat))) (U.int (nth (U.i (0 : Int)) (List.tail (List.tail (U.list (nth (U.i (0 : Int)) l.list (Int.toNat i.int))))) (0 : Nat))) (U.int (nth (U.i (0 : Int)) (List.tail (List.tail (List.tail (U.list (nth (U.i (0 : Int)) l.list (Int.toNat i.int)))))) (0 : Nat))) (U.int (nth (U.i (0 : Int)) (List.tail (List.tail (List.tail (List.tail (U.list (nth (U.i (0 : Int)) l.list (Int.toNat i.int))))))) (0 : Nat))) else []) ++ leafB kk.int (List.drop (Int.toNat (IntKind.wrap .i64 (i.int + (1 : Int)))) l.list)))]) else False else False else False else k (Ex.exit (nat_lit 2)) (St.mk [(nat_lit 7, .own (nat_lit 1020)), (nat_lit 1, .val (.int IntKind.i64) kk), (nat_lit 25, .val (.int IntKind.i64) j), (nat_lit 24, .val (.int IntKind.i64) m), (nat_lit 23, .val (.sl false [.sl true [.int .i64, .int .i64, .int .i64, .int .i64, .int .u32]]) L), (nat_lit 6, .val (.int IntKind.i64) cnt)] [(nat_lit 1020, .arr (nat_lit 5) xs)])) := by kernel_rfl
theorem tput_round0 (pan : KP) (μ : Mu) (N : Nat) (k : KE) (j m L cnt kk : U) (xs : List U) : (exec (tputC.panics pan) (loopBody Try.f51 0) 0 ⟨[(25, vi j), (24, vi m), (23, vl (.sl true EC) L), (6, vi cnt), (7, .own 1020), (1, vi kk)], [(1020, .arr u8T xs)]⟩ (again PR (some ([6, 7], [1020])) none pan [25, 24, 23, 6, 7, 1] [1020] tputLoop0 μ N k)) = (bif decide (j.int < m.int) then bif decide ((0 : Int) ≤ j.int ∧ j.int < (L.list.length : Int)) then bif (↑(List.length (U.list (nth (U.i (0 : Int)) L.list (Int.toNat j.int)))) : Int) == (0 : Int) then bif Nat.blt (μ [.val (.int IntKind.i64) (U.i (IntKind.wrap .i64 (j.int + (1 : Int)))), .val (.int IntKind.i64) m, .val (.sl false [Ct.sl true [Ct.int IntKind.i64, Ct.int IntKind.i64, Ct.int IntKind.i64, Ct.int IntKind.i64, Ct.int IntKind.u32]]) L, SV.val (Ct.int IntKind.i64) cnt, SV.own (nat_lit 1020), SV.val (Ct.int IntKind.i64) kk] [Obj.arr (nat_lit 5) xs]) N then ([Ct.int IntKind.i64, Ct.int IntKind.i64, Ct.int IntKind.i64, Ct.int IntKind.i64, Ct.int IntKind.u32] = [.int .i64, .int .i64, .int .i64, .int .i64, .int .u32] ∧ nat_lit 1020 = nat_lit 1020 ∧ nat_lit 5 = nat_lit 5 ∧ cnt = U.i cnt.int ∧ m.int = (L.list.length : Int) ∧ m.int ≤ (4096 : Int) ∧ (0 : Int) ≤ IntKind.wrap .i64 (j.int + (1 : Int)) ∧ IntKind.wrap .i64 (j.int + (1 : Int)) ≤ m.int ∧ (0 : Int) ≤ cnt.int ∧ cnt.int ≤ IntKind.wrap .i64 (j.int + (1 : Int)) ∧ (∀ (l : U), l ∈ L.list → l.list.length ≤ (8 : Nat)) ∧ (xs.length : Int) + (200 : Int) * (m.int - IntKind.wrap .i64 (j.int + (1 : Int))) ≤ (536870912 : Int)) ∧ k (Ex.exit (nat_lit 0)) (St.mk [(nat_lit 6, .val (.int IntKind.i64) (U.i (cnt.int + countB (List.drop (Int.toNat (IntKind.wrap .i64 (j.int + (1 : Int)))) L.list)))), (nat_lit 7, .own (nat_lit 1020))] [(nat_lit 1020, .arr (nat_lit 5) (xs ++ leavesB kk.int (IntKind.wrap .i64 (j.int + (1 : Int))) (List.drop (Int.toNat (IntKind.wrap .i64 (j.int + (1 : Int)))) L.list)))]) else False else (0 : Nat) ≤ (536870912 : Nat) ∧ bif decide (List.length xs + List.length (putX [] (2 : Int) false (IntKind.wrap .u64 j.int)) ≤ room) && !oddB ((1019 : Nat) + (1 : Nat)) then ([Ct.int IntKind.i64, Ct.int IntKind.i64, Ct.int IntKind.i64, Ct.int IntKind.i64, Ct.int IntKind.u32] = [.int .i64, .int .i64, .int .i64, .int .i64, .int .u32] ∧ [Ct.int IntKind.i64, Ct.int IntKind.i64, Ct.int IntKind.i64, Ct.int IntKind.i64, Ct.int IntKind.u32] = [.int .i64, .int .i64, .int .i64, .int .i64, .int .u32] ∧ nat_lit 1020 = nat_lit 1020 ∧ nat_lit 5 = nat_lit 5 ∧ (↑(List.length (U.list (nth (U.i (0 : Int)) L.list (Int.toNat j.int)))) : Int) = (↑(List.length (U.list (nth (U.i (0 : Int)) L.list (Int.toNat j.int)))) : Int) ∧ (0 : Int) ≤ (0 : Int) ∧ (0 : Int) ≤ (↑(List.length (U.list (nth (U.i (0 : Int)) L.list (Int.toNat j.int)))) : Int) ∧ (↑(List.length (xs ++ putX [] (2 : Int) false (IntKind.wrap .u64 j.int))) : Int) + (16 : Int) * ((↑(List.length (U.list (nth (U.i (0 : Int)) L.list (Int.toNat j.int)))) : Int) - (0 : Int)) ≤ (536870912 : Int)) ∧ bif Nat.blt (μ [.val (.int IntKind.i64) (U.i (IntKind.wrap .i64 (j.int + (1 : Int)))), .val (.int IntKind.i64) m, .val (.sl false [Ct.sl true [Ct.int IntKind.i64, Ct.int IntKind.i64, Ct.int IntKind.i64, Ct.int IntKind.i64, Ct.int IntKind.u32]]) L, SV.val (Ct.int IntKind.i64) (U.i (IntKind.wrap .i64 (cnt.int + (1 : Int)))), SV.own (nat_lit 1020), SV.val (Ct.int IntKind.i64) kk] [Obj.arr (nat_lit 5) (xs ++ putX [] (2 : Int) false (IntKind.wrap .u64 j.int) ++ leafB kk.int (List.drop (Int.toNat (0 : Int)) (U.list (nth (U.i (0 : Int)) L.list (Int.toNat j.int)))))]) N then ([Ct.int IntKind.i64, Ct.int IntKind.i64, Ct.int IntKind.i64, Ct.int IntKind.i64, Ct.int IntKind.u32] = [.int .i64, .int .i64, .int .i64, .int .i64, .int .u32] ∧ nat_lit 1020 = nat_lit 1020 ∧ nat_lit 5 = nat_lit 5 ∧ U.i (IntKind.wrap .i64 (cnt.int + (1 : Int))) = U.i (IntKind.wrap .i64 (cnt.int + (1 : Int))) ∧ m.int = (L.list.length : Int) ∧ m.int ≤ (4096 : Int) ∧ (0 : Int) ≤ IntKind.wrap .i64 (j.int + (1 : Int)) ∧ IntKind.wrap .i64 (j.int + (1 : Int)) ≤ m.int ∧ (0 : Int) ≤ IntKind.wrap .i64 (cnt.int + (1 : Int)) ∧ IntKind.wrap .i64 (cnt.int + (1 : Int)) ≤ IntKind.wrap .i64 (j.int + (1 : Int)) ∧ (∀ (l : U), l ∈ L.list → l.list.length ≤ (8 : Nat)) ∧ (↑(List.length (xs ++ putX [] (2 : Int) false (IntKind.wrap .u64 j.int) ++ leafB kk.int (List.drop (Int.toNat (0 : Int)) (U.list (nth (U.i (0 : Int)) L.list (Int.toNat j.int)))))) : Int) + (200 : Int) * (m.int - IntKind.wrap .i64 (j.int + (1 : Int))) ≤ (536870912 : Int)) ∧ k (Ex.exit (nat_lit 0)) (St.mk [(nat_lit 6, .val (.int IntKind.i64) (U.i (IntKind.wrap .i64 (cnt.int + (1 : Int)) + countB (List.drop (Int.toNat (IntKind.wrap .i64 (j.int + (1 : Int)))) L.list)))), (nat_lit 7, .own (nat_lit 1020))] [(nat_lit 1020, .arr (nat_lit 5) (xs ++ putX [] (2 : Int) false (IntKind.wrap .u64 j.int) ++ leafB kk.int (List.drop (Int.toNat (0 : Int)) (U.list (nth (U.i (0 : Int)) L.list (Int.toNat j.int)))) ++ leavesB kk.int (IntKind.wrap .i64 (j.int + (1 : Int))) (List.drop (Int.toNat (IntKind.wrap .i64 (j.int + (1 : Int)))) L.list)))]) else False else False else False else k (Ex.exit (nat_lit 0)) (St.mk [(nat_lit 6, .val (.int IntKind.i64) cnt), (nat_lit 7, .own (nat_lit 1020))] [(nat_lit 1020, .arr (nat_lit 5) xs)])) := by kernel_rfl
theorem tput_tree (R : RF) (L k : U) : (run tputC Try.f51 [[L], [k]] R) = (bif !tableR (U.list L) (4096 : Int) (U.int k) then R [[U.l []], [U.i (1 : Int)]] else ([Ct.int IntKind.i64, Ct.int IntKind.i64, Ct.int IntKind.i64, Ct.int IntKind.i64, Ct.int IntKind.u32] = [Ct.int IntKind.i64,
  Ct.int IntKind.i64, Ct.int IntKind.i64, Ct.int IntKind.i64, Ct.int IntKind.u32] ∧ nat_lit 1020 = nat_lit 1020 ∧ nat_lit 5 = nat_lit 5 ∧ U.i (0 : Int) = U.i (0 : Int) ∧ (↑(List.length (U.list L)) : Int)
  = (↑(List.length (U.list L)) : Int) ∧ (↑(List.length (U.list L)) : Int) ≤ (4096 : Int) ∧ (0 : Int) ≤ (0 : Int) ∧ (0 : Int) ≤ (↑(List.length (U.list L)) : Int) ∧ (0 : Int) ≤ (0 : Int) ∧ (0 : Int) ≤ (0 :
  Int) ∧ (∀ (l : U), l ∈ U.list L → List.length (U.list l) ≤ (8 : Nat)) ∧ (↑(0 : Nat) : Int) + (200 : Int) * ((↑(List.length (U.list L)) : Int) - (0 : Int)) ≤ (536870912 : Int)) ∧ (0 : Nat) ≤ (536870912
  : Nat) ∧ bif decide (List.length (putX [] (2 : Int) false (IntKind.wrap IntKind.u64 ((0 : Int) + countB (List.drop (Int.toNat (0 : Int)) (U.list L))))) + List.length ([] ++ leavesB (U.int k) (0 : Int)
  (List.drop (Int.toNat (0 : Int)) (U.list L))) ≤ room) && !oddB ((8207 : Nat) + (1 : Nat)) then R [[U.l (putX [] (2 : Int) false (IntKind.wrap IntKind.u64 ((0 : Int) + countB (List.drop (Int.toNat (0 :
  Int)) (U.list L)))) ++ ([] ++ leavesB (U.int k) (0 : Int) (List.drop (Int.toNat (0 : Int)) (U.list L))))], [U.i (0 : Int)]] else False) := by kernel_rfl
end Go.Mat

namespace Go.Mat
open Go Go.Den Go.Proofs
theorem entX_len (k : Int) (x : U) : (entX k x).length ≤ 16 := by
  unfold entX
  cases mayR (e0 x).int (e1 x).int (e2 x).int (e3 x).int (e4 x).int k with
  | false => simp
  | true =>
    simp only [cond_true, entB]
    have l1 := num_len [.i (IntKind.wrap .u8 (e0 x).int), .i 0] 2 (e2 x).int
    have l2 := num_len (num [.i (IntKind.wrap .u8 (e0 x).int), .i 0] 2 (e2 x).int) 4 (e1 x).int
    have l3 := num_len (num (num [.i (IntKind.wrap .u8 (e0 x).int), .i 0] 2 (e2 x).int) 4 (e1 x).int) 4 (e3 x).int
    have l4 := num_len (num (num (num [.i (IntKind.wrap .u8 (e0 x).int), .i 0] 2 (e2 x).int) 4 (e1 x).int) 4 (e3 x).int) 4 (IntKind.wrap .i64 (e4 x).int)
    simp only [Int.reduceToNat, List.length_cons, List.length_nil] at l1 l2 l3 l4
    omega
theorem leafB_len (k : Int) : ∀ l : List U, (leafB k l).length ≤ 16 * l.length
  | [] => by simp [leafB]
  | x :: r => by
    have h1 := entX_len k x
    have h2 := leafB_len k r
    rw [leafB, List.length_append, List.length_cons]; omega
theorem tput_loop2 : LoopOk tputC 2 (loopBody Try.f51 1) := by
  refine loopOk_of (F := tputLoop2) (ts := [46, 45, 44, 7, 1, 25, 24, 23, 6]) (os := [1020]) rfl (fun svs _ => match svs with | .val _ i :: .val _ m :: _ => (m.int - i.int).toNat | _ => 0) ?_
  intro pan svs os k ho1 ho2 h
  unfold tputLoop2 at h
  split at h
  · rename_i i n ec l o rest
    split at h
    · rename_i kk j m ec2 L cnt t xs
      obtain ⟨⟨rfl, rfl, rfl, rfl, hn, h0, hi, hx⟩, hk⟩ := h
      have hL : l.list.length ≤ maxLen := ho1.2.2.1.1
      refine .eq (tput_round2 pan _ _ k i n l kk j m L cnt xs) ?_
      refine bd (fun hlt => dt ⟨h0, by omega⟩ ?_) (fun hlt => ?_)
      · rw [drop_at (by omega), leafB, ← List.append_assoc] at hk
        have hl := entX_len kk.int (U.at l.list i.int.toNat)
        simp only [U.at, entX, e0, e1, e2, e3, e4] at hk hl
        have hw : IntKind.wrap .i64 (i.int + 1) = i.int + 1 := i64_in (by omega) (by unfold maxLen at hL; omega)
        have hc : (i.int + 1).toNat = i.int.toNat + 1 := by omega
        have hlt' : (n.int - (i.int + 1)).toNat < (n.int - i.int).toNat := by omega
        simp only [nth_tail, Nat.zero_add, Nat.reduceAdd, hw, hc]
        refine broom (by simp [room]; omega) rfl (blt hlt' ⟨⟨by trivial, by trivial, by trivial, by trivial, hn, by omega, by omega, by rw [List.length_append]; omega⟩, hk⟩)
      · rw [List.drop_of_length_le (by omega), leafB, List.append_nil] at hk
        exact hk
    · exact h.elim
  · exact h.elim
theorem tput_loop0 : LoopOk tputC 0 (loopBody Try.f51 0) := by
  refine loopOk_of (F := tputLoop0) (ts := [25, 24, 23, 6, 7, 1]) (os := [1020]) rfl (fun svs _ => match svs with | .val _ i :: .val _ m :: _ => (m.int - i.int).toNat | _ => 0) ?_
  intro pan svs os k ho1 ho2 h
  unfold tputLoop0 at h
  split at h
  · rename_i j m ec L cnt o kk t xs
    obtain ⟨⟨rfl, rfl, rfl, hcnt, hm, hm4, h0, hj, hc0, hcj, h8, hx⟩, hk⟩ := h
    refine .eq (tput_round0 pan _ _ k j m L cnt kk xs) ?_
    refine bd (fun hlt => dt ⟨h0, by omega⟩ ?_) (fun hlt => ?_)
    · have hl8 : (nth (U.i 0) L.list j.int.toNat).list.length ≤ 8 := by
        have hd : L.list.drop j.int.toNat = U.at L.list j.int.toNat :: _ := drop_at (by omega)
        exact h8 _ (List.mem_of_mem_drop (by rw [hd]; exact List.mem_cons_self ..))
      rw [drop_at (by omega), countB, leavesB] at hk
      have hw : IntKind.wrap .i64 (j.int + 1) = j.int + 1 := i64_in (by omega) (by omega)
      have hw2 : IntKind.wrap .i64 (cnt.int + 1) = cnt.int + 1 := i64_in (by omega) (by omega)
      have hc : (j.int + 1).toNat = j.int.toNat + 1 := by omega
      have hlt' : (m.int - (j.int + 1)).toNat < (m.int - j.int).toNat := by omega
      simp only [U.at] at hk
      simp only [hw, hw2, hc, Int.toNat_zero, List.drop_zero]
      refine bi (fun h1 => ?_) (fun h1 => ⟨by simp, ?_⟩)
      · have hl : (nth (U.i 0) L.list j.int.toNat).list = [] := by simpa using h1
        rw [decide_eq_true hl] at hk
        simp only [cond_true, Int.zero_add, List.nil_append] at hk
        exact blt hlt' ⟨⟨by trivial, by trivial, by trivial, hcnt, hm, hm4, by omega, by omega, hc0, by omega, h8, by omega⟩, hk⟩
      · have hl : ¬ (nth (U.i 0) L.list j.int.toNat).list = [] := by simpa using h1
        rw [decide_eq_false hl] at hk
        simp only [cond_false, ← Int.add_assoc, ← List.append_assoc] at hk
        have l1 := putX_len [] 2 false (IntKind.wrap .u64 j.int)
        have l2 := leafB_len kk.int (nth (U.i 0) L.list j.int.toNat).list
        simp only [Int.reduceToNat, List.length_nil] at l1
        refine broom (by simp [room]; omega) rfl ⟨⟨by trivial, by trivial, by trivial, by trivial, by trivial, by omega, by omega, by rw [List.length_append]; omega⟩, ?_⟩
        exact blt hlt' ⟨⟨by trivial, by trivial, by trivial, by trivial, hm, hm4, by omega, by omega, by omega, by omega, h8, by rw [List.length_append, List.length_append]; omega⟩, hk⟩
    · rw [List.drop_of_length_le (by omega), countB, leavesB, Int.add_zero, List.append_nil, ← hcnt] at hk
      exact hk
  · exact h.elim
theorem leaves8 {n c : Int} : ∀ {L : List U} {i : Int}, leavesR n c i L = true → ∀ l ∈ L, l.list.length ≤ 8
  | [], _, _, l, hl => by cases hl
  | x :: r, i, h, l, hl => by
    rw [leavesR] at h
    have key : x.list.length ≤ 8 ∧ leavesR n c (i + 1) r = true := by
      split at h
      · rename_i h0; exact ⟨by rw [h0.1]; simp, h⟩
      · rw [Bool.and_eq_true] at h
        have h1 := h.1
        unfold leafR at h1
        simp only [Bool.and_eq_true, decide_eq_true_eq] at h1
        exact ⟨by omega, h.2⟩
    rcases List.mem_cons.1 hl with rfl | hl
    · exact key.1
    · exact leaves8 key.2 l hl
theorem leavesB_len (k : Int) : ∀ (L : List U) (i : Int), (∀ l ∈ L, l.list.length ≤ 8) → (leavesB k i L).length ≤ 130 * L.length
  | [], _, _ => by simp [leavesB]
  | x :: r, i, h => by
    have h1 := leavesB_len k r (i + 1) (fun l hl => h l (List.mem_cons_of_mem _ hl))
    have h2 := leafB_len k x.list
    have h3 := num_len [] 2 i
    have h4 := h x (List.mem_cons_self ..)
    simp only [Int.reduceToNat, List.length_nil] at h3
    rw [leavesB, List.length_append, List.length_cons]
    cases decide (x.list = []) with
    | true => simp only [cond_true, List.length_nil]; omega
    | false => simp only [cond_false, List.length_append]; omega
theorem tableR_low {L : List U} {n c : Int} (hl : L.length ≤ 1099511627776) (h : tableR L n c = true) : L.length ≤ 512 ∧ (∀ l ∈ L, l.list.length ≤ 8) ∧ 0 ≤ n ∧ n ≤ 4096 ∧ 0 ≤ c ∧ c ≤ 6 := by
  unfold tableR at h
  split at h
  · cases h
  · rename_i hc
    refine ⟨?_, leaves8 h, by omega, by omega, by omega, by omega⟩
    by_cases h0 : L = []
    · subst h0; simp
    · have := leaves_low (by omega) L 0 (by omega) (by omega) h h0; omega
theorem tput_ok : SpecFP PR 51 tputP tputS := fun fn us hfn hpre => by
  have hf : PR.funcs[(51 : Nat)]? = some Try.f51 := by kernel_rfl
  rw [hf] at hfn; cases hfn
  refine fn_okH (C := tputC) (mkC_ok eqs0_ok mixed_ok (.cons ent_ok (.cons tab_ok .nil)) (.cons put_ok .nil)) hf (by kernel_rfl) (loops_two (by kernel_rfl) tput_loop0 tput_loop2) fun hok => ?_
  have hp : Try.f51.params.toList = [24, 3] := by kernel_rfl
  rw [hp] at hok
  obtain ⟨L, k, hus⟩ : ∃ L k, us = [[L], [k]] := by
    obtain ⟨u, u2, rfl, h1, h2⟩ := shape2 (by kernel_rfl : Cs PR 24 = some (true, [.sl false [.sl true [.int .i64, .int .i64, .int .i64, .int .i64, .int .u32]]])) (by kernel_rfl : Cs PR 3 = some (false, [.int .i64])) hok.1
    obtain ⟨L, rfl⟩ := len1 h1
    obtain ⟨k, rfl⟩ := len1 h2
    exact ⟨L, k, rfl⟩
  subst hus
  refine .eq (tput_tree _ _ _) ?_
  unfold tputP at hpre
  unfold tputS tputB
  simp only [nth_zero, nth_succ] at hpre ⊢
  refine bi (fun h => by rw [nt h]; rfl) (fun h => ?_)
  have h := nf h
  rw [h]
  obtain ⟨h1, h2, _⟩ := tableR_low hpre h
  have h3 := leavesB_len k.int L.list 0 h2
  have h4 := num_len [] 2 (countB L.list)
  simp only [Int.reduceToNat, List.length_nil] at h4
  simp only [List.drop_zero, Int.toNat_zero, Int.zero_add, List.nil_append]
  refine ⟨⟨by trivial, by trivial, by trivial, by trivial, by trivial, by omega, by trivial, by omega, by trivial, by trivial, h2, by omega⟩, by trivial, broom ?_ rfl (by trivial)⟩
  show (num [] 2 (countB L.list)).length + _ ≤ 1073741824
  omega
end Go.Mat

namespace Go.Mat
open Go Go.Den Go.Proofs
theorem putX_app {b : List U} {n v : Int} (h : putErr n v = 0) : putX b n false v = b ++ putX [] n false v := by
  unfold putX; rw [if_pos h, if_pos h]; simp
theorem num_app {b : List U} {n v : Int} (h : putErr n (IntKind.wrap .u64 v) = 0) : num b n v = b ++ num [] n v := putX_app h
theorem good1 {v : Int} (h0 : 0 ≤ v) (h : v ≤ 255) : putErr 1 (IntKind.wrap .u64 v) = 0 := by
  rw [u64_in h0 (by omega), putErr, if_neg (by omega), if_neg]
  intro h1
  have h2 := h1.2
  simp only [Int.reduceMul, Int.reduceToNat, Int.reducePow, ne_eq] at h2
  omega
theorem good2 {v : Int} (h0 : 0 ≤ v) (h : v ≤ 65535) : putErr 2 (IntKind.wrap .u64 v) = 0 := by
  rw [u64_in h0 (by omega), putErr, if_neg (by omega), if_neg]
  intro h1
  have h2 := h1.2
  simp only [Int.reduceMul, Int.reduceToNat, Int.reducePow, ne_eq] at h2
  omega
theorem good4 {v : Int} (h0 : 0 ≤ v) (h : v ≤ 4294967295) : putErr 4 (IntKind.wrap .u64 v) = 0 := by
  rw [u64_in h0 (by omega), putErr, if_neg (by omega), if_neg]
  intro h1
  have h2 := h1.2
  simp only [Int.reduceMul, Int.reduceToNat, Int.reducePow, ne_eq] at h2
  omega
end Go.Mat

namespace Go.Mat
open Go Go.Den Go.Proofs
noncomputable def addF : Tr := fun vs objs k => match vs, objs with
  | [.ptr p o, .val (.int .i64) d], [(i, .box [.val (.int .i64) x])] =>
    (p = 2097153 ∧ o = 0 ∧ i = 2097153) ∧ k (.ret [vi (.i (IntKind.wrap .i64 (x.int + d.int)))]) [(2097153, .box [vi (.i (IntKind.wrap .i64 (x.int + d.int)))])]
  | _, _ => False
noncomputable def loadF : Tr := fun vs objs k => match vs, objs with
  | [.ptr p o], [(i, .box [.val (.int .i64) x])] => (p = 2097153 ∧ o = 0 ∧ i = 2097153) ∧ k (.ret [vi x]) [(2097153, .box [vi x])]
  | _, _ => False
theorem add_tree (R : RT) (d x : U) : (runD (K0.withExt 78 .add) Try.f68 [.ptr 2097153 0, vi d] [(2097153, .box [vi x])] R) = (R (Out.ret [SV.val (Ct.int IntKind.i64) (U.i (IntKind.wrap IntKind.i64 (U.int x + U.int d)))]) [(nat_lit 2097153, Obj.box [SV.val (Ct.int IntKind.i64) (U.i (IntKind.wrap IntKind.i64 (U.int x + U.int d)))])]) := by kernel_rfl
theorem load_tree (R : RT) (x : U) : (runD (K0.withExt 79 .load) Try.f69 [.ptr 2097153 0] [(2097153, .box [vi x])] R) = (R (Out.ret [SV.val (Ct.int IntKind.i64) x]) [(nat_lit 2097153, Obj.box [SV.val (Ct.int IntKind.i64) x])]) := by kernel_rfl
def strU (s : ByteArray) : List U := s.data.toList.map fun b => .i (b.toNat : Int)
def longB (s : ByteArray) : Bool := decide ((s.size : Int) > 65535)
def textB (b : List U) (s : ByteArray) : List U := bif longB s then [] else num b 2 s.size ++ strU s
def textE (s : ByteArray) : Int := bif longB s then 2 else 0
def textP : List (List U) → Prop := fun us => (nth (.i 0) (nth [] us 0) 0).list.length ≤ 536870912
def textS : List (List U) → List (List U) := fun us => [[.l (textB (nth (.i 0) (nth [] us 0) 0).list (nth (.i 0) (nth [] us 1) 0).str)], [.i (textE (nth (.i 0) (nth [] us 1) 0).str)]]
noncomputable def textC : Ctx := mkC PR eqs0 fnsNil (trsCons 68 [false, false] addF (trsCons 69 [false] loadF (trsCons 49 [false, false, false, false] putF trsNil))) noLoops noOut noOut
theorem text_tree (R : RF) (b s : U) : (run textC Try.f50 [[b], [s]] R) = ((nat_lit 2097153 = nat_lit 2097153 ∧ nat_lit 0 = nat_lit 0 ∧ nat_lit 2097153 = nat_lit 2097153) ∧ (nat_lit 2097153 = nat_lit 2097153 ∧ nat_lit 0 = nat_lit 0 ∧ nat_lit 2097153 = nat_lit 2097153) ∧ bif decide
  (IntKind.wrap IntKind.i64 ((0 : Int) + (↑(ByteArray.size (U.str s)) : Int)) > (65535 : Int)) then R [[U.l []], [U.i (2 : Int)]] else (nat_lit 2097153 = nat_lit 2097153 ∧ nat_lit 0 = nat_lit 0 ∧ nat_lit
  2097153 = nat_lit 2097153) ∧ List.length (U.list b) ≤ (536870912 : Nat) ∧ bif decide (List.length (putX (U.list b) (2 : Int) false (IntKind.wrap IntKind.u64 (IntKind.wrap IntKind.i64 ((0 : Int) + (↑(ByteArray.size
  (U.str s)) : Int))))) + List.length (List.map (fun b => U.i (↑(UInt8.toNat b) : Int)) (Array.toList (ByteArray.data (U.str s)))) ≤ room) && !oddB ((2319 : Nat) + (1 : Nat)) then R [[U.l (putX (U.list b)
  (2 : Int) false (IntKind.wrap IntKind.u64 (IntKind.wrap IntKind.i64 ((0 : Int) + (↑(ByteArray.size (U.str s)) : Int)))) ++ List.map (fun b => U.i (↑(UInt8.toNat b) : Int)) (Array.toList (ByteArray.data
  (U.str s))))], [U.i (putErr (2 : Int) (IntKind.wrap IntKind.u64 (IntKind.wrap IntKind.i64 ((0 : Int) + (↑(ByteArray.size (U.str s)) : Int)))))]] else False) := by kernel_rfl
end Go.Mat

namespace Go.Mat
open Go Go.Den Go.Proofs
theorem run_add64 {x y : Int} {w : World} : (Op.intArith .add .i64 x y).run PR w = .ok (.int .i64 (IntKind.wrap .i64 (x + y))) w := rfl
theorem ext_load : ExtOk PR 79 .load := fun a x w h => by
  have hf : PR.funcs[(79 : Nat)]? = some Try.f79 := by kernel_rfl
  exact run_call_load hf (by kernel_rfl) (by kernel_rfl) (by kernel_rfl) .i64 (by kernel_rfl) h
theorem ext_add : ExtOk PR 78 .add := fun a x y w h hz => by
  have hf : PR.funcs[(78 : Nat)]? = some Try.f78 := by kernel_rfl
  exact run_call_add hf (by kernel_rfl) (by kernel_rfl) (by kernel_rfl) .i64 (by kernel_rfl) h hz run_add64
theorem add_ok : SpecT PR 68 addF := fun fn hfn => by
  have hf : PR.funcs[(68 : Nat)]? = some Try.f68 := by kernel_rfl
  rw [hf] at hfn; cases hfn
  refine fnT_okH (C := K0.withExt 78 .add) (Ctx.Ok.withExt (mkC_ok eqs0_ok mixed_ok .nil .nil) ext_add) hf (by kernel_rfl) (loops_none (by kernel_rfl)) fun vs objs R h1 h2 h => ?_
  unfold addF at h
  split at h
  · rename_i p o d i x
    obtain ⟨⟨rfl, rfl, rfl⟩, h⟩ := h
    refine .eq (add_tree R d x) ?_
    exact h
  · exact h.elim
theorem load_ok : SpecT PR 69 loadF := fun fn hfn => by
  have hf : PR.funcs[(69 : Nat)]? = some Try.f69 := by kernel_rfl
  rw [hf] at hfn; cases hfn
  refine fnT_okH (C := K0.withExt 79 .load) (Ctx.Ok.withExt (mkC_ok eqs0_ok mixed_ok .nil .nil) ext_load) hf (by kernel_rfl) (loops_none (by kernel_rfl)) fun vs objs R h1 h2 h => ?_
  unfold loadF at h
  split at h
  · rename_i p o i x
    obtain ⟨⟨rfl, rfl, rfl⟩, h⟩ := h
    refine .eq (load_tree R x) ?_
    exact h
  · exact h.elim
theorem text_ok : SpecFP PR 50 textP textS := fun fn us hfn hpre => by
  have hf : PR.funcs[(50 : Nat)]? = some Try.f50 := by kernel_rfl
  rw [hf] at hfn; cases hfn
  refine fn_okH (C := textC) (mkC_ok eqs0_ok mixed_ok .nil (.cons add_ok (.cons load_ok (.cons put_ok .nil)))) hf (by kernel_rfl) (loops_none (by kernel_rfl)) fun hok => ?_
  have hp : Try.f50.params.toList = [32, 9] := by kernel_rfl
  rw [hp] at hok
  obtain ⟨b, s, hus⟩ : ∃ b s, us = [[b], [s]] := by
    obtain ⟨u, u2, rfl, h1, h2⟩ := shape2 (by kernel_rfl : Cs PR 32 = some (false, [.sl false [.int .u8]])) (by kernel_rfl : Cs PR 9 = some (false, [.str])) hok.1
    obtain ⟨b, rfl⟩ := len1 h1
    obtain ⟨s, rfl⟩ := len1 h2
    exact ⟨b, s, rfl⟩
  subst hus
  refine .eq (text_tree _ _ _) ?_
  have hs : s.str.size ≤ maxLen := (hok.2 [vl (.int .u8) b, vs s] (by kernel_rfl)).2.1
  unfold maxLen at hs
  unfold textP at hpre
  unfold textS textB textE
  simp only [nth_zero, nth_succ] at hpre ⊢
  rw [i64_in (by omega) (by omega), Int.zero_add]
  refine ⟨⟨by trivial, by trivial, by trivial⟩, ⟨by trivial, by trivial, by trivial⟩, ?_⟩
  refine bi (fun h => by rw [show longB s.str = true from h]; rfl) (fun h => ?_)
  rw [show longB s.str = false from h]
  have h := of_decide_eq_false h
  have hg := good2 (v := s.str.size) (by omega) (by omega)
  have h4 := num_len b.list 2 s.str.size
  simp only [Int.reduceToNat] at h4
  have hl : (List.map (fun b : UInt8 => U.i (b.toNat : Int)) s.str.data.toList).length = s.str.size := by rw [List.length_map, str_len]
  refine ⟨⟨by trivial, by trivial, by trivial⟩, hpre, broom ?_ rfl ?_⟩
  · rw [hl]
    show (num b.list 2 s.str.size).length + _ ≤ 1073741824
    omega
  · rw [hg]; rfl
end Go.Mat

namespace Go.Mat
open Go Go.Den Go.Proofs
abbrev wIs (p o i q j : Nat) (t : TypeId) : Prop := p = 2097153 ∧ o = 0 ∧ i = 2097153 ∧ q = 2097280 ∧ j = 2097280 ∧ t = u8T
abbrev wObjs (xs : List U) : Objs := [(2097153, .box [.own 2097280]), (2097280, .arr u8T xs)]
noncomputable def wnumF : Tr := fun vs objs k => match vs, objs with
  | [.ptr p o, .val (.int .i64) n, .val (.int .i64) v], [(i, .box [.own q]), (j, .arr t xs)] =>
    (wIs p o i q j t ∧ n.int ≤ 8 ∧ xs.length ≤ 800000000) ∧ k (.ret []) (wObjs (xs ++ num [] n.int v.int))
  | _, _ => False
noncomputable def wtextF : Tr := fun vs objs k => match vs, objs with
  | [.ptr p o, .val .str s], [(i, .box [.own q]), (j, .arr t xs)] =>
    (wIs p o i q j t ∧ xs.length ≤ 800000000) ∧ k (.ret []) (wObjs (xs ++ textB [] s.str))
  | _, _ => False
def tabX (L : List U) (k : Int) : List U := bif tableR L 4096 k then tputB L k else []
noncomputable def wtableF : Tr := fun vs objs k => match vs, objs with
  | [.ptr p o, .agg [.val (.sl false [.sl true ec]) L], .val (.int .i64) c], [(i, .box [.own q]), (j, .arr t xs)] =>
    (wIs p o i q j t ∧ ec = EC ∧ L.list.length ≤ 1099511627776 ∧ xs.length ≤ 800000000) ∧ k (.ret []) (wObjs (xs ++ tabX L.list c.int))
  | _, _ => False
def spansB : List U → List U
  | [] => []
  | s :: r => num [] 2 (e0 s).int ++ num [] 2 (e1 s).int ++ spansB r
def onB (b : Bool) : Int := bif b then 1 else 0
def mapB (nm : ByteArray) (on : Bool) (L : List U) : List U := textB [] nm ++ num [] 1 (onB on) ++ num [] 2 L.length ++ spansB L
noncomputable def wmapF : Tr := fun vs objs k => match vs, objs with
  | [.ptr p o, .agg [.val .str nm, .val .bool on, .val (.sl true ec) L]], [(i, .box [.own q]), (j, .arr t xs)] =>
    (wIs p o i q j t ∧ ec = SpC ∧ (xs.length : Int) + 8 * L.list.length ≤ 700000000) ∧ k (.ret []) (wObjs (xs ++ mapB nm.str on.bool L.list))
  | _, _ => False
def runsB (x n : Int) : List U → List U
  | [] => num [] 2 n ++ num [] 2 x
  | y :: r => bif decide (n < 65535) && (y.int == x) then runsB x (n + 1) r else num [] 2 n ++ num [] 2 x ++ runsB y.int 1 r
def countsB : List U → List U
  | [] => []
  | x :: r => runsB x.int 1 r
def lead (x n : Int) : List U → Int
  | [] => n
  | y :: r => bif decide (n < 65535) && (y.int == x) then lead x (n + 1) r else n
noncomputable def wcountsF : Tr := fun vs objs k => match vs, objs with
  | [.ptr p o, .val (.sl false [.int .i64]) L], [(i, .box [.own q]), (j, .arr t xs)] =>
    (wIs p o i q j t ∧ (xs.length : Int) + 8 * L.list.length ≤ 700000000) ∧ k (.ret []) (wObjs (xs ++ (num [] 4 L.list.length ++ countsB L.list)))
  | _, _ => False
noncomputable def wtextC : Ctx := mkC PR eqs0 (fnsConsP 50 textP textS fnsNil) trsNil noLoops noOut noOut
noncomputable def wtableC : Ctx := mkC PR eqs0 (fnsConsP 51 tputP tputS fnsNil) trsNil noLoops noOut noOut
noncomputable def wmapLoop : LoopF := fun _ svs os k => match svs, os with
  | [.val (.int .i64) i, .val (.int .i64) n, .val (.sl true ec) L, .ptr p o], [.box [.own q], .arr t xs] =>
    ((p = 2097153 ∧ o = 0 ∧ q = 2097280 ∧ t = u8T) ∧ ec = SpC ∧ n.int = (L.list.length : Int) ∧ 0 ≤ i.int ∧ i.int ≤ n.int ∧ (xs.length : Int) + 8 * (n.int - i.int) ≤ 750000000) ∧ k (.exit 0) ⟨[], wObjs (xs ++ spansB (L.list.drop i.int.toNat))⟩
  | _, _ => False
noncomputable def wmapC : Ctx := mkC PR eqs0 fnsNil (trsCons 22 [false, false, false] wnumF (trsCons 23 [false, false] wtextF trsNil))
  (loopCons 0 [24, 23, 22, 0] [2097153, 2097280] wmapLoop noLoops) (outCons 0 [] [2097153, 2097280] noOut) noOut
noncomputable def wcLoop2 : LoopF := fun _ svs os k => match svs, os with
  | [.val (.int .i64) n, .val (.int .i64) i, .val (.sl false [.int .i64]) L, .ptr p o], [.box [.own q], .arr t xs] =>
    ((p = 2097153 ∧ o = 0 ∧ q = 2097280 ∧ t = u8T) ∧ n = .i n.int ∧ 0 ≤ i.int ∧ 1 ≤ n.int ∧ n.int ≤ 65535 ∧ i.int + n.int ≤ L.list.length ∧ L.list.length ≤ 1000000000) ∧
    k (.exit 2) ⟨[(5, vi (.i (lead (U.at L.list i.int.toNat).int n.int (L.list.drop (i.int + n.int).toNat)))), (4, vi i), (1, vl (.int .i64) L), (0, .ptr 2097153 0)], wObjs xs⟩
  | _, _ => False
noncomputable def wcLoop0 : LoopF := fun _ svs os k => match svs, os with
  | [.val (.int .i64) i, .val (.sl false [.int .i64]) L, .ptr p o], [.box [.own q], .arr t xs] =>
    ((p = 2097153 ∧ o = 0 ∧ q = 2097280 ∧ t = u8T) ∧ 0 ≤ i.int ∧ i.int ≤ L.list.length ∧ L.list.length ≤ 1000000000 ∧ (xs.length : Int) + 8 * (L.list.length - i.int) ≤ 750000000) ∧
    k (.exit 0) ⟨[], wObjs (xs ++ countsB (L.list.drop i.int.toNat))⟩
  | _, _ => False
noncomputable def wcC : Ctx := mkC PR eqs0 fnsNil (trsCons 22 [false, false, false] wnumF trsNil)
  (loopCons 2 [5, 4, 1, 0] [2097153, 2097280] wcLoop2 (loopCons 0 [4, 1, 0] [2097153, 2097280] wcLoop0 noLoops)) (outCons 2 [5, 4, 1, 0] [2097153, 2097280] (outCons 0 [] [2097153, 2097280] noOut)) noOut
theorem wtext_tree (R : RT) (s : U) (xs : List U) : (runD wtextC Try.f23 [.ptr 2097153 0, vs s] (wObjs xs) R) = (textP [[U.l []], [s]] ∧ bif decide (List.length xs + List.length (textB [] (U.str s)) ≤ room) && !oddB (2097280 : Nat) then R (Out.ret []) [(nat_lit 2097153, Obj.box [SV.own (nat_lit 2097280)]), (nat_lit
  2097280, Obj.arr (nat_lit 5) (xs ++ textB [] (U.str s)))] else False) := by kernel_rfl
theorem wtable_tree (R : RT) (L c : U) (xs : List U) : (runD wtableC Try.f24 [.ptr 2097153 0, .agg [vl (.sl true EC) L], vi c] (wObjs xs) R) = (tputP [[L], [c]] ∧ bif decide (List.length xs + List.length (bif tableR (U.list L) (4096 : Int) (U.int c) then tputB (U.list L) (U.int c) else []) ≤ room) && !oddB (2097280 : Nat) then R (Out.ret []) [(nat_lit
  2097153, Obj.box [SV.own (nat_lit 2097280)]), (nat_lit 2097280, Obj.arr (nat_lit 5) (xs ++ bif tableR (U.list L) (4096 : Int) (U.int c) then tputB (U.list L) (U.int c) else []))] else False) := by kernel_rfl
theorem wmap_round (pan : KP) (μ : Mu) (N : Nat) (k : KE) (i n L : U) (xs : List U) : (exec (wmapC.panics pan) (loopBody Try.f25 0) 0 ⟨[(24, vi i), (23, vi n), (22, vt SpC L), (0, .ptr 2097153 0)], wObjs xs⟩ (again PR (some ([], [2097153, 2097280])) none pan [24, 23, 22, 0] [2097153, 2097280] wmapLoop μ N k)) = (bif decide (i.int < n.int) then bif decide ((0 : Int) ≤ i.int ∧ i.int < (L.list.length : Int)) then (wIs ((2097152 : Nat) + (1 : Nat)) (0 : Nat) ((2097152 : Nat) + (1 : Nat)) ((2097279 : Nat) + (1 : Nat)) ((2097279 : Nat) + (1 : Nat)) ((4 : Nat) + (1 : Nat)) ∧ (2 : Int) ≤ (8 : Int) ∧ List.length xs ≤ (800000000 : Nat)) ∧ (wIs ((2097152 : Nat) + (1 : Nat)) (0 : Nat) ((2097152 : Nat) + (1 : Nat)) ((2097279 : Nat) + (1 : Nat)) ((2097279 : Nat) + (1 : Nat)) ((4 : Nat) + (1 : Nat)) ∧ (2 : Int) ≤ (8 : Int) ∧ List.length (xs ++ num [] (2 : Int) (U.int (nth (U.i (0 : Int)) (U.list (nth (U.i (0 : Int)) L.list (Int.toNat i.int))) (0 : Nat)))) ≤ (800000000 : Nat)) ∧ bif Nat.blt (μ [.val (.int IntKind.i64) (U.i (IntKind.wrap .i64 (i.int + (1 : Int)))), .val (.int IntKind.i64) n, .val (.sl true [.int .i64, .int .i64]) L, .ptr (nat_lit 2097153) (nat_lit 0)] [.box [.own (nat_lit 2097280)], .arr (nat_lit 5) (xs ++ num [] (2 : Int) (U.int (nth (U.i (0 : Int)) (U.list (nth (U.i (0 : Int)) L.list (Int.toNat i.int))) (0 : Nat))) ++ num [] (2 : Int) (U.int (nth (U.i (0 : Int)) (List.tail (U.list (nth (U.i (0 : Int)) L.list (Int.toNat i.int)))) (0 : Nat))))]) N then ((nat_lit 2097153 = nat_lit 2097153 ∧ nat_lit 0 = nat_lit 0 ∧ nat_lit 2097280 = nat_lit 2097280 ∧ nat_lit 5 = nat_lit 5) ∧ [Ct.int IntKind.i64, Ct.int IntKind.i64] = [.int .i64, .int .i64] ∧ n.int = (L.list.length : Int) ∧ (0 : Int) ≤ IntKind.wrap .i64 (i.int + (1 : Int)) ∧ IntKind.wrap .i64 (i.int + (1 : Int)) ≤ n.int ∧ (↑(List.length (xs ++ num [] (2 : Int) (U.int (nth (U.i (0 : Int)) (U.list (nth (U.i (0 : Int)) L.list (Int.toNat i.int))) (0 : Nat))) ++ num [] (2 : Int) (U.int (nth (U.i (0 : Int)) (List.tail (U.list (nth (U.i (0 : Int)) L.list (Int.toNat i.int)))) (0 : Nat))))) : Int) + (8 : Int) * (n.int - IntKind.wrap .i64 (i.int + (1 : Int))) ≤ (750000000 : Int)) ∧ k (Ex.exit (nat_lit 0)) (St.mk [] [(nat_lit 2097153, .box [.own (nat_lit 2097280)]), (nat_lit 2097280, .arr (nat_lit 5) (xs ++ num [] (2 : Int) (U.int (nth (U.i (0 : Int)) (U.list (nth (U.i (0 : Int)) L.list (Int.toNat i.int))) (0 : Nat))) ++ num [] (2 : Int) (U.int (nth (U.i (0 : Int)) (List.tail (U.list (nth (U.i (0 : Int)) L.list (Int.toNat i.int)))) (0 : Nat))) ++ spansB (List.drop (Int.toNat (IntKind.wrap .i64 (i.int + (1 : Int)))) L.list)))]) else False else False else k (Ex.exit (nat_lit 0)) (St.mk [] [(nat_lit 2097153, .box [.own (nat_lit 2097280)]), (nat_lit 2097280, .arr (nat_lit 5) xs)])) := by kernel_rfl
theorem wmap_tree (R : RT) (nm on L : U) (xs : List U) : (runD wmapC Try.f25 [.ptr 2097153 0, .agg [vs nm, vb on, vt SpC L]] (wObjs xs) R) = ((wIs ((2097152 : Nat) + (1 : Nat)) (0 : Nat) ((2097152 : Nat) + (1 : Nat)) ((2097279 : Nat) + (1 : Nat)) ((2097279 : Nat) + (1 : Nat)) ((4 : Nat) + (1 : Nat)) ∧ List.length xs ≤ (800000000 : Nat)) ∧ bif on.bool then (wIs ((2097152 : Nat) + (1 : Nat)) (0 : Nat) ((2097152 : Nat) + (1 : Nat)) ((2097279 : Nat) + (1 : Nat)) ((2097279 : Nat) + (1 : Nat)) ((4 : Nat) + (1 : Nat)) ∧ (1 : Int) ≤ (8 : Int) ∧ List.length (xs ++ textB [] nm.str) ≤ (800000000 : Nat)) ∧ (wIs ((2097152 : Nat) + (1 : Nat)) (0 : Nat) ((2097152 : Nat) + (1 : Nat)) ((2097279 : Nat) + (1 : Nat)) ((2097279 : Nat) + (1 : Nat)) ((4 : Nat) + (1 : Nat)) ∧ (2 : Int) ≤ (8 : Int) ∧ List.length (xs ++ textB [] nm.str ++ num [] (1 : Int) (1 : Int)) ≤ (800000000 : Nat)) ∧ ((nat_lit 2097153 = nat_lit 2097153 ∧ nat_lit 0 = nat_lit 0 ∧ nat_lit 2097280 = nat_lit 2097280 ∧ nat_lit 5 = nat_lit 5) ∧ [Ct.int IntKind.i64, Ct.int IntKind.i64] = [.int .i64, .int .i64] ∧ (L.list.length : Int) = (L.list.length : Int) ∧ (0 : Int) ≤ (0 : Int) ∧ (0 : Int) ≤ (L.list.length : Int) ∧ (↑(List.length (xs ++ textB [] nm.str ++ num [] (1 : Int) (1 : Int) ++ num [] (2 : Int) (L.list.length : Int))) : Int) + (8 : Int) * ((L.list.length : Int) - (0 : Int)) ≤ (750000000 : Int)) ∧ R (Out.ret []) [(nat_lit 2097153, .box [.own (nat_lit 2097280)]), (nat_lit 2097280, .arr (nat_lit 5) (xs ++ textB [] nm.str ++ num [] (1 : Int) (1 : Int) ++ num [] (2 : Int) (L.list.length : Int) ++ spansB (List.drop (Int.toNat (0 : Int)) L.list)))] else (wIs ((2097152 : Nat) + (1 : Nat)) (0 : Nat) ((2097152 : Nat) + (1 : Nat)) ((2097279 : Nat) + (1 : Nat)) ((2097279 : Nat) + (1 : Nat)) ((4 : Nat) + (1 : Nat)) ∧ (1 : Int) ≤ (8 : Int) ∧ List.length (xs ++ textB [] nm.str) ≤ (800000000 : Nat)) ∧ (wIs ((2097152 : Nat) + (1 : Nat)) (0 : Nat) ((2097152 : Nat) + (1 : Nat)) ((2097279 : Nat) + (1 : Nat)) ((2097279 : Nat) + (1 : Nat)) ((4 : Nat) + (1 : Nat)) ∧ (2 : Int) ≤ (8 : Int) ∧ List.length (xs ++ textB [] nm.str ++ num [] (1 : Int) (0 : Int)) ≤ (800000000 : Nat)) ∧ ((nat_lit 2097153 = nat_lit 2097153 ∧ nat_lit 0 = nat_lit 0 ∧ nat_lit 2097280 = nat_lit 2097280 ∧ nat_lit 5 = nat_lit 5) ∧ [Ct.int IntKind.i64, Ct.int IntKind.i64] = [.int .i64, .int .i64] ∧ (L.list.length : Int) = (L.list.length : Int) ∧ (0 : Int) ≤ (0 : Int) ∧ (0 : Int) ≤ (L.list.length : Int) ∧ (↑(List.length (xs ++ textB [] nm.str ++ num [] (1 : Int) (0 : Int) ++ num [] (2 : Int) (L.list.length : Int))) : Int) + (8 : Int) * ((L.list.length : Int) - (0 : Int)) ≤ (750000000 : Int)) ∧ R (Out.ret []) [(nat_lit 2097153, .box [.own (nat_lit 2097280)]), (nat_lit 2097280, .arr (nat_lit 5) (xs ++ textB [] nm.str ++ num [] (1 : Int) (0 : Int) ++ num [] (2 : Int) (L.list.length : Int) ++ spansB (List.drop (Int.toNat (0 : Int)) L.list)))]) := by kernel_rfl
theorem wc_round2 (pan : KP) (μ : Mu) (N : Nat) (k : KE) (n i L : U) (xs : List U) : (exec (wcC.panics pan) (loopBody Try.f26 1) 2 ⟨[(5, vi n), (4, vi i), (1, vl (.int .i64) L), (0, .ptr 2097153 0)], wObjs xs⟩ (again PR (some ([5, 4, 1, 0], [2097153, 2097280])) none pan [5, 4, 1, 0] [2097153, 2097280] wcLoop2 μ N k)) = (bif decide (n.int < (65535 : Int)) then bif decide (IntKind.wrap .i64 (i.int + n.int) < (L.list.length : Int)) then bif decide ((0 : Int) ≤ IntKind.wrap .i64 (i.int + n.int) ∧ IntKind.wrap .i64 (i.int + n.int) < (L.list.length : Int)) then bif decide ((0 : Int) ≤ i.int ∧ i.int < (L.list.length : Int)) then bif U.int (nth (U.i (0 : Int)) L.list (Int.toNat (IntKind.wrap .i64 (i.int + n.int)))) == U.int (nth (U.i (0 : Int)) L.list (Int.toNat i.int)) then bif Nat.blt (μ [.val (.int IntKind.i64) (U.i (IntKind.wrap .i64 (n.int + (1 : Int)))), .val (.int IntKind.i64) i, .val (.sl false [.int .i64]) L, .ptr (nat_lit 2097153) (nat_lit 0)] [.box [.own (nat_lit 2097280)], .arr (nat_lit 5) xs]) N then ((nat_lit 2097153 = nat_lit 2097153 ∧ nat_lit 0 = nat_lit 0 ∧ nat_lit 2097280 = nat_lit 2097280 ∧ nat_lit 5 = nat_lit 5) ∧ U.i (IntKind.wrap .i64 (n.int + (1 : Int))) = U.i (IntKind.wrap .i64 (n.int + (1 : Int))) ∧ (0 : Int) ≤ i.int ∧ (1 : Int) ≤ IntKind.wrap .i64 (n.int + (1 : Int)) ∧ IntKind.wrap .i64 (n.int + (1 : Int)) ≤ (65535 : Int) ∧ i.int + IntKind.wrap .i64 (n.int + (1 : Int)) ≤ (L.list.length : Int) ∧ L.list.length ≤ (1000000000 : Nat)) ∧ k (Ex.exit (nat_lit 2)) (St.mk [(nat_lit 5, .val (.int IntKind.i64) (U.i (lead (U.int (nth (U.i (0 : Int)) L.list (Int.toNat i.int))) (IntKind.wrap .i64 (n.int + (1 : Int))) (List.drop (Int.toNat (i.int + IntKind.wrap .i64 (n.int + (1 : Int)))) L.list)))), (nat_lit 4, .val (.int IntKind.i64) i), (nat_lit 1, .val (.sl false [.int .i64]) L), (nat_lit 0, .ptr (nat_lit 2097153) (nat_lit 0))] [(nat_lit 2097153, .box [.own (nat_lit 2097280)]), (nat_lit 2097280, .arr (nat_lit 5) xs)]) else False else k (Ex.exit (nat_lit 2)) (St.mk [(nat_lit 5, .val (.int IntKind.i64) n), (nat_lit 4, .val (.int IntKind.i64) i), (nat_lit 1, .val (.sl false [.int .i64]) L), (nat_lit 0, .ptr (nat_lit 2097153) (nat_lit 0))] [(nat_lit 2097153, .box [.own (nat_lit 2097280)]), (nat_lit 2097280, .arr (nat_lit 5) xs)]) else False else False else k (Ex.exit (nat_lit 2)) (St.mk [(nat_lit 5, .val (.int IntKind.i64) n), (nat_lit 4, .val (.int IntKind.i64) i), (nat_lit 1, .val (.sl false [.int .i64]) L), (nat_lit 0, .ptr (nat_lit 2097153) (nat_lit 0))] [(nat_lit 2097153, .box [.own (nat_lit 2097280)]), (nat_lit 2097280, .arr (nat_lit 5) xs)]) else k (Ex.exit (nat_lit 2)) (St.mk [(nat_lit 5, .val (.int IntKind.i64) n), (nat_lit 4, .val (.int IntKind.i64) i), (nat_lit 1, .val (.sl false [.int .i64]) L), (nat_lit 0, .ptr (nat_lit 2097153) (nat_lit 0))] [(nat_lit 2097153, .box [.own (nat_lit 2097280)]), (nat_lit 2097280, .arr (nat_lit 5) xs)])) := by kernel_rfl
theorem wc_round0 (pan : KP) (μ : Mu) (N : Nat) (k : KE) (i L : U) (xs : List U) : (exec (wcC.panics pan) (loopBody Try.f26 0) 0 ⟨[(4, vi i), (1, vl (.int .i64) L), (0, .ptr 2097153 0)], wObjs xs⟩ (again PR (some ([], [2097153, 2097280])) none pan [4, 1, 0] [2097153, 2097280] wcLoop0 μ N k)) = (bif decide (i.int < (L.list.length : Int)) then ((nat_lit 2097153 = nat_lit 2097153 ∧ nat_lit 0 = nat_lit 0 ∧ nat_lit 2097280 = nat_lit 2097280 ∧ nat_lit 5 = nat_lit 5) ∧ U.i (1 : Int) = U.i (1 : Int) ∧ (0 : Int) ≤ i.int ∧ (1 : Int) ≤ (1 : Int) ∧ (1 : Int) ≤ (65535 : Int) ∧ i.int + (1 : Int) ≤ (L.list.length : Int) ∧ L.list.length ≤ (1000000000 : Nat)) ∧ (wIs ((2097152 : Nat) + (1 : Nat)) (0 : Nat) ((2097152 : Nat) + (1 : Nat)) ((2097279 : Nat) + (1 : Nat)) ((2097279 : Nat) + (1 : Nat)) ((4 : Nat) + (1 : Nat)) ∧ (2 : Int) ≤ (8 : Int) ∧ List.length xs ≤ (800000000 : Nat)) ∧ bif decide ((0 : Int) ≤ i.int ∧ i.int < (L.list.length : Int)) then (wIs ((2097152 : Nat) + (1 : Nat)) (0 : Nat) ((2097152 : Nat) + (1 : Nat)) ((2097279 : Nat) + (1 : Nat)) ((2097279 : Nat) + (1 : Nat)) ((4 : Nat) + (1 : Nat)) ∧ (2 : Int) ≤ (8 : Int) ∧ List.length (xs ++ num [] (2 : Int) (lead (U.int (nth (U.i (0 : Int)) L.list (Int.toNat i.int))) (1 : Int) (List.drop (Int.toNat (i.int + (1 : Int))) L.list))) ≤ (800000000 : Nat)) ∧ bif Nat.blt (μ [.val (.int IntKind.i64) (U.i (IntKind.wrap .i64 (i.int + lead (U.int (nth (U.i (0 : Int)) L.list (Int.toNat i.int))) (1 : Int) (List.drop (Int.toNat (i.int + (1 : Int))) L.list)))), .val (.sl false [.int .i64]) L, .ptr (nat_lit 2097153) (nat_lit 0)] [.box [.own (nat_lit 2097280)], .arr (nat_lit 5) (xs ++ num [] (2 : Int) (lead (U.int (nth (U.i (0 : Int)) L.list (Int.toNat i.int))) (1 : Int) (List.drop (Int.toNat (i.int + (1 : Int))) L.list)) ++ num [] (2 : Int) (U.int (nth (U.i (0 : Int)) L.list (Int.toNat i.int))))]) N then ((nat_lit 2097153 = nat_lit 2097153 ∧ nat_lit 0 = nat_lit 0 ∧ nat_lit 2097280 = nat_lit 2097280 ∧ nat_lit 5 = nat_lit 5) ∧ (0 : Int) ≤ IntKind.wrap .i64 (i.int + lead (U.int (nth (U.i (0 : Int)) L.list (Int.toNat i.int))) (1 : Int) (List.drop (Int.toNat (i.int + (1 : Int))) L.list)) ∧ IntKind.wrap .i64 (i.int + lead (U.int (nth (U.i (0 : Int)) L.list (Int.toNat i.int))) (1 : Int) (List.drop (Int.toNat (i.int + (1 : Int))) L.list)) ≤ (L.list.length : Int) ∧ L.list.length ≤ (1000000000 : Nat) ∧ (↑(List.length (xs ++ num [] (2 : Int) (lead (U.int (nth (U.i (0 : Int)) L.list (Int.toNat i.int))) (1 : Int) (List.drop (Int.toNat (i.int + (1 : Int))) L.list)) ++ num [] (2 : Int) (U.int (nth (U.i (0 : Int)) L.list (Int.toNat i.int))))) : Int) + (8 : Int) * ((L.list.length : Int) - IntKind.wrap .i64 (i.int + lead (U.int (nth (U.i (0 : Int)) L.list (Int.toNat i.int))) (1 : Int) (List.drop (Int.toNat (i.int + (1 : Int))) L.list))) ≤ (750000000 : Int)) ∧ k (Ex.exit (nat_lit 0)) (St.mk [] [(nat_lit 2097153, .box [.own (nat_lit 2097280)]), (nat_lit 2097280, .arr (nat_lit 5) (xs ++ num [] (2 : Int) (lead (U.int (nth (U.i (0 : Int)) L.list (Int.toNat i.int))) (1 : Int) (List.drop (Int.toNat (i.int + (1 : Int))) L.list)) ++ num [] (2 : Int) (U.int (nth (U.i (0 : Int)) L.list (Int.toNat i.int))) ++ countsB (List.drop (Int.toNat (IntKind.wrap .i64 (i.int + lead (U.int (nth (U.i (0 : Int)) L.list (Int.toNat i.int))) (1 : Int) (List.drop (Int.toNat (i.int + (1 : Int))) L.list)))) L.list)))]) else False else False else k (Ex.exit (nat_lit 0)) (St.mk [] [(nat_lit 2097153, .box [.own (nat_lit 2097280)]), (nat_lit 2097280, .arr (nat_lit 5) xs)])) := by kernel_rfl
theorem wc_tree (R : RT) (L : U) (xs : List U) : (runD wcC Try.f26 [.ptr 2097153 0, vl (.int .i64) L] (wObjs xs) R) = ((wIs ((2097152 : Nat) + (1 : Nat)) (0 : Nat) ((2097152 : Nat) + (1 : Nat)) ((2097279 : Nat) + (1 : Nat)) ((2097279 : Nat) + (1 : Nat)) ((4 : Nat) + (1 : Nat)) ∧ (4 : Int) ≤ (8 : Int) ∧ List.length xs ≤
  (800000000 : Nat)) ∧ ((nat_lit 2097153 = nat_lit 2097153 ∧ nat_lit 0 = nat_lit 0 ∧ nat_lit 2097280 = nat_lit 2097280 ∧ nat_lit 5 = nat_lit 5) ∧ (0 : Int) ≤ (0 : Int) ∧ (0 : Int) ≤ (↑(List.length (U.list
  L)) : Int) ∧ List.length (U.list L) ≤ (1000000000 : Nat) ∧ (↑(List.length (xs ++ num [] (4 : Int) (↑(List.length (U.list L)) : Int))) : Int) + (8 : Int) * ((↑(List.length (U.list L)) : Int) - (0 : Int))
  ≤ (750000000 : Int)) ∧ R (Out.ret []) [(nat_lit 2097153, Obj.box [SV.own (nat_lit 2097280)]), (nat_lit 2097280, Obj.arr (nat_lit 5) (xs ++ num [] (4 : Int) (↑(List.length (U.list L)) : Int) ++ countsB
  (List.drop (Int.toNat (0 : Int)) (U.list L))))]) := by kernel_rfl
end Go.Mat

namespace Go.Mat
open Go Go.Den Go.Proofs
theorem wis : wIs 2097153 0 2097153 2097280 2097280 u8T := ⟨rfl, rfl, rfl, rfl, rfl, rfl⟩
theorem num8 {n v : Int} (h : n ≤ 8) : (num [] n v).length ≤ 8 := by
  have := num_len [] n v
  simp only [List.length_nil] at this
  omega
theorem num2 (v : Int) : (num [] 2 v).length ≤ 2 := by
  have := num_len [] 2 v
  simp only [List.length_nil, Int.reduceToNat] at this
  omega
theorem num1 (v : Int) : (num [] 1 v).length ≤ 1 := by
  have := num_len [] 1 v
  simp only [List.length_nil, Int.reduceToNat] at this
  omega
theorem num4 (v : Int) : (num [] 4 v).length ≤ 4 := by
  have := num_len [] 4 v
  simp only [List.length_nil, Int.reduceToNat] at this
  omega
theorem strU_len (s : ByteArray) : (strU s).length = s.size := by rw [strU, List.length_map, str_len]
theorem textB_len (s : ByteArray) : (textB [] s).length ≤ 65537 := by
  unfold textB
  cases h : longB s with
  | true => simp
  | false =>
    have h := of_decide_eq_false h
    have := num2 s.size
    have := strU_len s
    simp only [cond_false, List.length_append]
    omega
theorem tabX_len {L : List U} (k : Int) (hl : L.length ≤ 1099511627776) : (tabX L k).length ≤ 66562 := by
  unfold tabX tputB
  cases h : tableR L 4096 k with
  | false => simp
  | true =>
    obtain ⟨h1, h2, _⟩ := tableR_low hl h
    have h3 := leavesB_len k L 0 h2
    have h4 := num2 (countB L)
    simp only [cond_true, List.length_append]
    omega
theorem spansB_len : ∀ L : List U, (spansB L).length ≤ 4 * L.length
  | [] => by simp [spansB]
  | s :: r => by
    have h1 := spansB_len r
    have h2 := num2 (e0 s).int
    have h3 := num2 (e1 s).int
    rw [spansB, List.length_append, List.length_append, List.length_cons]
    omega
theorem lead_ge (x : Int) : ∀ (l : List U) (n : Int), n ≤ lead x n l ∧ lead x n l ≤ n + l.length ∧ (n ≤ 65535 → lead x n l ≤ 65535)
  | [], n => by simp [lead]
  | y :: r, n => by
    unfold lead
    cases h : decide (n < 65535) && (y.int == x) with
    | false => simp; omega
    | true =>
      rw [Bool.and_eq_true, decide_eq_true_eq] at h
      have := lead_ge x r (n + 1)
      simp only [cond_true, List.length_cons]
      omega
theorem runsB_eq (x : Int) : ∀ (l : List U) (n : Int), runsB x n l = num [] 2 (lead x n l) ++ num [] 2 x ++ countsB (l.drop (lead x n l - n).toNat)
  | [], n => by simp [runsB, lead, countsB]
  | y :: r, n => by
    unfold runsB lead
    cases h : decide (n < 65535) && (y.int == x) with
    | false => simp [countsB]
    | true =>
      have h1 := lead_ge x r (n + 1)
      simp only [cond_true]
      rw [runsB_eq x r (n + 1), show (lead x (n + 1) r - n).toNat = (lead x (n + 1) r - (n + 1)).toNat + 1 by omega]
      rfl
theorem countsB_cons (x : U) (r : List U) : countsB (x :: r) = num [] 2 (lead x.int 1 r) ++ num [] 2 x.int ++ countsB (r.drop (lead x.int 1 r - 1).toNat) := runsB_eq ..
theorem wnum_ok : SpecT PR 22 wnumF := fun fn hfn => by
  have hf : PR.funcs[(22 : Nat)]? = some Try.f22 := by kernel_rfl
  rw [hf] at hfn; cases hfn
  refine fnT_okH (C := wnumC) (mkC_ok eqs0_ok mixed_ok .nil (.cons put_ok .nil)) hf (by kernel_rfl) (loops_none (by kernel_rfl)) fun vs objs R h1 h2 h => ?_
  clear h1 h2
  unfold wnumF at h
  split at h
  · rename_i p o n v i q j t xs
    obtain ⟨⟨⟨rfl, rfl, rfl, rfl, rfl, rfl⟩, h8, hx⟩, h⟩ := h
    refine .eq (wnum_tree R n v xs) ?_
    have hl := num8 (v := v.int) h8
    refine ⟨by trivial, broom ?_ rfl h⟩
    show xs.length + (num [] n.int v.int).length ≤ 1073741824
    omega
  · exact h.elim
theorem wtext_ok : SpecT PR 23 wtextF := fun fn hfn => by
  have hf : PR.funcs[(23 : Nat)]? = some Try.f23 := by kernel_rfl
  rw [hf] at hfn; cases hfn
  refine fnT_okH (C := wtextC) (mkC_ok eqs0_ok mixed_ok (.consP text_ok .nil) .nil) hf (by kernel_rfl) (loops_none (by kernel_rfl)) fun vs objs R h1 h2 h => ?_
  clear h1 h2
  unfold wtextF at h
  split at h
  · rename_i p o s i q j t xs
    obtain ⟨⟨⟨rfl, rfl, rfl, rfl, rfl, rfl⟩, hx⟩, h⟩ := h
    refine .eq (wtext_tree R s xs) ?_
    have hl := textB_len s.str
    refine ⟨by show (0 : Nat) ≤ _; omega, broom ?_ rfl h⟩
    show xs.length + (textB [] s.str).length ≤ 1073741824
    omega
  · exact h.elim
theorem wtable_ok : SpecT PR 24 wtableF := fun fn hfn => by
  have hf : PR.funcs[(24 : Nat)]? = some Try.f24 := by kernel_rfl
  rw [hf] at hfn; cases hfn
  refine fnT_okH (C := wtableC) (mkC_ok eqs0_ok mixed_ok (.consP tput_ok .nil) .nil) hf (by kernel_rfl) (loops_none (by kernel_rfl)) fun vs objs R h1 h2 h => ?_
  clear h1 h2
  unfold wtableF at h
  split at h
  · rename_i p o ec L c i q j t xs
    obtain ⟨⟨⟨rfl, rfl, rfl, rfl, rfl, rfl⟩, rfl, hT, hx⟩, h⟩ := h
    refine .eq (wtable_tree R L c xs) ?_
    have hl := tabX_len c.int hT
    unfold tabX at hl
    refine ⟨hT, broom ?_ rfl h⟩
    show xs.length + _ ≤ 1073741824
    omega
  · exact h.elim
theorem wmap_loop : LoopOk wmapC 0 (loopBody Try.f25 0) := by
  refine loopOk_of (F := wmapLoop) (ts := [24, 23, 22, 0]) (os := [2097153, 2097280]) rfl (fun svs _ => match svs with | .val _ i :: .val _ m :: _ => (m.int - i.int).toNat | _ => 0) ?_
  intro pan svs os k ho1 ho2 h
  unfold wmapLoop at h
  split at h
  · rename_i i n ec L p o q t xs
    obtain ⟨⟨⟨rfl, rfl, rfl, rfl⟩, rfl, hn, h0, hi, hx⟩, hk⟩ := h
    have hL : L.list.length ≤ maxLen := ho1.2.2.1.1
    refine .eq (wmap_round pan _ _ k i n L xs) ?_
    refine bd (fun hlt => dt ⟨h0, by omega⟩ ?_) (fun hlt => ?_)
    · rw [drop_at (by omega), spansB] at hk
      simp only [U.at, e0, e1, ← List.append_assoc] at hk
      have h1 := num2 (nth (.i 0) (nth (.i 0) L.list i.int.toNat).list 0).int
      have h2 := num2 (nth (.i 0) (nth (.i 0) L.list i.int.toNat).list 1).int
      have hw : IntKind.wrap .i64 (i.int + 1) = i.int + 1 := i64_in (by omega) (by unfold maxLen at hL; omega)
      have hc : (i.int + 1).toNat = i.int.toNat + 1 := by omega
      have hlt' : (n.int - (i.int + 1)).toNat < (n.int - i.int).toNat := by omega
      simp only [nth_tail, Nat.zero_add, Nat.reduceAdd, hw, hc]
      refine ⟨⟨wis, by omega, by omega⟩, ⟨wis, by omega, by rw [List.length_append]; omega⟩, blt hlt' ⟨⟨by trivial, by trivial, hn, by omega, by omega, by rw [List.length_append, List.length_append]; omega⟩, hk⟩⟩
    · rw [List.drop_of_length_le (by omega), spansB, List.append_nil] at hk
      exact hk
  · exact h.elim
theorem wmap_ok : SpecT PR 25 wmapF := fun fn hfn => by
  have hf : PR.funcs[(25 : Nat)]? = some Try.f25 := by kernel_rfl
  rw [hf] at hfn; cases hfn
  refine fnT_okH (C := wmapC) (mkC_ok eqs0_ok mixed_ok .nil (.cons wnum_ok (.cons wtext_ok .nil))) hf (by kernel_rfl) (loops_one (by kernel_rfl) wmap_loop) fun vs objs R h1 h2 h => ?_
  clear h1 h2
  unfold wmapF at h
  split at h
  · rename_i p o nm on ec L i q j t xs
    obtain ⟨⟨⟨rfl, rfl, rfl, rfl, rfl, rfl⟩, rfl, hx⟩, h⟩ := h
    refine .eq (wmap_tree R nm on L xs) ?_
    have h1 := textB_len nm.str
    have h2 := num2 L.list.length
    unfold mapB at h
    simp only [List.drop_zero, Int.toNat_zero]
    refine ⟨⟨wis, by omega⟩, bi (fun hb => ?_) (fun hb => ?_)⟩
    · have h3 := num1 1
      rw [hb] at h
      simp only [onB, cond_true, ← List.append_assoc] at h
      exact ⟨⟨wis, by omega, by rw [List.length_append]; omega⟩, ⟨wis, by omega, by rw [List.length_append, List.length_append]; omega⟩, ⟨by trivial, by trivial, by trivial, by trivial, by omega, by rw [List.length_append, List.length_append, List.length_append]; omega⟩, h⟩
    · have h3 := num1 0
      rw [hb] at h
      simp only [onB, cond_false, ← List.append_assoc] at h
      exact ⟨⟨wis, by omega, by rw [List.length_append]; omega⟩, ⟨wis, by omega, by rw [List.length_append, List.length_append]; omega⟩, ⟨by trivial, by trivial, by trivial, by trivial, by omega, by rw [List.length_append, List.length_append, List.length_append]; omega⟩, h⟩
  · exact h.elim
theorem wc_loop2 : LoopOk wcC 2 (loopBody Try.f26 1) := by
  refine loopOk_of (F := wcLoop2) (ts := [5, 4, 1, 0]) (os := [2097153, 2097280]) rfl (fun svs _ => match svs with | .val _ n :: _ => (65535 - n.int).toNat | _ => 0) ?_
  intro pan svs os k ho1 ho2 h
  unfold wcLoop2 at h
  split at h
  · rename_i n i L p o q t xs
    obtain ⟨⟨⟨rfl, rfl, rfl, rfl⟩, hnn, h0, hn1, hn, hi, hL⟩, hk⟩ := h
    refine .eq (wc_round2 pan _ _ k n i L xs) ?_
    have hw : IntKind.wrap .i64 (i.int + n.int) = i.int + n.int := i64_in (by omega) (by omega)
    have hw2 : IntKind.wrap .i64 (n.int + 1) = n.int + 1 := i64_in (by omega) (by omega)
    simp only [hw, hw2]
    refine bd (fun h1 => bd (fun h2 => dt (by omega) (dt (by omega) ?_)) (fun h2 => ?_)) (fun h1 => ?_)
    · rw [drop_at (by omega), lead, decide_eq_true h1, Bool.true_and] at hk
      simp only [U.at] at hk
      have hc : (i.int + (n.int + 1)).toNat = (i.int + n.int).toNat + 1 := by omega
      rw [hc]
      refine bi (fun h3 => ?_) (fun h3 => ?_)
      · rw [h3] at hk
        exact blt (by show (65535 - (n.int + 1)).toNat < (65535 - n.int).toNat; omega) ⟨⟨by trivial, by trivial, h0, by omega, by omega, by omega, hL⟩, hk⟩
      · rw [h3, cond_false, ← hnn] at hk
        exact hk
    · rw [List.drop_of_length_le (by omega), lead, ← hnn] at hk
      exact hk
    · by_cases h2 : (i.int + n.int).toNat < L.list.length
      · rw [drop_at h2, lead, decide_eq_false h1, Bool.false_and, cond_false, ← hnn] at hk
        exact hk
      · rw [List.drop_of_length_le (by omega), lead, ← hnn] at hk
        exact hk
  · exact h.elim
theorem wc_loop0 : LoopOk wcC 0 (loopBody Try.f26 0) := by
  refine loopOk_of (F := wcLoop0) (ts := [4, 1, 0]) (os := [2097153, 2097280]) rfl (fun svs _ => match svs with | .val _ i :: .val _ L :: _ => ((L.list.length : Int) - i.int).toNat | _ => 0) ?_
  intro pan svs os k ho1 ho2 h
  unfold wcLoop0 at h
  split at h
  · rename_i i L p o q t xs
    obtain ⟨⟨⟨rfl, rfl, rfl, rfl⟩, h0, hi, hL, hx⟩, hk⟩ := h
    refine .eq (wc_round0 pan _ _ k i L xs) ?_
    refine bd (fun hlt => ?_) (fun hlt => ?_)
    · rw [drop_at (by omega), countsB_cons, List.drop_drop] at hk
      simp only [U.at] at hk
      have hd : (i.int + 1).toNat = i.int.toNat + 1 := by omega
      have hge := lead_ge (nth (.i 0) L.list i.int.toNat).int (L.list.drop (i.int.toNat + 1)) 1
      simp only [List.length_drop] at hge
      simp only [hd]
      generalize lead (nth (.i 0) L.list i.int.toNat).int 1 (L.list.drop (i.int.toNat + 1)) = m at hk hge ⊢
      have hw : IntKind.wrap .i64 (i.int + m) = i.int + m := i64_in (by omega) (by omega)
      have hm : (i.int + m).toNat = i.int.toNat + 1 + (m - 1).toNat := by omega
      have h1 := num2 m
      have h2 := num2 (nth (.i 0) L.list i.int.toNat).int
      have hlt' : ((L.list.length : Int) - (i.int + m)).toNat < ((L.list.length : Int) - i.int).toNat := by omega
      simp only [← List.append_assoc] at hk
      simp only [hw, hm]
      exact ⟨⟨by trivial, by trivial, h0, by omega, by omega, by omega, by omega⟩, ⟨wis, by omega, by omega⟩, dt (by omega) ⟨⟨wis, by omega, by rw [List.length_append]; omega⟩, blt hlt' ⟨⟨by trivial, by omega, by omega, hL, by rw [List.length_append, List.length_append]; omega⟩, hk⟩⟩⟩
    · rw [List.drop_of_length_le (by omega), countsB, List.append_nil] at hk
      exact hk
  · exact h.elim
theorem wcounts_ok : SpecT PR 26 wcountsF := fun fn hfn => by
  have hf : PR.funcs[(26 : Nat)]? = some Try.f26 := by kernel_rfl
  rw [hf] at hfn; cases hfn
  refine fnT_okH (C := wcC) (mkC_ok eqs0_ok mixed_ok .nil (.cons wnum_ok .nil)) hf (by kernel_rfl) (loops_two (by kernel_rfl) wc_loop0 wc_loop2) fun vs objs R h1 h2 h => ?_
  clear h1 h2
  unfold wcountsF at h
  split at h
  · rename_i p o L i q j t xs
    obtain ⟨⟨⟨rfl, rfl, rfl, rfl, rfl, rfl⟩, hx⟩, h⟩ := h
    refine .eq (wc_tree R L xs) ?_
    have h1 := num4 L.list.length
    simp only [← List.append_assoc] at h
    simp only [List.drop_zero, Int.toNat_zero]
    exact ⟨⟨wis, by omega, by omega⟩, ⟨by trivial, by trivial, by omega, by omega, by rw [List.length_append]; omega⟩, h⟩
  · exact h.elim
end Go.Mat
