/- A part of the proof of this: the law CheckBytes. Conditions: none. Joined of B64, F64, B65, F65, B66, F66. -/
import Derived.Test.YtjleagfibbbjnaaC5
import Derived.KernelRfl
namespace Go.Mat
open Go Go.Den Go.Proofs
noncomputable def runLoop0 : LoopF := fun _ svs os k => match svs, os with
  | [.val (.int .i64) a, .own o, .val (.sl false [.int .u8]) b, .val (.int .i64) m], [.arr e xs] =>
    (o = 892 ∧ e = u8T ∧ a = .i a.int ∧ 0 ≤ a.int ∧ a.int ≤ b.list.length ∧ b.list.length ≤ 1073741824 ∧ 0 ≤ m.int ∧ m.int ≤ 1048576 ∧ (xs.length : Int) ≤ m.int) ∧
    (bif decide (a.int < (b.list.length : Int)) then
      (bif (unp b.list m.int (b.list.length + 1 - a.int.toNat) a.int xs).1 == 0 then Alt (k .ret ⟨[(4, .own 892), (5, vi (.i 0))], [(892, .arr u8T (unp b.list m.int (b.list.length + 1 - a.int.toNat) a.int xs).2)]⟩) (k (.exit 0) ⟨[(6, .own 892)], [(892, .arr u8T (unp b.list m.int (b.list.length + 1 - a.int.toNat) a.int xs).2)]⟩)
      else ∀ x : U, k .ret ⟨[(4, .own 636), (5, vi (.i (unp b.list m.int (b.list.length + 1 - a.int.toNat) a.int xs).1))], [(636, .arr u8T []), (892, .arr u8T x.list)]⟩)
      else k (.exit 0) ⟨[(6, .own 892)], [(892, .arr u8T xs)]⟩)
  | _, _ => False
noncomputable def runLoop2 : LoopF := fun _ svs os k => match svs, os with
  | [.val (.int .i64) i, .val (.int .i64) n, .val (.int .i64) a, .own o, .val (.sl false [.int .u8]) b, .val (.int .i64) m, .val (.int .i64) t], [.arr e xs] =>
    (o = 892 ∧ e = u8T ∧ a = .i a.int ∧ 0 ≤ a.int ∧ a.int ≤ b.list.length ∧ b.list.length ≤ 1073741824 ∧ 0 ≤ m.int ∧ m.int ≤ 1048576 ∧ (xs.length : Int) ≤ m.int ∧ 0 ≤ i.int ∧ i.int ≤ n.int ∧ n.int ≤ 1099511627776) ∧
    (bif litE (n.int - i.int).toNat (b.list.drop a.int.toNat) (m.int - xs.length).toNat == 0 then
        k (.exit 2) ⟨[(7, vi (.i (a.int + (n.int - i.int)))), (6, .own 892), (0, vl (.int .u8) b), (1, vi m), (8, vi t)], [(892, .arr u8T (xs ++ (b.list.drop a.int.toNat).take (n.int - i.int).toNat))]⟩
      else ∀ x : U, k .ret ⟨[(4, .own 636), (5, vi (.i (litE (n.int - i.int).toNat (b.list.drop a.int.toNat) (m.int - xs.length).toNat)))], [(636, .arr u8T []), (892, .arr u8T x.list)]⟩)
  | _, _ => False
noncomputable def runLoop4 : LoopF := fun _ svs os k => match svs, os with
  | [.val (.int .i64) i, .val (.int .i64) n, .val (.int .i64) a, .own o, .val (.sl false [.int .u8]) b, .val (.int .i64) m, .val (.int .i64) d], [.arr e xs] =>
    (o = 892 ∧ e = u8T ∧ 0 ≤ m.int ∧ m.int ≤ 1048576 ∧ (xs.length : Int) ≤ m.int ∧ 0 ≤ i.int ∧ 0 ≤ n.int ∧ i.int ≤ n.int + 4 ∧ n.int ≤ 1099511627776 ∧ 1 ≤ d.int ∧ d.int ≤ (xs.length : Int)) ∧
    (bif decide (m.int - xs.length < n.int + 4 - i.int) then ∀ x : U, k .ret ⟨[(4, .own 636), (5, vi (.i 2))], [(636, .arr u8T []), (892, .arr u8T x.list)]⟩
      else k (.exit 4) ⟨[(7, vi a), (6, .own 892), (0, vl (.int .u8) b), (1, vi m)], [(892, .arr u8T (cpL (n.int + 4 - i.int).toNat d.int.toNat xs))]⟩)
  | _, _ => False
noncomputable def runpC : Ctx := mkC PR eqs0 (fnsConsP 53 rlenP rlenS fnsNil) trsNil
  (loopCons 0 [7, 6, 0, 1] [892] runLoop0 (loopCons 2 [12, 9, 7, 6, 0, 1, 8] [892] runLoop2 (loopCons 4 [17, 14, 7, 6, 0, 1, 13] [892] runLoop4 noLoops)))
  (outCons 1048576 [4, 5] [636, 892] (outCons 1048578 [4, 5] [636, 892] (outCons 1048580 [4, 5] [636, 892] (outCons 0 [6] [892] (outCons 2 [7, 6, 0, 1, 8] [892] (outCons 4 [7, 6, 0, 1] [892] noOut)))))) noOut
def sH (b a : U) : Int := Int.fdiv (IntKind.wrap IntKind.i64 (U.int (nth (U.i 0) b.list (Int.toNat a.int)))) ((2 : Int) ^ min (Int.toNat 4) (IntKind.bits IntKind.i64))
def sR (b a : U) : Bool × Int × Int := rlenX b.list (IntKind.wrap IntKind.i64 (a.int + 1)) (sH b a)
def sA (b a : U) : Int := Prod.snd (Prod.snd (sR b a))
def sN (b a : U) : Int := Prod.fst (Prod.snd (sR b a))
def sB (b a : U) : Int := sA b a + (sN b a - 0)
def sO (b a : U) (xs : List U) : List U := xs ++ List.take (Int.toNat (sN b a - 0)) (List.drop (Int.toNat (sA b a)) b.list)
def sD (b a : U) : Int := IntKind.wrap IntKind.i64 (((BitVec.toNat (BitVec.ofInt (IntKind.bits IntKind.i64) (IntKind.wrap IntKind.i64 (U.int (nth (U.i 0) b.list (Int.toNat (sB b a))))) ||| BitVec.ofInt (IntKind.bits IntKind.i64) (IntKind.wrap IntKind.i64 (IntKind.wrap IntKind.i64 (U.int (nth (U.i 0) b.list (Int.toNat (IntKind.wrap IntKind.i64 (sB b a + 1))))) * 2 ^ min (Int.toNat 8) (IntKind.bits IntKind.i64))))) : Nat) : Int)
def sL (b a : U) : Int := IntKind.wrap IntKind.i64 (((BitVec.toNat (BitVec.ofInt (IntKind.bits IntKind.i64) (IntKind.wrap IntKind.i64 (U.int (nth (U.i 0) b.list (Int.toNat a.int)))) &&& BitVec.ofInt (IntKind.bits IntKind.i64) 15)) : Nat) : Int)
def sQ (b a : U) : Bool × Int × Int := rlenX b.list (IntKind.wrap IntKind.i64 (sB b a + 2)) (sL b a)
def sC (b a : U) : Int := Prod.snd (Prod.snd (sQ b a))
def sM (b a : U) : Int := Prod.fst (Prod.snd (sQ b a))
def sP (b a : U) (xs : List U) : List U := cpL (Int.toNat (sM b a + 4 - 0)) (Int.toNat (sD b a)) (sO b a xs)
theorem runp_round2 (pan : KP) (μ : Mu) (N : Nat) (k : KE) (i n a b m t : U) (xs : List U) : (exec (runpC.panics pan) (loopBody Try.f29 1) 2 ⟨[(12, vi i), (9, vi n), (7, vi a), (6, .own 892), (0, vl (.int .u8) b), (1, vi m), (8, vi t)], [(892, .arr u8T xs)]⟩ (again PR (some ([7, 6, 0, 1, 8], [892])) (some ([4, 5], [636, 892])) pan [12, 9, 7, 6, 0, 1, 8] [892] runLoop2 μ N k)) = (bif decide (i.int < n.int) then bif decide (a.int ≥ (b.list.length:Int)) then k Ex.ret (St.mk [(4,.own 636),(5,vi (U.i 3))] [(636,.arr 5 []),(892,.arr 5 xs)]) else bif decide ((xs.length:Int) ≥ m.int) then k Ex.ret (St.mk [(4,.own 636),(5,vi (U.i 2))] [(636,.arr 5 []),(892,.arr 5 xs)]) else bif decide ((0:Int) ≤ a.int ∧ a.int < (b.list.length:Int)) then bif decide (List.length xs + 1 ≤ room) && true then bif Nat.blt (μ [vi (U.i (IntKind.wrap .i64 (i.int + 1))),vi n,vi (U.i (IntKind.wrap .i64 (a.int + 1))),.own 892,.val (.sl false [.int .u8]) b,vi m,vi t] [.arr 5 (xs ++ [nth (U.i 0) b.list (Int.toNat a.int)])]) N then (892 = nat_lit 892 ∧ nat_lit 5 = nat_lit 5 ∧ U.i (IntKind.wrap .i64 (a.int + 1)) = U.i (IntKind.wrap .i64 (a.int + 1)) ∧ (0:Int) ≤ IntKind.wrap .i64 (a.int + 1) ∧ IntKind.wrap .i64 (a.int + 1) ≤ (b.list.length:Int) ∧ b.list.length ≤ (1073741824:Nat) ∧ (0:Int) ≤ m.int ∧ m.int ≤ 1048576 ∧ (↑(List.length (xs ++ [nth (U.i 0) b.list (Int.toNat a.int)])):Int) ≤ m.int ∧ (0:Int) ≤ IntKind.wrap .i64 (i.int + 1) ∧ IntKind.wrap .i64 (i.int + 1) ≤ n.int ∧ n.int ≤ 1099511627776) ∧ bif litE (Int.toNat (n.int - IntKind.wrap .i64 (i.int + 1))) (List.drop (Int.toNat (IntKind.wrap .i64 (a.int + 1))) b.list) (Int.toNat (m.int - (↑(List.length (xs ++ [nth (U.i 0) b.list (Int.toNat a.int)])):Int))) == 0 then k (Ex.exit 2) (St.mk [(7,vi (U.i (IntKind.wrap .i64 (a.int + 1) + (n.int - IntKind.wrap .i64 (i.int + 1))))),(6,.own 892),(0,.val (.sl false [.int .u8]) b),(1,vi m),(8,vi t)] [(892,.arr 5 (xs ++ [nth (U.i 0) b.list (Int.toNat a.int)] ++ List.take (Int.toNat (n.int - IntKind.wrap .i64 (i.int + 1))) (List.drop (Int.toNat (IntKind.wrap .i64 (a.int + 1))) b.list)))]) else ∀ (x : U),k Ex.ret (St.mk [(4,.own 636),(5,vi (U.i (litE (Int.toNat (n.int - IntKind.wrap .i64 (i.int + 1))) (List.drop (Int.toNat (IntKind.wrap .i64 (a.int + 1))) b.list) (Int.toNat (m.int - (↑(List.length (xs ++ [nth (U.i 0) b.list (Int.toNat a.int)])):Int))))))] [(636,.arr 5 []),(892,.arr 5 x.list)]) else False else False else False else k (Ex.exit 2) (St.mk [(7,vi a),(6,.own 892),(0,.val (.sl false [.int .u8]) b),(1,vi m),(8,vi t)] [(892,.arr 5 xs)])) := by kernel_rfl
theorem runp_round4 (pan : KP) (μ : Mu) (N : Nat) (k : KE) (i n a b m d : U) (xs : List U) : (exec (runpC.panics pan) (loopBody Try.f29 2) 4 ⟨[(17, vi i), (14, vi n), (7, vi a), (6, .own 892), (0, vl (.int .u8) b), (1, vi m), (13, vi d)], [(892, .arr u8T xs)]⟩ (again PR (some ([7, 6, 0, 1], [892])) (some ([4, 5], [636, 892])) pan [17, 14, 7, 6, 0, 1, 13] [892] runLoop4 μ N k)) = (bif decide (i.int < IntKind.wrap .i64 (n.int + 4)) then bif decide ((xs.length:Int) ≥ m.int) then k Ex.ret (St.mk [(4,.own 636),(5,vi (U.i 2))] [(636,.arr 5 []),(892,.arr 5 xs)]) else bif decide ((0:Int) ≤ IntKind.wrap .i64 ((xs.length:Int) - d.int) ∧ IntKind.wrap .i64 ((xs.length:Int) - d.int) < (xs.length:Int)) then bif Nat.blt (Int.toNat (IntKind.wrap .i64 ((xs.length:Int) - d.int))) (List.length xs) then bif decide (List.length xs + 1 ≤ room) && true then bif Nat.blt (μ [vi (U.i (IntKind.wrap .i64 (i.int + 1))),vi n,vi a,.own 892,.val (.sl false [.int .u8]) b,vi m,vi d] [.arr 5 (xs ++ [nth (U.i 0) xs (Int.toNat (IntKind.wrap .i64 ((xs.length:Int) - d.int)))])]) N then (892 = nat_lit 892 ∧ nat_lit 5 = nat_lit 5 ∧ (0:Int) ≤ m.int ∧ m.int ≤ 1048576 ∧ (↑(List.length (xs ++ [nth (U.i 0) xs (Int.toNat (IntKind.wrap .i64 ((xs.length:Int) - d.int)))])):Int) ≤ m.int ∧ (0:Int) ≤ IntKind.wrap .i64 (i.int + 1) ∧ (0:Int) ≤ n.int ∧ IntKind.wrap .i64 (i.int + 1) ≤ n.int + 4 ∧ n.int ≤ 1099511627776 ∧ (1:Int) ≤ d.int ∧ d.int ≤ (↑(List.length (xs ++ [nth (U.i 0) xs (Int.toNat (IntKind.wrap .i64 ((xs.length:Int) - d.int)))])):Int)) ∧ bif decide (m.int - (↑(List.length (xs ++ [nth (U.i 0) xs (Int.toNat (IntKind.wrap .i64 ((xs.length:Int) - d.int)))])):Int) < n.int + 4 - IntKind.wrap .i64 (i.int + 1)) then ∀ (x : U),k Ex.ret (St.mk [(4,.own 636),(5,vi (U.i 2))] [(636,.arr 5 []),(892,.arr 5 x.list)]) else k (Ex.exit 4) (St.mk [(7,vi a),(6,.own 892),(0,.val (.sl false [.int .u8]) b),(1,vi m)] [(892,.arr 5 (cpL (Int.toNat (n.int + 4 - IntKind.wrap .i64 (i.int + 1))) (Int.toNat d.int) (xs ++ [nth (U.i 0) xs (Int.toNat (IntKind.wrap .i64 ((xs.length:Int) - d.int)))])))]) else False else False else False else False else k (Ex.exit 4) (St.mk [(7,vi a),(6,.own 892),(0,.val (.sl false [.int .u8]) b),(1,vi m)] [(892,.arr 5 xs)])) := by kernel_rfl
theorem runp_round0 (pan : KP) (μ : Mu) (N : Nat) (k : KE) (a b m : U) (xs : List U) : (exec (runpC.panics pan) (loopBody Try.f29 0) 0 ⟨[(7, vi a), (6, .own 892), (0, vl (.int .u8) b), (1, vi m)], [(892, .arr u8T xs)]⟩ (again PR (some ([6], [892])) (some ([4, 5], [636, 892])) pan [7, 6, 0, 1] [892] runLoop0 μ N k)) = (bif decide (a.int < (b.list.length:Int)) then bif decide ((0:Int) ≤ a.int ∧ a.int < (b.list.length:Int)) then rlenP [[b],[U.i (IntKind.wrap .i64 (a.int + 1))],[U.i (sH b a)]] ∧ bif !Prod.fst (sR b a) then k Ex.ret (St.mk [(4,.own 636),(5,vi (U.i 3))] [(636,.arr 5 []),(892,.arr 5 xs)]) else (892 = nat_lit 892 ∧ nat_lit 5 = nat_lit 5 ∧ U.i (sA b a) = U.i (sA b a) ∧ (0:Int) ≤ sA b a ∧ sA b a ≤ (b.list.length:Int) ∧ b.list.length ≤ (1073741824:Nat) ∧ (0:Int) ≤ m.int ∧ m.int ≤ 1048576 ∧ (xs.length:Int) ≤ m.int ∧ (0:Int) ≤ 0 ∧ (0:Int) ≤ sN b a ∧ sN b a ≤ 1099511627776) ∧ bif litE (Int.toNat (sN b a - 0)) (List.drop (Int.toNat (sA b a)) b.list) (Int.toNat (m.int - (xs.length:Int))) == 0 then bif sB b a == (b.list.length:Int) then k Ex.ret (St.mk [(4,.own 892),(5,vi (U.i 0))] [(892,.arr 5 (sO b a xs))]) else bif decide (IntKind.wrap .i64 ((b.list.length:Int) - (sB b a)) < 2) then k Ex.ret (St.mk [(4,.own 636),(5,vi (U.i 3))] [(636,.arr 5 []),(892,.arr 5 (sO b a xs))]) else bif decide ((0:Int) ≤ sB b a ∧ sB b a < (b.list.length:Int)) then bif decide ((0:Int) ≤ IntKind.wrap .i64 (sB b a + 1) ∧ IntKind.wrap .i64 (sB b a + 1) < (b.list.length:Int)) then bif sD b a == 0 then k Ex.ret (St.mk [(4,.own 636),(5,vi (U.i 3))] [(636,.arr 5 []),(892,.arr 5 (sO b a xs))]) else bif decide (sD b a > (↑(List.length (sO b a xs)):Int)) then k Ex.ret (St.mk [(4,.own 636),(5,vi (U.i 3))] [(636,.arr 5 []),(892,.arr 5 (sO b a xs))]) else rlenP [[b],[U.i (IntKind.wrap .i64 (sB b a + 2))],[U.i (sL b a)]] ∧ bif !Prod.fst (sQ b a) then k Ex.ret (St.mk [(4,.own 636),(5,vi (U.i 3))] [(636,.arr 5 []),(892,.arr 5 (sO b a xs))]) else (892 = nat_lit 892 ∧ nat_lit 5 = nat_lit 5 ∧ (0:Int) ≤ m.int ∧ m.int ≤ 1048576 ∧ (↑(List.length (sO b a xs)):Int) ≤ m.int ∧ (0:Int) ≤ 0 ∧ (0:Int) ≤ sM b a ∧ (0:Int) ≤ sM b a + 4 ∧ sM b a ≤ 1099511627776 ∧ (1:Int) ≤ sD b a ∧ sD b a ≤ (↑(List.length (sO b a xs)):Int)) ∧ bif decide (m.int - (↑(List.length (sO b a xs)):Int) < sM b a + 4 - 0) then ∀ (x : U),k Ex.ret (St.mk [(4,.own 636),(5,vi (U.i 2))] [(636,.arr 5 []),(892,.arr 5 x.list)]) else bif Nat.blt (μ [vi (U.i (sC b a)),.own 892,.val (.sl false [.int .u8]) b,vi m] [.arr 5 (sP b a xs)]) N then (892 = nat_lit 892 ∧ nat_lit 5 = nat_lit 5 ∧ U.i (sC b a) = U.i (sC b a) ∧ (0:Int) ≤ sC b a ∧ sC b a ≤ (b.list.length:Int) ∧ b.list.length ≤ (1073741824:Nat) ∧ (0:Int) ≤ m.int ∧ m.int ≤ 1048576 ∧ (↑(List.length (sP b a xs)):Int) ≤ m.int) ∧ bif decide (sC b a < (b.list.length:Int)) then bif Prod.fst (unp b.list m.int (b.list.length + (1:Nat) - Int.toNat (sC b a)) (sC b a) (sP b a xs)) == 0 then Alt (k Ex.ret (St.mk [(4,.own 892),(5,vi (U.i 0))] [(892,.arr 5 (Prod.snd (unp b.list m.int (b.list.length + (1:Nat) - Int.toNat (sC b a)) (sC b a) (sP b a xs))))])) (k (Ex.exit 0) (St.mk [(6,.own 892)] [(892,.arr 5 (Prod.snd (unp b.list m.int (b.list.length + (1:Nat) - Int.toNat (sC b a)) (sC b a) (sP b a xs))))])) else ∀ (x : U),k Ex.ret (St.mk [(4,.own 636),(5,vi (U.i (Prod.fst (unp b.list m.int (b.list.length + (1:Nat) - Int.toNat (sC b a)) (sC b a) (sP b a xs)))))] [(636,.arr 5 []),(892,.arr 5 x.list)]) else k (Ex.exit 0) (St.mk [(6,.own 892)] [(892,.arr 5 (sP b a xs))]) else False else False else False else ∀ (x : U),k Ex.ret (St.mk [(4,.own 636),(5,vi (U.i (litE (Int.toNat (sN b a - 0)) (List.drop (Int.toNat (sA b a)) b.list) (Int.toNat (m.int - (xs.length:Int))))))] [(636,.arr 5 []),(892,.arr 5 x.list)]) else False else k (Ex.exit 0) (St.mk [(6,.own 892)] [(892,.arr 5 xs)])) := by kernel_rfl
theorem runp_tree (R : RF) (b m : U) : (run runpC Try.f29 [[b], [m]] R) = (bif decide (m.int < 0) then R [[U.l []], [U.i 1]] else bif decide (m.int > 1048576) then R [[U.l []], [U.i 1]] else bif (↑(List.length b.list) : Int) == 0 then R [[U.l []], [U.i 3]] else (892 = nat_lit
  892 ∧ nat_lit 5 = nat_lit 5 ∧ U.i (0 : Int) = U.i 0 ∧ (0 : Int) ≤ 0 ∧ (0 : Int) ≤ (↑(List.length b.list) : Int) ∧ List.length b.list ≤ (1073741824 : Nat) ∧ (0 : Int) ≤ m.int ∧ m.int ≤ 1048576 ∧ (↑(0 :
  Nat) : Int) ≤ m.int) ∧ bif decide ((0 : Int) < (↑(List.length b.list) : Int)) then bif Prod.fst (unp b.list m.int (List.length b.list + (1 : Nat) - Int.toNat 0) 0 []) == 0 then (fun T => Alt T T) (R [[U.l
  (Prod.snd (unp b.list m.int (List.length b.list + (1 : Nat) - Int.toNat 0) 0 []))], [U.i 0]]) else ∀ (x : U), R [[U.l []], [U.i (Prod.fst (unp b.list m.int (List.length b.list + (1 : Nat) - Int.toNat 0)
  0 []))]] else R [[U.l []], [U.i 0]]) := by kernel_rfl
end Go.Mat

namespace Go.Mat
open Go Go.Den Go.Proofs
set_option maxRecDepth 100000
theorem runp_loop2 : LoopOk runpC 2 (loopBody Try.f29 1) := by
  refine loopOk_of (F := runLoop2) (ts := [12, 9, 7, 6, 0, 1, 8]) (os := [892]) rfl (fun svs _ => match svs with | .val _ i :: .val _ n :: _ => (n.int - i.int).toNat | _ => 0) ?_
  intro pan svs os k ho1 ho2 h
  unfold runLoop2 at h
  split at h
  · rename_i i n a o b m t e xs
    obtain ⟨⟨rfl, rfl, ha, ha0, hab, hb, hm0, hm1, hx, hi0, hin, hn⟩, hk⟩ := h
    refine .eq (runp_round2 pan _ _ k i n a b m t xs) ?_
    refine bd (fun hlt => bd (fun hal => ?_) (fun hal => bd (fun hf => ?_) (fun hf => dt ⟨ha0, by omega⟩ ?_))) (fun hlt => ?_)
    · rw [show (n.int - i.int).toNat = (n.int - (i.int + 1)).toNat + 1 by omega, List.drop_of_length_le (by omega), litE] at hk
      exact hk (.l xs)
    · rw [show (n.int - i.int).toNat = (n.int - (i.int + 1)).toNat + 1 by omega, drop_at (by omega), litE] at hk
      rw [decide_eq_true (show (m.int - (xs.length : Int)).toNat = 0 by omega), cond_true] at hk
      exact hk (.l xs)
    · rw [show (n.int - i.int).toNat = (n.int - (i.int + 1)).toNat + 1 by omega, drop_at (by omega), litE] at hk
      rw [decide_eq_false (show ¬ (m.int - (xs.length : Int)).toNat = 0 by omega), cond_false] at hk
      rw [i64_in (x := i.int + 1) (by omega) (by omega), i64_in (x := a.int + 1) (by omega) (by omega)]
      have hl : (xs ++ [nth (U.i 0) b.list a.int.toNat]).length = xs.length + 1 := by simp
      refine broom (by unfold room; omega) rfl (blt (by simp only [U.int_i]; omega) ⟨⟨by trivial, by trivial, by trivial, by omega, by omega, hb, hm0, hm1, by rw [hl]; omega, by omega, by omega, hn⟩, ?_⟩)
      rw [hl, show (m.int - ((xs.length + 1 : Nat) : Int)).toNat = (m.int - (xs.length : Int)).toNat - 1 by omega, show (a.int + 1).toNat = a.int.toNat + 1 by omega, show a.int + 1 + (n.int - (i.int + 1)) = a.int + (n.int - i.int) by omega]
      rw [List.take_succ_cons, List.append_cons] at hk
      exact hk
    · rw [show (n.int - i.int).toNat = 0 by omega, litE, List.take_zero, List.append_nil, show a.int + (n.int - i.int) = a.int by omega, ← ha] at hk
      exact hk
  · exact h.elim
theorem runp_loop4 : LoopOk runpC 4 (loopBody Try.f29 2) := by
  refine loopOk_of (F := runLoop4) (ts := [17, 14, 7, 6, 0, 1, 13]) (os := [892]) rfl (fun svs _ => match svs with | .val _ i :: .val _ n :: _ => (n.int + 4 - i.int).toNat | _ => 0) ?_
  intro pan svs os k ho1 ho2 h
  unfold runLoop4 at h
  split at h
  · rename_i i n a o b m d e xs
    obtain ⟨⟨rfl, rfl, hm0, hm1, hx, hi0, hn0, hin, hn, hd1, hd2⟩, hk⟩ := h
    refine .eq (runp_round4 pan _ _ k i n a b m d xs) ?_
    rw [i64_in (x := n.int + 4) (by omega) (by omega)]
    refine bd (fun hlt => bd (fun hf => ?_) (fun hf => ?_)) (fun hlt => ?_)
    · rw [decide_eq_true (show m.int - (xs.length : Int) < n.int + 4 - i.int by omega), cond_true] at hk
      exact hk (.l xs)
    · rw [i64_in (x := i.int + 1) (by omega) (by omega), i64_in (x := (xs.length : Int) - d.int) (by omega) (by omega)]
      generalize hy : nth (U.i 0) xs ((xs.length : Int) - d.int).toNat = y
      have hl : (xs ++ [y]).length = xs.length + 1 := by simp
      refine dt ⟨by omega, by omega⟩ (blt (by omega) (broom (by unfold room; omega) rfl (blt (by simp only [U.int_i]; omega) ⟨⟨by trivial, by trivial, hm0, hm1, by rw [hl]; omega, by omega, hn0, by omega, hn, hd1, by rw [hl]; omega⟩, ?_⟩)))
      rw [show (n.int + 4 - i.int).toNat = (n.int + 4 - (i.int + 1)).toNat + 1 by omega, cpL, show U.at xs (xs.length - d.int.toNat) = y by rw [← hy]; congr 1; omega] at hk
      rw [hl]
      refine bd (fun h1 => ?_) (fun h1 => ?_)
      · rw [decide_eq_true (show m.int - (xs.length : Int) < n.int + 4 - i.int by omega), cond_true] at hk
        exact hk
      · rw [decide_eq_false (show ¬ m.int - (xs.length : Int) < n.int + 4 - i.int by omega), cond_false] at hk
        exact hk
    · rw [decide_eq_false (by omega), cond_false, show (n.int + 4 - i.int).toNat = 0 by omega, cpL] at hk
      exact hk
  · exact h.elim
theorem runp_loop0 : LoopOk runpC 0 (loopBody Try.f29 0) := by
  refine loopOk_of (F := runLoop0) (ts := [7, 6, 0, 1]) (os := [892]) rfl (fun svs _ => match svs with | .val _ a :: _ :: .val _ b :: _ => ((b.list.length : Int) - a.int).toNat | _ => 0) ?_
  intro pan svs os k ho1 ho2 h
  unfold runLoop0 at h
  split at h
  · rename_i a o b m e xs
    obtain ⟨⟨rfl, rfl, ha, ha0, hab, hb, hm0, hm1, hx⟩, hk⟩ := h
    have hbk : Bytes8 b.list := fun k hk => u8_row (k := k) ho1.2.2.1 hk
    refine .eq (runp_round0 pan _ _ k a b m xs) ?_
    obtain ⟨f, hf⟩ : ∃ f, b.list.length + 1 - a.int.toNat = f + 1 := ⟨b.list.length - a.int.toNat, by omega⟩
    rw [hf, unp] at hk
    refine bd (fun hal => dt ⟨ha0, hal⟩ ?_) (fun hal => ?_)
    · obtain ⟨hH0, hH1, hL0, hL1, hN0, hN1, hA0, hA1⟩ := uN_in hbk ha0 hal
      have hy := hbk a.int.toNat (by omega)
      have eT : IntKind.wrap .i64 (U.int (nth (U.i 0) b.list a.int.toNat)) = (U.at b.list a.int.toNat).int := i64_in (show _ ≤ (U.at b.list a.int.toNat).int by omega) (show (U.at b.list a.int.toNat).int ≤ _ by omega)
      have eH : sH b a = uH b.list a.int := by
        unfold sH uH
        rw [eT, show min (Int.toNat 4) (IntKind.bits .i64) = 4 from rfl, Int.fdiv_eq_ediv_of_nonneg _ (by decide)]
        rfl
      have eL : sL b a = uL b.list a.int := by
        unfold sL uL
        rw [eT]
        exact nibble_lo64 hy.1 hy.2
      have eR : sR b a = bif uOk b.list a.int then (true, uN b.list a.int, uA b.list a.int) else (false, 0, 0) := by
        unfold sR
        rw [eH, i64_in (x := a.int + 1) (by omega) (by omega)]
        rfl
      have hB0 : a.int + 1 ≤ uB b.list a.int := by unfold uB; omega
      rw [decide_eq_true hal, Bool.true_and, cond_true] at hk
      rw [eH, eL, i64_in (x := a.int + 1) (by omega) (by omega)]
      refine ⟨⟨by trivial, by trivial, show (0 : Int) ≤ a.int + 1 by omega, show a.int + 1 ≤ (b.list.length : Int) by omega, show b.list.length ≤ 1099511627776 by omega, show 0 ≤ uH b.list a.int by omega, show uH b.list a.int ≤ 15 by omega⟩, bi (fun hok => ?_) (fun hok => ?_)⟩
      · have hok : uOk b.list a.int = false := by
          rw [eR] at hok
          cases hu : uOk b.list a.int with
          | true => rw [hu] at hok; cases hok
          | false => rfl
        rw [hok, cond_false] at hk
        exact hk (.l xs)
      · have hok : uOk b.list a.int = true := by
          rw [eR] at hok
          cases hu : uOk b.list a.int with
          | true => rfl
          | false => rw [hu] at hok; cases hok
        rw [hok, cond_true] at hk eR
        have eN : sN b a = uN b.list a.int := by unfold sN; rw [eR]
        have eA : sA b a = uA b.list a.int := by unfold sA; rw [eR]
        have eB : sB b a = uB b.list a.int := by unfold sB uB; rw [eA, eN]; omega
        have eO : sO b a xs = uOut b.list a.int xs := by unfold sO uOut; rw [eA, eN, show uN b.list a.int - 0 = uN b.list a.int by omega]
        rw [eN, eA, eB, eO, show uN b.list a.int - 0 = uN b.list a.int by omega]
        refine ⟨⟨by trivial, by trivial, by trivial, by omega, by omega, hb, hm0, hm1, hx, by omega, by omega, by omega⟩, bi (fun hl => ?_) (fun hl => ?_)⟩
        · rw [hl, cond_true] at hk
          have hl' := litE_zero (by simpa using hl)
          rw [List.length_drop] at hl'
          have hBl : uB b.list a.int ≤ b.list.length := by unfold uB; omega
          have hOl : (uOut b.list a.int xs).length = xs.length + (uN b.list a.int).toNat := by
            unfold uOut
            rw [List.length_append, List.length_take, List.length_drop]
            omega
          refine bi (fun hbe => ?_) (fun hbe => ?_)
          · have hbe : uB b.list a.int = (b.list.length : Int) := by simpa using hbe
            rw [decide_eq_true hbe, cond_true] at hk
            exact hk.l
          · have hbe : ¬ uB b.list a.int = (b.list.length : Int) := by simpa using hbe
            rw [decide_eq_false hbe, cond_false] at hk
            rw [i64_in (x := (b.list.length : Int) - uB b.list a.int) (by omega) (by omega), i64_in (x := uB b.list a.int + 1) (by omega) (by omega), i64_in (x := uB b.list a.int + 2) (by omega) (by omega)]
            refine bd (fun h1 => ?_) (fun h1 => dt ⟨by omega, by omega⟩ (dt ⟨by omega, by omega⟩ ?_))
            · have hbad : uBad b.list a.int xs = true := by unfold uBad; rw [decide_eq_true (by omega)]; simp
              rw [hbad, cond_true] at hk
              exact hk (.l _)
            · have hy0 := hbk (uB b.list a.int).toNat (by omega)
              have hy1 := hbk (uB b.list a.int + 1).toNat (by omega)
              have eD : sD b a = uD b.list a.int := by
                unfold sD uD
                rw [eB, i64_in (x := uB b.list a.int + 1) (by omega) (by omega)]
                exact two_bytes hy0.1 hy0.2 hy1.1 hy1.2
              obtain ⟨hM0, hM1, hC0, hC1⟩ := uM_in hbk ha0 hal (by omega)
              have eQ : sQ b a = bif hOk (uL b.list a.int) (b.list.drop (uB b.list a.int + 2).toNat) then (true, uM b.list a.int, uC b.list a.int) else (false, 0, 0) := by
                unfold sQ
                rw [eL, eB, i64_in (x := uB b.list a.int + 2) (by omega) (by omega)]
                rfl
              have hD0 : 0 ≤ uD b.list a.int := by unfold uD; omega
              rw [eD]
              have hbad : uBad b.list a.int xs = ((uD b.list a.int == 0) || decide (((uOut b.list a.int xs).length : Int) < uD b.list a.int) || !(hOk (uL b.list a.int) (b.list.drop (uB b.list a.int + 2).toNat))) := by
                unfold uBad
                rw [decide_eq_false (by omega), Bool.false_or]
              rw [hbad] at hk
              refine bi (fun h2 => ?_) (fun h2 => bd (fun h3 => ?_) (fun h3 => ⟨⟨by trivial, by trivial, show (0 : Int) ≤ uB b.list a.int + 2 by omega, show uB b.list a.int + 2 ≤ (b.list.length : Int) by omega, show b.list.length ≤ 1099511627776 by omega, show 0 ≤ uL b.list a.int by omega, show uL b.list a.int ≤ 15 by omega⟩, bi (fun h4 => ?_) (fun h4 => ?_)⟩))
              · rw [h2, Bool.true_or, Bool.true_or, cond_true] at hk
                exact hk (.l _)
              · rw [decide_eq_true (by omega), Bool.or_true, Bool.true_or, cond_true] at hk
                exact hk (.l _)
              · have h4 : hOk (uL b.list a.int) (b.list.drop (uB b.list a.int + 2).toNat) = false := by
                  rw [eQ] at h4
                  cases hu : hOk (uL b.list a.int) (b.list.drop (uB b.list a.int + 2).toNat) with
                  | true => rw [hu] at h4; cases h4
                  | false => rfl
                rw [h4, Bool.not_false, Bool.or_true, cond_true] at hk
                exact hk (.l _)
              · have h4 : hOk (uL b.list a.int) (b.list.drop (uB b.list a.int + 2).toNat) = true := by
                  rw [eQ] at h4
                  cases hu : hOk (uL b.list a.int) (b.list.drop (uB b.list a.int + 2).toNat) with
                  | true => rfl
                  | false => rw [hu] at h4; cases h4
                rw [h4, cond_true] at eQ
                have eM : sM b a = uM b.list a.int := by unfold sM; rw [eQ]
                have eC : sC b a = uC b.list a.int := by unfold sC; rw [eQ]
                have eP : sP b a xs = cpL (uM b.list a.int + 4).toNat (uD b.list a.int).toNat (uOut b.list a.int xs) := by
                  unfold sP
                  rw [eM, eD, eO, show uM b.list a.int + 4 - 0 = uM b.list a.int + 4 by omega]
                rw [eM, eC, eP, show uM b.list a.int + 4 - 0 = uM b.list a.int + 4 by omega]
                have h2' : ¬ uD b.list a.int = 0 := by simpa using h2
                rw [h2, h4, decide_eq_false (by omega), Bool.not_true, Bool.or_false, Bool.or_false, cond_false] at hk
                refine ⟨⟨by trivial, by trivial, hm0, hm1, by omega, by omega, by omega, by omega, by omega, by omega, by omega⟩, bd (fun h5 => ?_) (fun h5 => ?_)⟩
                · rw [decide_eq_true h5, cond_true] at hk
                  exact hk
                · rw [decide_eq_false h5, cond_false] at hk
                  refine blt (by simp only [U.int_i]; omega) ⟨⟨by trivial, by trivial, by trivial, by omega, by omega, hb, hm0, hm1, by rw [cpL_len]; omega⟩, bd (fun h6 => ?_) (fun h6 => ?_)⟩
                  · rw [decide_eq_false (show ¬ uC b.list a.int = (b.list.length : Int) by omega), cond_false] at hk
                    rw [unp_fuel hbk f (b.list.length + 1 - (uC b.list a.int).toNat) (by omega) (by omega) (by omega)] at hk
                    exact hk
                  · rw [decide_eq_true (show uC b.list a.int = (b.list.length : Int) by omega), cond_true] at hk
                    exact hk.r
        · rw [hl, cond_false] at hk
          rw [show (litE (uN b.list a.int).toNat (List.drop (uA b.list a.int).toNat b.list) (m.int - (xs.length : Int)).toNat, ([] : List U)).1 = litE (uN b.list a.int).toNat (List.drop (uA b.list a.int).toNat b.list) (m.int - (xs.length : Int)).toNat from rfl, hl, cond_false] at hk
          exact hk
    · rw [decide_eq_false hal, cond_false] at hk
      exact hk
  · exact h.elim
theorem runp_ok : SpecFP PR 29 unpP unpS := fun fn us hfn hpre => by
  have hf : PR.funcs[(29 : Nat)]? = some Try.f29 := by kernel_rfl
  rw [hf] at hfn; cases hfn
  refine fn_okH (C := runpC) (mkC_ok eqs0_ok mixed_ok (.consP rlen_ok .nil) .nil) hf (by kernel_rfl) (loops_three (by kernel_rfl) runp_loop0 runp_loop2 runp_loop4) fun hok => ?_
  have hp : Try.f29.params.toList = [25, 3] := by kernel_rfl
  rw [hp] at hok
  obtain ⟨b, m, hus⟩ := unp_args hok.1
  subst hus
  have hb : b.list.length ≤ 1073741824 := hpre
  refine .eq (runp_tree _ b m) ?_
  rw [show unpS [[b], [m]] = [[.l (bif (unpX b.list m.int).1 == 0 then (unpX b.list m.int).2 else [])], [.i (unpX b.list m.int).1]] from rfl]
  unfold unpX
  refine bd (fun h1 => ?_) (fun h1 => bd (fun h2 => ?_) (fun h2 => ?_))
  · rw [decide_eq_true h1]; rfl
  · rw [decide_eq_true (show 1048576 < m.int by omega), Bool.or_true]; rfl
  · rw [decide_eq_false h1, decide_eq_false (show ¬ 1048576 < m.int by omega), Bool.or_false, cond_false]
    refine bi (fun h3 => ?_) (fun h3 => ?_)
    · have h3 : (b.list.length : Int) = 0 := by simpa using h3
      rw [unp, decide_eq_false (by omega), Bool.false_and, cond_false]
      rfl
    · have h3 : ¬ (b.list.length : Int) = 0 := by simpa using h3
      refine ⟨⟨by trivial, by trivial, by trivial, by omega, by omega, hb, by omega, by omega, by omega⟩, dt (by omega) (bi (fun h3 => ?_) (fun h3 => ?_))⟩
      · have h3 : ((unp b.list m.int (b.list.length + 1) 0 []).1 == 0) = true := h3
        have h4 : (unp b.list m.int (b.list.length + 1) 0 []).1 = 0 := by simpa using h3
        rw [h3, cond_true, h4]
        exact ⟨rfl, rfl⟩
      · have h3 : ((unp b.list m.int (b.list.length + 1) 0 []).1 == 0) = false := h3
        rw [h3, cond_false]
        exact fun _ => rfl
end Go.Mat

namespace Go.Mat
open Go Go.Den Go.Proofs
def cbN (g : U) : Int := IntKind.wrap IntKind.i64 ((16 : Int) * 2 ^ min (Int.toNat g.int) (IntKind.bits IntKind.i64))
def cbB (s c f : U) : List U := List.drop (Int.toNat (IntKind.wrap IntKind.i64 (s.int * 16))) (List.take (Int.toNat (IntKind.wrap IntKind.i64 (IntKind.wrap IntKind.i64 (s.int + c.int) * 16))) f.list)
def cbU (s c z f g : U) : Int × List U := unpX (List.drop (Int.toNat 0) (List.take (Int.toNat z.int) (cbB s c f))) (cbN g)
def cbV (s c z f g : U) : List U := bif Prod.fst (cbU s c z f g) == 0 then Prod.snd (cbU s c z f g) else []
def whN (f : U) : Int := IntKind.wrap IntKind.i64 ((bif decide ((65536 : Int) < IntKind.wrap IntKind.i64 (Int.tdiv ((List.length f.list : Nat) : Int) 16)) then (65536 : Int) else IntKind.wrap IntKind.i64 (Int.tdiv ((List.length f.list : Nat) : Int) 16)) * 16)
def whL (f : U) : List U := List.take (min (List.length f.list / 16) 65536 * 16) f.list
def rcB (s c f : U) : List U := List.drop (Int.toNat (IntKind.wrap IntKind.i64 (s.int * 16))) (List.take (Int.toNat (IntKind.wrap IntKind.i64 (IntKind.wrap IntKind.i64 (s.int + c.int) * 16))) (whL f))
def rcN (g : U) : Int := IntKind.wrap IntKind.i64 ((16 : Int) * 2 ^ min (Int.toNat (IntKind.wrap IntKind.u64 g.int)) (IntKind.bits IntKind.i64))
def rcU (s c z f g : U) : Int × List U := unpX (List.drop (Int.toNat 0) (List.take (Int.toNat z.int) (rcB s c f))) (rcN g)
def rcV (s c z f g : U) : List U := bif Prod.fst (rcU s c z f g) == 0 then Prod.snd (rcU s c z f g) else []
def cbFin (b : List U) (m g : Int) : Int × List U := bif ((b.length : Int) == 16 * 2 ^ g.toNat) && (sumI 0 b == m) then (0, b) else (13, [])
def cbX (k s c z m g : Int) (f : List U) : Int × List U :=
  bif mayR k s c z m g then
    bif (k == 0) || (k == 1) then (0, List.replicate (16 * 2 ^ g.toNat) (.i 0)) else
    bif decide (((f.length / 16 : Nat) : Int) < s + c) then (6, []) else
    bif k == 3 then (bif (unpX (((f.take ((s + c) * 16).toNat).drop (s * 16).toNat).take z.toNat) (16 * 2 ^ g.toNat)).1 == 0 then cbFin (unpX (((f.take ((s + c) * 16).toNat).drop (s * 16).toNat).take z.toNat) (16 * 2 ^ g.toNat)).2 m g else (13, []))
    else cbFin ((f.take ((s + c) * 16).toNat).drop (s * 16).toNat) m g
  else (1, [])
def bytesX (us : List (List U)) : Int × List U := cbX (nth (.i 0) (nth [] us 0) 0).int (nth (.i 0) (nth [] us 0) 1).int (nth (.i 0) (nth [] us 0) 2).int (nth (.i 0) (nth [] us 0) 3).int (nth (.i 0) (nth [] us 0) 4).int (nth (.i 0) (nth [] us 2) 0).int (nth (.i 0) (nth [] us 1) 0).list
def bytesS : List (List U) → List (List U) := fun us => [[.l (bytesX us).2], [.i (bytesX us).1]]
noncomputable def cbC : Ctx := mkC PR eqs0 (fnsCons 23 mayS (fnsConsP 24 cloneP cloneS (fnsConsP 25 unpP unpS (fnsCons 26 sumS fnsNil)))) trsNil noLoops noOut noOut
theorem bytes_tree (R : RF) (k s c z m f g : U) : (run cbC Try.f10 [[k, s, c, z, m], [f], [g]] R) = (bif !mayR k.int s.int c.int z.int m.int g.int then R [[U.l []],[U.i 1]] else bif decide (g.int < 0) then False else bif k.int == 0 then bif decide ((0:Int) ≤ cbN g ∧ cbN g ≤ cbN g ∧ cbN g ≤ (↑room:Int)) then R [[U.l (List.replicate (Int.toNat (cbN g)) (U.i 0))],[U.i 0]] else False else bif k.int == 1 then bif decide ((0:Int) ≤ cbN g ∧ cbN g ≤ cbN g ∧ cbN g ≤ (↑room:Int)) then R [[U.l (List.replicate (Int.toNat (cbN g)) (U.i 0))],[U.i 0]] else False else bif decide (IntKind.wrap .i64 (s.int + c.int) > IntKind.wrap .i64 (Int.tdiv (f.list.length:Int) 16)) then R [[U.l []],[U.i 6]] else bif decide ((0:Int) ≤ IntKind.wrap .i64 (s.int * 16) ∧ IntKind.wrap .i64 (s.int * 16) ≤ IntKind.wrap .i64 (IntKind.wrap .i64 (s.int + c.int) * 16) ∧ IntKind.wrap .i64 (IntKind.wrap .i64 (s.int + c.int) * 16) ≤ IntKind.wrap .i64 (IntKind.wrap .i64 (s.int + c.int) * 16) ∧ IntKind.wrap .i64 (IntKind.wrap .i64 (s.int + c.int) * 16) ≤ (f.list.length:Int)) && true then cloneP [[U.l (cbB s c f)]] ∧ bif k.int == 3 then bif decide ((0:Int) ≤ 0 ∧ (0:Int) ≤ z.int ∧ z.int ≤ z.int ∧ z.int ≤ (↑(List.length (cbB s c f)):Int)) && true then unpP [[U.l (List.drop (Int.toNat 0) (List.take (Int.toNat z.int) (cbB s c f)))],[U.i (cbN g)]] ∧ bif Prod.fst (cbU s c z f g) != 0 then R [[U.l []],[U.i 13]] else bif (↑(List.length (cbV s c z f g)):Int) != cbN g then R [[U.l []],[U.i 13]] else bif sumI 0 (cbV s c z f g) != m.int then R [[U.l []],[U.i 13]] else R [[U.l (cbV s c z f g)],[U.i 0]] else False else bif (↑(List.length (cbB s c f)):Int) != cbN g then R [[U.l []],[U.i 13]] else bif sumI 0 (cbB s c f) != m.int then R [[U.l []],[U.i 13]] else R [[U.l (cbB s c f)],[U.i 0]] else False) := by kernel_rfl
def wholeS : List (List U) → List (List U) := fun us => [[.l ((nth (.i 0) (nth [] us 0) 0).list.take (min ((nth (.i 0) (nth [] us 0) 0).list.length / 16) 65536 * 16))]]
theorem rwhole_tree (R : RF) (f : U) : (run K0 Try.f28 [[f]] R) = (bif decide ((0 : Int) ≤ 0 ∧ (0 : Int) ≤ whN f ∧ whN f ≤ whN f ∧ whN f ≤ (↑(List.length f.list) : Int)) && true then R [[U.l (List.drop (Int.toNat 0) (List.take (Int.toNat (whN f)) f.list))]] else False) := by kernel_rfl
theorem whole_tree (R : RF) (f : U) : (run K0 Try.f38 [[f]] R) = (bif decide ((0 : Int) ≤ 0 ∧ (0 : Int) ≤ whN f ∧ whN f ≤ whN f ∧ whN f ≤ (↑(List.length f.list) : Int)) && true then R [[U.l (List.drop (Int.toNat 0) (List.take (Int.toNat (whN f)) f.list))]] else False) := by kernel_rfl
noncomputable def rcbC : Ctx := mkC PR eqs0 (fnsCons 27 mayS (fnsCons 28 wholeS (fnsConsP 29 unpP unpS (fnsCons 19 sumS fnsNil)))) trsNil noLoops noOut noOut
theorem rbytes_tree (R : RF) (k s c z m f g : U) : (run rcbC Try.f11 [[k, s, c, z, m], [f], [g]] R) = (bif !mayR k.int s.int c.int z.int m.int g.int then R [[U.l []],[U.i 1]] else bif decide (IntKind.wrap .u64 g.int < 0) then False else bif k.int == 0 then bif decide ((0:Int) ≤ rcN g ∧ rcN g ≤ rcN g ∧ rcN g ≤ (↑room:Int)) then R [[U.l (List.replicate (Int.toNat (rcN g)) (U.i 0))],[U.i 0]] else False else bif k.int == 1 then bif decide ((0:Int) ≤ rcN g ∧ rcN g ≤ rcN g ∧ rcN g ≤ (↑room:Int)) then R [[U.l (List.replicate (Int.toNat (rcN g)) (U.i 0))],[U.i 0]] else False else bif decide (IntKind.wrap .i64 (s.int + c.int) > IntKind.wrap .i64 (Int.tdiv (↑(List.length (whL f)):Int) 16)) then R [[U.l []],[U.i 6]] else bif decide ((0:Int) ≤ IntKind.wrap .i64 (s.int * 16) ∧ IntKind.wrap .i64 (s.int * 16) ≤ IntKind.wrap .i64 (IntKind.wrap .i64 (s.int + c.int) * 16) ∧ IntKind.wrap .i64 (IntKind.wrap .i64 (s.int + c.int) * 16) ≤ IntKind.wrap .i64 (IntKind.wrap .i64 (s.int + c.int) * 16) ∧ IntKind.wrap .i64 (IntKind.wrap .i64 (s.int + c.int) * 16) ≤ (↑(List.length (whL f)):Int)) && true then bif k.int == 3 then bif decide ((0:Int) ≤ 0 ∧ (0:Int) ≤ z.int ∧ z.int ≤ z.int ∧ z.int ≤ (↑(List.length (rcB s c f)):Int)) && true then unpP [[U.l (List.drop (Int.toNat 0) (List.take (Int.toNat z.int) (rcB s c f)))],[U.i (rcN g)]] ∧ bif Prod.fst (rcU s c z f g) != 0 then R [[U.l []],[U.i 13]] else bif (↑(List.length (rcV s c z f g)):Int) != rcN g then R [[U.l []],[U.i 13]] else bif sumI 0 (rcV s c z f g) != m.int then R [[U.l []],[U.i 13]] else bif decide ((0:Nat) + List.length (rcV s c z f g) ≤ room) && true then R [[U.l ([] ++ bif Prod.fst (rcU s c z f g) == 0 then Prod.snd (rcU s c z f g) else [])],[U.i 0]] else False else False else bif (↑(List.length (rcB s c f)):Int) != rcN g then R [[U.l []],[U.i 13]] else bif sumI 0 (rcB s c f) != m.int then R [[U.l []],[U.i 13]] else bif decide ((0:Nat) + List.length (rcB s c f) ≤ room) && true then R [[U.l ([] ++ rcB s c f)],[U.i 0]] else False else False) := by kernel_rfl
end Go.Mat

namespace Go.Mat
open Go Go.Den Go.Proofs
set_option maxRecDepth 100000
theorem may_facts {k s c z m g : Int} (h : mayR k s c z m g = true) : 0 ≤ g ∧ g ≤ 6 ∧ (k = 0 ∨ k = 1 ∨ (k = 2 ∨ k = 3) ∧ 2 ≤ s ∧ 0 ≤ c ∧ c ≤ 64 ∧ s + c ≤ 65536 ∧ (k = 2 → c = 2 ^ g.toNat) ∧ (k = 3 → 1 ≤ z ∧ z ≤ c * 16)) := by
  unfold mayR at h
  split at h
  · cases h
  rename_i hg
  have h64 : (2 : Int) ^ g.toNat ≤ 64 := by
    have h1 : g.toNat ≤ 6 := by omega
    have : (2 : Nat) ^ g.toNat ≤ 2 ^ 6 := Nat.pow_le_pow_right (by decide) h1
    have e : ((2 ^ g.toNat : Nat) : Int) = (2 : Int) ^ g.toNat := by norm_cast
    omega
  refine ⟨by omega, by omega, ?_⟩
  split at h
  · rename_i hk
    rcases hk with hk | hk
    · exact .inl hk
    · exact .inr (.inl hk)
  split at h
  · rename_i hk
    rw [Bool.and_eq_true] at h
    have h1 := of_decide_eq_true h.1
    have h2 := h.2
    unfold placeR at h2
    simp only [Bool.and_eq_true, decide_eq_true_eq] at h2
    exact .inr (.inr ⟨.inl hk, by omega, by omega, by omega, by omega, fun _ => h1.1, by omega⟩)
  split at h
  · rename_i hk
    rw [Bool.and_eq_true] at h
    have h1 := of_decide_eq_true h.1
    have h2 := h.2
    unfold placeR at h2
    simp only [Bool.and_eq_true, decide_eq_true_eq] at h2
    exact .inr (.inr ⟨.inr hk, by omega, by omega, by omega, by omega, by omega, by omega⟩)
  · cases h
theorem cbN_eq {g : U} (h0 : 0 ≤ g.int) (h6 : g.int ≤ 6) : cbN g = 16 * 2 ^ g.int.toNat ∧ 16 ≤ (16 : Int) * 2 ^ g.int.toNat ∧ (16 : Int) * 2 ^ g.int.toNat ≤ 1024 := by
  have h64 : (2 : Int) ^ g.int.toNat ≤ 64 ∧ 1 ≤ (2 : Int) ^ g.int.toNat := by
    have h1 : g.int.toNat ≤ 6 := by omega
    have : (2 : Nat) ^ g.int.toNat ≤ 2 ^ 6 := Nat.pow_le_pow_right (by decide) h1
    have h2 : 1 ≤ (2 : Nat) ^ g.int.toNat := Nat.one_le_two_pow
    have e : ((2 ^ g.int.toNat : Nat) : Int) = (2 : Int) ^ g.int.toNat := by norm_cast
    omega
  refine ⟨?_, by omega, by omega⟩
  unfold cbN
  rw [Nat.min_eq_left (by simp [IntKind.bits]; omega)]
  exact i64_in (by omega) (by omega)
theorem rcN_eq {g : U} (h0 : 0 ≤ g.int) (h6 : g.int ≤ 6) : rcN g = cbN g := by
  unfold rcN cbN
  rw [show IntKind.wrap .u64 g.int = g.int by simp only [IntKind.wrap, IntKind.bits, IntKind.signed]; simp; omega]
theorem whN_eq {f : U} (hl : f.list.length ≤ maxLen) : whN f = ((min (f.list.length / 16) 65536 * 16 : Nat) : Int) := by
  unfold maxLen at hl
  unfold whN
  have e1 : IntKind.wrap .i64 (Int.tdiv (f.list.length : Int) 16) = ((f.list.length / 16 : Nat) : Int) := by
    rw [Int.tdiv_eq_ediv_of_nonneg (by omega)]
    exact i64_in (by omega) (by omega)
  rw [e1]
  have e2 : (bif decide ((65536 : Int) < ((f.list.length / 16 : Nat) : Int)) then (65536 : Int) else ((f.list.length / 16 : Nat) : Int)) = ((min (f.list.length / 16) 65536 : Nat) : Int) := by
    by_cases h : (65536 : Int) < ((f.list.length / 16 : Nat) : Int)
    · rw [decide_eq_true h, cond_true]; omega
    · rw [decide_eq_false h, cond_false]; omega
  rw [e2, i64_in (by omega) (by omega)]
  omega
theorem whole_ok : SpecF PR 38 wholeS := fun fn us hfn => by
  have hf : PR.funcs[(38 : Nat)]? = some Try.f38 := by kernel_rfl
  rw [hf] at hfn; cases hfn
  refine fn_okH (C := K0) (mkC_ok eqs0_ok mixed_ok .nil .nil) hf (by kernel_rfl) (loops_none (by kernel_rfl)) fun hok => ?_
  have hp : Try.f38.params.toList = [25] := by kernel_rfl
  rw [hp] at hok
  obtain ⟨f, hus⟩ := bytes_args hok.1
  have hl : f.list.length ≤ maxLen := by
    subst hus
    exact (hok.2 [vl (.int .u8) f] (by kernel_rfl)).1.1
  subst hus
  refine .eq (whole_tree _ f) ?_
  rw [whN_eq hl]
  refine broom (by omega) rfl ?_
  rw [Int.toNat_natCast]
  rfl
theorem rwhole_ok : SpecF PR 28 wholeS := fun fn us hfn => by
  have hf : PR.funcs[(28 : Nat)]? = some Try.f28 := by kernel_rfl
  rw [hf] at hfn; cases hfn
  refine fn_okH (C := K0) (mkC_ok eqs0_ok mixed_ok .nil .nil) hf (by kernel_rfl) (loops_none (by kernel_rfl)) fun hok => ?_
  have hp : Try.f28.params.toList = [25] := by kernel_rfl
  rw [hp] at hok
  obtain ⟨f, hus⟩ := bytes_args hok.1
  have hl : f.list.length ≤ maxLen := by
    subst hus
    exact (hok.2 [vl (.int .u8) f] (by kernel_rfl)).1.1
  subst hus
  refine .eq (rwhole_tree _ f) ?_
  rw [whN_eq hl]
  refine broom (by omega) rfl ?_
  rw [Int.toNat_natCast]
  rfl
theorem ent3_args {us : List (List U)} (h : shapeOk PR [24, 25, 3] us) : ∃ k s c z m f g, us = [[k, s, c, z, m], [f], [g]] := by
  obtain ⟨u, u2, u3, rfl, h1, h2, h3⟩ := shape3 (by kernel_rfl : Cs PR 24 = some (true, [.int .i64, .int .i64, .int .i64, .int .i64, .int .u32])) (by kernel_rfl : Cs PR 25 = some (false, [.sl false [.int .u8]])) (by kernel_rfl : Cs PR 3 = some (false, [.int .i64])) h
  obtain ⟨k, s, c, z, m, rfl⟩ := len5 h1
  obtain ⟨f, rfl⟩ := len1 h2
  obtain ⟨g, rfl⟩ := len1 h3
  exact ⟨k, s, c, z, m, f, g, rfl⟩
theorem cbFin_eq {b : List U} {m g : Int} {R : RF} (hR : ∀ e l, cbFin b m g = (e, l) → R [[.l l], [.i e]]) : bif (b.length : Int) != 16 * 2 ^ g.toNat then R [[U.l []], [U.i 13]] else bif sumI 0 b != m then R [[U.l []], [U.i 13]] else R [[U.l b], [U.i 0]] := by
  unfold cbFin at hR
  refine bi (fun h => ?_) (fun h => bi (fun h2 => ?_) (fun h2 => ?_))
  · have h : ((b.length : Int) == 16 * 2 ^ g.toNat) = false := by simpa using h
    rw [h, Bool.false_and, cond_false] at hR
    exact hR _ _ rfl
  · have h2 : (sumI 0 b == m) = false := by simpa using h2
    rw [h2, Bool.and_false, cond_false] at hR
    exact hR _ _ rfl
  · have h : ((b.length : Int) == 16 * 2 ^ g.toNat) = true := by simpa using h
    have h2 : (sumI 0 b == m) = true := by simpa using h2
    rw [h, h2, Bool.and_true, cond_true] at hR
    exact hR _ _ rfl
theorem bytes_ok15 : SpecF PR 10 bytesS := fun fn us hfn => by
  have hf : PR.funcs[(10 : Nat)]? = some Try.f10 := by kernel_rfl
  rw [hf] at hfn; cases hfn
  refine fn_okH (C := cbC) (mkC_ok eqs0_ok mixed_ok (.cons may_ok (.consP clone_ok (.consP unp_ok (.cons sum_ok .nil)))) .nil) hf (by kernel_rfl) (loops_none (by kernel_rfl)) fun hok => ?_
  have hp : Try.f10.params.toList = [24, 25, 3] := by kernel_rfl
  rw [hp] at hok
  obtain ⟨k, s, c, z, m, f, g, hus⟩ := ent3_args hok.1
  have hl : f.list.length ≤ maxLen := by
    subst hus
    exact (hok.2 [.agg [vi k, vi s, vi c, vi z, vw m], vl (.int .u8) f, vi g] (by kernel_rfl)).2.1.1
  subst hus
  unfold maxLen at hl
  refine .eq (bytes_tree _ k s c z m f g) ?_
  rw [show bytesS [[k, s, c, z, m], [f], [g]] = [[.l (cbX k.int s.int c.int z.int m.int g.int f.list).2], [.i (cbX k.int s.int c.int z.int m.int g.int f.list).1]] from rfl]
  refine bi (fun h => ?_) (fun h => df (fun hg => ?_) ?_)
  · unfold cbX
    rw [nt h]; rfl
  · have := may_facts (nf h)
    omega
  · obtain ⟨hg0, hg6, hcases⟩ := may_facts (nf h)
    obtain ⟨hN, hN0, hN1⟩ := cbN_eq hg0 hg6
    unfold cbX
    rw [nf h, cond_true, hN]
    refine bi (fun h0 => ?_) (fun h0 => bi (fun h1 => ?_) (fun h1 => ?_))
    · rw [h0, Bool.true_or, cond_true]
      exact dt ⟨by omega, by omega, by unfold room; omega⟩ (by rw [show ((16 : Int) * 2 ^ g.int.toNat).toNat = 16 * 2 ^ g.int.toNat by norm_cast])
    · rw [h1, Bool.or_true, cond_true]
      exact dt ⟨by omega, by omega, by unfold room; omega⟩ (by rw [show ((16 : Int) * 2 ^ g.int.toNat).toNat = 16 * 2 ^ g.int.toNat by norm_cast])
    · have k0 : ¬ k.int = 0 := by simpa using h0
      have k1 : ¬ k.int = 1 := by simpa using h1
      obtain ⟨hk, hs, hc0, hc1, hsc, hk2, hk3⟩ := (hcases.resolve_left k0).resolve_left k1
      have e1 : IntKind.wrap .i64 (Int.tdiv (f.list.length : Int) 16) = ((f.list.length / 16 : Nat) : Int) := by
        rw [Int.tdiv_eq_ediv_of_nonneg (by omega)]
        exact i64_in (by omega) (by omega)
      have hB : cbB s c f = (f.list.take ((s.int + c.int) * 16).toNat).drop (s.int * 16).toNat := by
        unfold cbB
        rw [i64_in (x := s.int + c.int) (by omega) (by omega), i64_in (x := s.int * 16) (by omega) (by omega), i64_in (x := (s.int + c.int) * 16) (by omega) (by omega)]
      rw [h0, h1, Bool.or_false, cond_false, e1, i64_in (x := s.int + c.int) (by omega) (by omega), i64_in (x := s.int * 16) (by omega) (by omega), i64_in (x := (s.int + c.int) * 16) (by omega) (by omega)]
      refine bd (fun h2 => ?_) (fun h2 => ?_)
      · rw [show decide (((f.list.length / 16 : Nat) : Int) < s.int + c.int) = true from decide_eq_true (by omega), cond_true]
      · rw [show decide (((f.list.length / 16 : Nat) : Int) < s.int + c.int) = false from decide_eq_false (by omega), cond_false]
        have hBl : (cbB s c f).length = (c.int * 16).toNat := by
          rw [hB, List.length_drop, List.length_take]
          omega
        refine broom (by omega) rfl ⟨show (cbB s c f).length ≤ 1073741824 by omega, bi (fun h3 => ?_) (fun h3 => ?_)⟩
        · have hk3 := hk3 (by simpa using h3)
          have hz : z.int ≤ ((cbB s c f).length : Int) := by omega
          have hU : cbU s c z f g = unpX (((f.list.take ((s.int + c.int) * 16).toNat).drop (s.int * 16).toNat).take z.int.toNat) (16 * 2 ^ g.int.toNat) := by
            unfold cbU
            rw [hB, hN]
            rfl
          have hV : (cbU s c z f g).1 = 0 → cbV s c z f g = (cbU s c z f g).2 := fun h => by
            unfold cbV
            rw [h]; rfl
          rw [h3, cond_true, ← hU]
          refine broom (by omega) rfl ⟨show ((cbB s c f).take z.int.toNat).length ≤ 1073741824 by rw [List.length_take]; omega, bi (fun h4 => ?_) (fun h4 => ?_)⟩
          · have h4 : ((cbU s c z f g).1 == 0) = false := by simpa using h4
            rw [h4]; rfl
          · have h4 : (cbU s c z f g).1 = 0 := by simpa using h4
            rw [hV h4, h4]
            exact cbFin_eq (R := fun v => v = _) fun e l he => by rw [he]; rfl
        · rw [h3, cond_false, hB]
          exact cbFin_eq (R := fun v => v = _) fun e l he => by rw [he]
theorem unp_room {b : List U} {m : Int} : ∀ (f : Nat) {a : Int} {out : List U}, (out.length : Int) ≤ m → ((unp b m f a out).2.length : Int) ≤ m
  | 0, _, _, h => by simp [unp]; omega
  | f + 1, a, out, h => by
    rw [unp]
    have h0 : (0 : Int) ≤ m := by omega
    cases decide (a < (b.length : Int)) && uOk b a with
    | false => simpa using h0
    | true =>
      rw [cond_true]
      cases hl : (litE (uN b a).toNat (b.drop (uA b a).toNat) (m - out.length).toNat == 0) with
      | false => simpa using h0
      | true =>
        have hl' := litE_zero (by simpa using hl)
        have hO : ((uOut b a out).length : Int) ≤ m := by
          unfold uOut
          rw [List.length_append, List.length_take]
          omega
        rw [cond_true]
        cases decide (uB b a = (b.length : Int)) with
        | true => exact hO
        | false =>
          rw [cond_false]
          cases uBad b a out with
          | true => simpa using h0
          | false =>
            rw [cond_false]
            cases hd : decide (m - ((uOut b a out).length : Int) < uM b a + 4) with
            | true => simpa using h0
            | false =>
              have hd := of_decide_eq_false hd
              have hP : ((cpL (uM b a + 4).toNat (uD b a).toNat (uOut b a out)).length : Int) ≤ m := by
                rw [cpL_len]; omega
              rw [cond_false]
              cases decide (uC b a = (b.length : Int)) with
              | true => exact hP
              | false => exact unp_room f hP
theorem rbytes_ok : SpecF PR 11 bytesS := fun fn us hfn => by
  have hf : PR.funcs[(11 : Nat)]? = some Try.f11 := by kernel_rfl
  rw [hf] at hfn; cases hfn
  refine fn_okH (C := rcbC) (mkC_ok eqs0_ok mixed_ok (.cons rmay_ok (.cons rwhole_ok (.consP runp_ok (.cons rsum_ok .nil)))) .nil) hf (by kernel_rfl) (loops_none (by kernel_rfl)) fun hok => ?_
  have hp : Try.f11.params.toList = [24, 25, 3] := by kernel_rfl
  rw [hp] at hok
  obtain ⟨k, s, c, z, m, f, g, hus⟩ := ent3_args hok.1
  have hl : f.list.length ≤ maxLen := by
    subst hus
    exact (hok.2 [.agg [vi k, vi s, vi c, vi z, vw m], vl (.int .u8) f, vi g] (by kernel_rfl)).2.1.1
  subst hus
  unfold maxLen at hl
  refine .eq (rbytes_tree _ k s c z m f g) ?_
  rw [show bytesS [[k, s, c, z, m], [f], [g]] = [[.l (cbX k.int s.int c.int z.int m.int g.int f.list).2], [.i (cbX k.int s.int c.int z.int m.int g.int f.list).1]] from rfl]
  refine bi (fun h => ?_) (fun h => df (fun hg => ?_) ?_)
  · unfold cbX
    rw [nt h]; rfl
  · have := may_facts (nf h)
    have e : IntKind.wrap .u64 g.int = g.int := by simp only [IntKind.wrap, IntKind.bits, IntKind.signed]; simp; omega
    omega
  · obtain ⟨hg0, hg6, hcases⟩ := may_facts (nf h)
    obtain ⟨hN, hN0, hN1⟩ := cbN_eq hg0 hg6
    unfold cbX
    rw [nf h, cond_true, rcN_eq hg0 hg6, hN]
    refine bi (fun h0 => ?_) (fun h0 => bi (fun h1 => ?_) (fun h1 => ?_))
    · rw [h0, Bool.true_or, cond_true]
      exact dt ⟨by omega, by omega, by unfold room; omega⟩ (by rw [show ((16 : Int) * 2 ^ g.int.toNat).toNat = 16 * 2 ^ g.int.toNat by norm_cast])
    · rw [h1, Bool.or_true, cond_true]
      exact dt ⟨by omega, by omega, by unfold room; omega⟩ (by rw [show ((16 : Int) * 2 ^ g.int.toNat).toNat = 16 * 2 ^ g.int.toNat by norm_cast])
    · have k0 : ¬ k.int = 0 := by simpa using h0
      have k1 : ¬ k.int = 1 := by simpa using h1
      obtain ⟨hk, hs, hc0, hc1, hsc, hk2, hk3⟩ := (hcases.resolve_left k0).resolve_left k1
      have hW : (whL f).length = min (f.list.length / 16) 65536 * 16 := by
        unfold whL
        rw [List.length_take]
        omega
      have e1 : IntKind.wrap .i64 (Int.tdiv ((whL f).length : Int) 16) = ((min (f.list.length / 16) 65536 : Nat) : Int) := by
        rw [Int.tdiv_eq_ediv_of_nonneg (by omega), hW, i64_in (by omega) (by omega)]
        omega
      rw [h0, h1, Bool.or_false, cond_false, e1, i64_in (x := s.int + c.int) (by omega) (by omega), i64_in (x := s.int * 16) (by omega) (by omega), i64_in (x := (s.int + c.int) * 16) (by omega) (by omega)]
      refine bd (fun h2 => ?_) (fun h2 => ?_)
      · rw [show decide (((f.list.length / 16 : Nat) : Int) < s.int + c.int) = true from decide_eq_true (by omega), cond_true]
      · rw [show decide (((f.list.length / 16 : Nat) : Int) < s.int + c.int) = false from decide_eq_false (by omega), cond_false]
        have hB : rcB s c f = (f.list.take ((s.int + c.int) * 16).toNat).drop (s.int * 16).toNat := by
          unfold rcB whL
          rw [i64_in (x := s.int + c.int) (by omega) (by omega), i64_in (x := s.int * 16) (by omega) (by omega), i64_in (x := (s.int + c.int) * 16) (by omega) (by omega), List.take_take, Nat.min_eq_left (by omega)]
        have hBl : (rcB s c f).length = (c.int * 16).toNat := by
          rw [hB, List.length_drop, List.length_take]
          omega
        refine broom (by omega) rfl (bi (fun h3 => ?_) (fun h3 => ?_))
        · have hk3 := hk3 (by simpa using h3)
          have hz : z.int ≤ ((rcB s c f).length : Int) := by omega
          have hU : rcU s c z f g = unpX (((f.list.take ((s.int + c.int) * 16).toNat).drop (s.int * 16).toNat).take z.int.toNat) (16 * 2 ^ g.int.toNat) := by
            unfold rcU
            rw [hB, rcN_eq hg0 hg6, hN]
            rfl
          have hV : (rcU s c z f g).1 = 0 → rcV s c z f g = (rcU s c z f g).2 := fun h => by
            unfold rcV
            rw [h]; rfl
          have hUl : ((rcU s c z f g).2.length : Int) ≤ 1048576 := by
            rw [hU]
            unfold unpX
            rw [decide_eq_false (by omega), decide_eq_false (by omega), Bool.or_false, cond_false]
            have := unp_room (b := ((f.list.take ((s.int + c.int) * 16).toNat).drop (s.int * 16).toNat).take z.int.toNat) (m := 16 * 2 ^ g.int.toNat) ((((f.list.take ((s.int + c.int) * 16).toNat).drop (s.int * 16).toNat).take z.int.toNat).length + 1) (a := 0) (out := []) (by simp; omega)
            omega
          rw [h3, cond_true, ← hU]
          refine broom (by omega) rfl ⟨show ((rcB s c f).take z.int.toNat).length ≤ 1073741824 by rw [List.length_take]; omega, bi (fun h4 => ?_) (fun h4 => ?_)⟩
          · have h4 : ((rcU s c z f g).1 == 0) = false := by simpa using h4
            rw [h4]; rfl
          · have h4 : (rcU s c z f g).1 = 0 := by simpa using h4
            rw [hV h4, h4]
            have hr : ∀ x : Prop, (bif decide (0 + (rcU s c z f g).2.length ≤ room) && true then x else False) = x := fun x => by
              rw [decide_eq_true (by unfold room; omega)]; rfl
            rw [hr]
            exact cbFin_eq (R := fun v => v = _) fun e l he => by rw [he]; rfl
        · have hr : ∀ x : Prop, (bif decide (0 + (rcB s c f).length ≤ room) && true then x else False) = x := fun x => by
            rw [decide_eq_true (by unfold room; omega)]; rfl
          rw [h3, cond_false, hr, hB]
          exact cbFin_eq (R := fun v => v = _) fun e l he => by rw [he]
end Go.Mat

namespace Go.Mat
open Go Go.Den Go.Proofs
def tS15 : List (List U) → List (List U) := fun _ => [[.b true]]
def nS15 : List (List U) → List (List U) := fun us => [[nth (.i 0) (nth [] us 0) 0]]
theorem num_tree (R : RF) (n : U) : (run K0 Try.f12 [[n]] R) = (R [[n]]) := by kernel_rfl
noncomputable def lcbC : Ctx := mkC PR eqs0 (fnsCons 9 tS15 (fnsCons 10 bytesS (fnsCons 11 bytesS (fnsCons 12 nS15 fnsNil)))) trsNil noLoops noOut noOut
theorem lcb_tree (R : RF) (k s c z m f g : U) : (run lcbC Try.f3 [[k, s, c, z, m], [f], [g]] R) = (bif decide ((↑(List.length f.list) : Int) > 20000) then R [[U.b true]] else bif ByteArray.toList (ByteArray.mk (List.toArray (List.map (fun x => UInt8.ofNat (Int.toNat x.int)) (Prod.snd (bytesX [[k, s,
  c, z, m], [f], [g]]))))) == ByteArray.toList (ByteArray.mk (List.toArray (List.map (fun x => UInt8.ofNat (Int.toNat x.int)) (Prod.snd (bytesX [[k, s, c, z, m], [f], [g]]))))) then bif Prod.fst (bytesX
  [[k, s, c, z, m], [f], [g]]) == Prod.fst (bytesX [[k, s, c, z, m], [f], [g]]) then bif ByteArray.toList (ByteArray.mk (List.toArray (List.map (fun x => UInt8.ofNat (Int.toNat x.int)) f.list))) == ByteArray.toList
  (ByteArray.mk (List.toArray (List.map (fun x => UInt8.ofNat (Int.toNat x.int)) f.list))) then R [[U.b true]] else R [[U.b false]] else R [[U.b false]] else R [[U.b false]]) := by kernel_rfl
end Go.Mat

namespace Go.Mat
open Go Go.Den Go.Proofs
set_option maxRecDepth 100000
theorem awake15_ok : SpecF PR 9 tS15 := fun fn us hfn => by
  have hf : PR.funcs[(9 : Nat)]? = some Try.f9 := by kernel_rfl
  rw [hf] at hfn; cases hfn
  cases us with
  | nil => exact fnOk_true (tb := 4) (by kernel_rfl) (by kernel_rfl) (by kernel_rfl) (by kernel_rfl) (by kernel_rfl) (fun w => AM.go_true AM.W15tb mixed_ok (vs := []) (X := fun _ => .bool true) (fun _ => rfl) trivial AM.awrun w)
  | cons u r =>
    have hp : Try.f9.params.toList = [] := by kernel_rfl
    exact { body := by kernel_rfl, name := by kernel_rfl, calls := fun w Z vs hZ hx ⟨svs, h1, h2⟩ => by rw [hp] at h1; cases h1 }
theorem num15_ok : SpecF PR 12 nS15 := fun fn us hfn => by
  have hf : PR.funcs[(12 : Nat)]? = some Try.f12 := by kernel_rfl
  rw [hf] at hfn; cases hfn
  refine fn_okH (C := K0) (mkC_ok eqs0_ok mixed_ok .nil .nil) hf (by kernel_rfl) (loops_none (by kernel_rfl)) fun hok => ?_
  have hp : Try.f12.params.toList = [27] := by kernel_rfl
  rw [hp] at hok
  obtain ⟨u, rfl, h1⟩ := shape1 (by kernel_rfl : Cs PR 27 = some (false, [.int .i64])) hok.1
  obtain ⟨n, rfl⟩ := len1 h1
  exact .eq (num_tree _ n) rfl
theorem lcb_ok : SpecF PR 3 tS15 := fun fn us hfn => by
  have hf : PR.funcs[(3 : Nat)]? = some Try.f3 := by kernel_rfl
  rw [hf] at hfn; cases hfn
  refine fn_okH (C := lcbC) (mkC_ok eqs0_ok mixed_ok (.cons awake15_ok (.cons bytes_ok15 (.cons rbytes_ok (.cons num15_ok .nil)))) .nil) hf (by kernel_rfl) (loops_none (by kernel_rfl)) fun hok => ?_
  have hp : Try.f3.params.toList = [24, 25, 3] := by kernel_rfl
  rw [hp] at hok
  obtain ⟨k, s, c, z, m, f, g, hus⟩ := ent3_args hok.1
  subst hus
  refine .eq (lcb_tree _ k s c z m f g) ?_
  exact bd (fun _ => rfl) (fun _ => bt (by simp) (bt (by simp) (bt (by simp) rfl)))
end Go.Mat
