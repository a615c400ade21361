/- A part of the proof of this: A right meta is read back, also after what was read has been spoilt. Conditions: none. Joined of B15, F15, B16, F16, B17, F17, B19, F19, F20, B22, F22, B23, F23, F24, F25, B30, F30, B31, F31, B32. -/
import Derived.Test.YtmgncojckndckaaC3
import Derived.KernelRfl
namespace Go.Mat
open Go Go.Den Go.Proofs
def shotsB (c : Int) : List U → List U
  | [] => []
  | s :: r => textB [] (e0 s).str ++ num [] 2 (e1 s).int ++ tabX (e2 s).list c ++ shotsB c r
def mapsB : List U → List U
  | [] => []
  | b :: r => mapB (e0 b).str (e1 b).bool (e2 b).list ++ mapsB r
def metaB (c sz : Int) (bk : ByteArray) (T S M Q : List U) : List U :=
  num [] 1 c ++ num [] 2 sz ++ textB [] bk ++ tabX T c ++ num [] 1 S.length ++ shotsB c S ++ num [] 1 M.length ++ mapsB M ++ num [] 4 Q.length ++ countsB Q
def metaL (c sz : Int) (bk : ByteArray) (T S M Q : List U) : Bool := decide (((metaB c sz bk T S M Q).length : Int) > 1048576)
def metaX (c sz bk T S M Q : U) : List U := bif metaR c sz bk T S M Q then (bif metaL c.int sz.int bk.str T.list S.list M.list Q.list then [] else metaB c.int sz.int bk.str T.list S.list M.list Q.list) else []
def metaE (c sz bk T S M Q : U) : Int := bif metaR c sz bk T S M Q then (bif metaL c.int sz.int bk.str T.list S.list M.list Q.list then 2 else 0) else 1
def sizeOk (T S M : U) : Prop := T.list.length ≤ 1099511627776 ∧ (∀ s ∈ S.list, (e2 s).list.length ≤ 1099511627776) ∧ ∀ b ∈ M.list, (e2 b).list.length ≤ 1000000
def mputP : List (List U) → Prop := fun us => sizeOk (nth (.i 0) (nth [] us 0) 3) (nth (.i 0) (nth [] us 0) 4) (nth (.i 0) (nth [] us 0) 5)
def mputS : List (List U) → List (List U) := fun us => [[.l (metaX (nth (.i 0) (nth [] us 0) 0) (nth (.i 0) (nth [] us 0) 1) (nth (.i 0) (nth [] us 0) 2) (nth (.i 0) (nth [] us 0) 3) (nth (.i 0) (nth [] us 0) 4) (nth (.i 0) (nth [] us 0) 5) (nth (.i 0) (nth [] us 0) 6))],
  [.i (metaE (nth (.i 0) (nth [] us 0) 0) (nth (.i 0) (nth [] us 0) 1) (nth (.i 0) (nth [] us 0) 2) (nth (.i 0) (nth [] us 0) 3) (nth (.i 0) (nth [] us 0) 4) (nth (.i 0) (nth [] us 0) 5) (nth (.i 0) (nth [] us 0) 6))]]
abbrev mCells (c sz bk T S M Q : U) : List SV := [vi c, vi sz, vs bk, vl (.sl true EC) T, vt SC S, vt BC M, vl (.int .i64) Q]
abbrev mIs (p o p1 o1 q : Nat) (t : TypeId) : Prop := p = 1664 ∧ o = 0 ∧ p1 = 128 ∧ o1 = 0 ∧ q = 1666 ∧ t = u8T
noncomputable def mputLoop0 : LoopF := fun _ svs os k => match svs, os with
  | [.val (.int .i64) i, .val (.int .i64) n, .val (.sl true ec) L, .ptr p o, .ptr p1 o1], [.box [.own q], .arr t xs, .box [.val (.int .i64) c, .val (.int .i64) sz, .val .str bk, .val (.sl false [.sl true x1]) T, .val (.sl true x2) S, .val (.sl true x3) M, .val (.sl false [.int .i64]) Q]] =>
    (mIs p o p1 o1 q t ∧ (ec = SC ∧ x1 = EC ∧ x2 = SC ∧ x3 = BC) ∧ n.int = (L.list.length : Int) ∧ n.int ≤ 8 ∧ 0 ≤ i.int ∧ i.int ≤ n.int ∧ (∀ s ∈ L.list, (e2 s).list.length ≤ 1099511627776) ∧ (xs.length : Int) + 200000 * (n.int - i.int) ≤ 300000000) ∧
    k (.exit 0) ⟨[(4, .ptr 1664 0), (1, .ptr 128 0)], [(1664, .box [.own 1666]), (1666, .arr u8T (xs ++ shotsB c.int (L.list.drop i.int.toNat))), (128, .box (mCells c sz bk T S M Q))]⟩
  | _, _ => False
noncomputable def mputLoop2 : LoopF := fun _ svs os k => match svs, os with
  | [.val (.int .i64) i, .val (.int .i64) n, .val (.sl true ec) L, .ptr p o, .ptr p1 o1], [.box [.own q], .arr t xs, .box [.val (.int .i64) c, .val (.int .i64) sz, .val .str bk, .val (.sl false [.sl true x1]) T, .val (.sl true x2) S, .val (.sl true x3) M, .val (.sl false [.int .i64]) Q]] =>
    (mIs p o p1 o1 q t ∧ (ec = BC ∧ x1 = EC ∧ x2 = SC ∧ x3 = BC) ∧ n.int = (L.list.length : Int) ∧ n.int ≤ 8 ∧ 0 ≤ i.int ∧ i.int ≤ n.int ∧ (∀ b ∈ L.list, (e2 b).list.length ≤ 1000000) ∧ (xs.length : Int) + 9000000 * (n.int - i.int) ≤ 400000000) ∧
    k (.exit 2) ⟨[(4, .ptr 1664 0), (1, .ptr 128 0)], [(1664, .box [.own 1666]), (1666, .arr u8T (xs ++ mapsB (L.list.drop i.int.toNat))), (128, .box (mCells c sz bk T S M Q))]⟩
  | _, _ => False
noncomputable def mputC : Ctx := mkC PR eqs0 (fnsCons 21 metaS fnsNil)
  (trsCons 22 [false, false, false] wnumF (trsCons 23 [false, false] wtextF (trsCons 24 [false, false, false] wtableF (trsCons 25 [false, false] wmapF (trsCons 26 [false, false] wcountsF trsNil)))))
  (loopCons 2 [67, 66, 65, 4, 1] [1664, 1666, 128] mputLoop2 (loopCons 0 [40, 39, 38, 4, 1] [1664, 1666, 128] mputLoop0 noLoops)) (outCons 2 [4, 1] [1664, 1666, 128] (outCons 0 [4, 1] [1664, 1666, 128] noOut)) noOut
theorem mput_round0 (pan : KP) (μ : Mu) (N : Nat) (k : KE) (i n L c sz bk T S M Q : U) (xs : List U) : (exec (mputC.panics pan) (loopBody Try.f12 0) 0 ⟨[(40, vi i), (39, vi n), (38, vt SC L), (4, .ptr 1664 0), (1, .ptr 128 0)], [(1664, .box [.own 1666]), (1666, .arr u8T xs), (128, .box (mCells c sz bk T S M Q))]⟩ (again PR (some ([4, 1], [1664, 1666, 128])) none pan [40, 39, 38, 4, 1] [1664, 1666, 128] mputLoop0 μ N k)) = (bif decide (i.int < n.int) then bif decide ((0 : Int) ≤ i.int ∧ i.int < (L.list.length : Int)) then (wIs ((2097152 : Nat) + (1 : Nat)) (0 : Nat) ((2097152 : Nat) + (1 : Nat)) ((2097279 : Nat) + (1 : Nat)) ((2097279 : Nat) + (1 : Nat)) ((4 : Nat) + (1 : Nat)) ∧ List.length xs ≤ (800000000 : Nat)) ∧ (wIs ((2097152 : Nat) + (1 : Nat)) (0 : Nat) ((2097152 : Nat) + (1 : Nat)) ((2097279 : Nat) + (1 : Nat)) ((2097279 : Nat) + (1 : Nat)) ((4 : Nat) + (1 : Nat)) ∧ (2 : Int) ≤ (8 : Int) ∧ List.length (xs ++ textB [] (U.str (nth (U.i (0 : Int)) (U.list (nth (U.i (0 : Int)) L.list (Int.toNat i.int))) (0 : Nat)))) ≤ (800000000 : Nat)) ∧ (wIs ((2097152 : Nat) + (1 : Nat)) (0 : Nat) ((2097152 : Nat) + (1 : Nat)) ((2097279 : Nat) + (1 : Nat)) ((2097279 : Nat) + (1 : Nat)) ((4 : Nat) + (1 : Nat)) ∧ [Ct.int IntKind.i64, Ct.int IntKind.i64, Ct.int IntKind.i64, Ct.int IntKind.i64, Ct.int IntKind.u32] = [.int .i64, .int .i64, .int .i64, .int .i64, .int .u32] ∧ List.length (U.list (nth (U.i (0 : Int)) (List.tail (List.tail (U.list (nth (U.i (0 : Int)) L.list (Int.toNat i.int))))) (0 : Nat))) ≤ (1099511627776 : Nat) ∧ List.length (xs ++ textB [] (U.str (nth (U.i (0 : Int)) (U.list (nth (U.i (0 : Int)) L.list (Int.toNat i.int))) (0 : Nat))) ++ num [] (2 : Int) (U.int (nth (U.i (0 : Int)) (List.tail (U.list (nth (U.i (0 : Int)) L.list (Int.toNat i.int)))) (0 : Nat)))) ≤ (800000000 : Nat)) ∧ bif Nat.blt (μ [.val (.int IntKind.i64) (U.i (IntKind.wrap .i64 (i.int + (1 : Int)))), .val (.int IntKind.i64) n, .val (.sl true [.str, .int .i64, Ct.sl false [.sl true [.int .i64, .int .i64, .int .i64, .int .i64, .int .u32]]]) L, .ptr (nat_lit 1664) (nat_lit 0), .ptr (nat_lit 128) (nat_lit 0)] [.box [.own (nat_lit 1666)], .arr (nat_lit 5) (xs ++ textB [] (U.str (nth (U.i (0 : Int)) (U.list (nth (U.i (0 : Int)) L.list (Int.toNat i.int))) (0 : Nat))) ++ num [] (2 : Int) (U.int (nth (U.i (0 : Int)) (List.tail (U.list (nth (U.i (0 : Int)) L.list (Int.toNat i.int)))) (0 : Nat))) ++ tabX (U.list (nth (U.i (0 : Int)) (List.tail (List.tail (U.list (nth (U.i (0 : Int)) L.list (Int.toNat i.int))))) (0 : Nat))) c.int), .box [.val (.int IntKind.i64) c, .val (.int IntKind.i64) sz, .val .str bk, .val (.sl false [.sl true [.int .i64, .int .i64, .int .i64, .int .i64, .int .u32]]) T, .val (.sl true [.str, .int .i64, Ct.sl false [.sl true [.int .i64, .int .i64, .int .i64, .int .i64, .int .u32]]]) S, .val (.sl true [.str, Ct.bool, Ct.sl true [.int .i64, .int .i64]]) M, .val (.sl false [.int .i64]) Q]]) N then (mIs ((1663 : Nat) + (1 : Nat)) (0 : Nat) ((127 : Nat) + (1 : Nat)) (0 : Nat) ((1665 : Nat) + (1 : Nat)) ((4 : Nat) + (1 : Nat)) ∧ ([Ct.str, Ct.int IntKind.i64, Ct.sl false [Ct.sl true [Ct.int IntKind.i64, Ct.int IntKind.i64, Ct.int IntKind.i64, Ct.int IntKind.i64, Ct.int IntKind.u32]]] = [.str, .int .i64, Ct.sl false [.sl true [.int .i64, .int .i64, .int .i64, .int .i64, .int .u32]]] ∧ [Ct.int IntKind.i64, Ct.int IntKind.i64, Ct.int IntKind.i64, Ct.int IntKind.i64, Ct.int IntKind.u32] = [.int .i64, .int .i64, .int .i64, .int .i64, .int .u32] ∧ [Ct.str, Ct.int IntKind.i64, Ct.sl false [Ct.sl true [Ct.int IntKind.i64, Ct.int IntKind.i64, Ct.int IntKind.i64, Ct.int IntKind.i64, Ct.int IntKind.u32]]] = [.str, .int .i64, Ct.sl false [.sl true [.int .i64, .int .i64, .int .i64, .int .i64, .int .u32]]] ∧ [Ct.str, Ct.bool, Ct.sl true [Ct.int IntKind.i64, Ct.int IntKind.i64]] = [.str, Ct.bool, Ct.sl true [.int .i64, .int .i64]]) ∧ n.int = (L.list.length : Int) ∧ n.int ≤ (8 : Int) ∧ (0 : Int) ≤ IntKind.wrap .i64 (i.int + (1 : Int)) ∧ IntKind.wrap .i64 (i.int + (1 : Int)) ≤ n.int ∧ (∀ (s : U), s ∈ L.list → List.length (U.list (e2 s)) ≤ (1099511627776 : Nat)) ∧ (↑(List.length (xs ++ textB [] (U.str (nth (U.i (0 : Int)) (U.list (nth (U.i (0 : Int)) L.list (Int.toNat i.int))) (0 : Nat))) ++ num [] (2 : Int) (U.int (nth (U.i (0 : Int)) (List.tail (U.list (nth (U.i (0 : Int)) L.list (Int.toNat i.int)))) (0 : Nat))) ++ tabX (U.list (nth (U.i (0 : Int)) (List.tail (List.tail (U.list (nth (U.i (0 : Int)) L.list (Int.toNat i.int))))) (0 : Nat))) c.int)) : Int) + (200000 : Int) * (n.int - IntKind.wrap .i64 (i.int + (1 : Int))) ≤ (300000000 : Int)) ∧ k (Ex.exit (nat_lit 0)) (St.mk [(nat_lit 4, .ptr (nat_lit 1664) (nat_lit 0)), (nat_lit 1, .ptr (nat_lit 128) (nat_lit 0))] [(nat_lit 1664, .box [.own (nat_lit 1666)]), (nat_lit 1666, .arr (nat_lit 5) (xs ++ textB [] (U.str (nth (U.i (0 : Int)) (U.list (nth (U.i (0 : Int)) L.list (Int.toNat i.int))) (0 : Nat))) ++ num [] (2 : Int) (U.int (nth (U.i (0 : Int)) (List.tail (U.list (nth (U.i (0 : Int)) L.list (Int.toNat i.int)))) (0 : Nat))) ++ tabX (U.list (nth (U.i (0 : Int)) (List.tail (List.tail (U.list (nth (U.i (0 : Int)) L.list (Int.toNat i.int))))) (0 : Nat))) c.int ++ shotsB c.int (List.drop (Int.toNat (IntKind.wrap .i64 (i.int + (1 : Int)))) L.list))), (nat_lit 128, .box [.val (.int IntKind.i64) c, .val (.int IntKind.i64) sz, .val .str bk, .val (.sl false [.sl true [.int .i64, .int .i64, .int .i64, .int .i64, .int .u32]]) T, .val (.sl true [.str, .int .i64, Ct.sl false [.sl true [.int .i64, .int .i64, .int .i64, .int .i64, .int .u32]]]) S, .val (.sl true [.str, Ct.bool, Ct.sl true [.int .i64, .int .i64]]) M, .val (.sl false [.int .i64]) Q])]) else False else False else k (Ex.exit (nat_lit 0)) (St.mk [(nat_lit 4, .ptr (nat_lit 1664) (nat_lit 0)), (nat_lit 1, .ptr (nat_lit 128) (nat_lit 0))] [(nat_lit 1664, .box [.own (nat_lit 1666)]), (nat_lit 1666, .arr (nat_lit 5) xs), (nat_lit 128, .box [.val (.int IntKind.i64) c, .val (.int IntKind.i64) sz, .val .str bk, .val (.sl false [.sl true [.int .i64, .int .i64, .int .i64, .int .i64, .int .u32]]) T, .val (.sl true [.str, .int .i64, Ct.sl false [.sl true [.int .i64, .int .i64, .int .i64, .int .i64, .int .u32]]]) S, .val (.sl true [.str, Ct.bool, Ct.sl true [.int .i64, .int .i64]]) M, .val (.sl false [.int .i64]) Q])])) := by kernel_rfl
theorem mput_round2 (pan : KP) (μ : Mu) (N : Nat) (k : KE) (i n L c sz bk T S M Q : U) (xs : List U) : (exec (mputC.panics pan) (loopBody Try.f12 1) 2 ⟨[(67, vi i), (66, vi n), (65, vt BC L), (4, .ptr 1664 0), (1, .ptr 128 0)], [(1664, .box [.own 1666]), (1666, .arr u8T xs), (128, .box (mCells c sz bk T S M Q))]⟩ (again PR (some ([4, 1], [1664, 1666, 128])) none pan [67, 66, 65, 4, 1] [1664, 1666, 128] mputLoop2 μ N k)) = (bif decide (i.int < n.int) then bif decide ((0 : Int) ≤ i.int ∧ i.int < (L.list.length : Int)) then (wIs ((2097152 : Nat) + (1 : Nat)) (0 : Nat) ((2097152 : Nat) + (1 : Nat)) ((2097279 : Nat) + (1 : Nat)) ((2097279 : Nat) + (1 : Nat)) ((4 : Nat) + (1 : Nat)) ∧ [Ct.int IntKind.i64, Ct.int IntKind.i64] = [.int .i64, .int .i64] ∧ (xs.length : Int) + (8 : Int) * (↑(List.length (U.list (nth (U.i (0 : Int)) (List.tail (List.tail (U.list (nth (U.i (0 : Int)) L.list (Int.toNat i.int))))) (0 : Nat)))) : Int) ≤ (700000000 : Int)) ∧ bif Nat.blt (μ [.val (.int IntKind.i64) (U.i (IntKind.wrap .i64 (i.int + (1 : Int)))), .val (.int IntKind.i64) n, .val (.sl true [.str, Ct.bool, Ct.sl true [.int .i64, .int .i64]]) L, .ptr (nat_lit 1664) (nat_lit 0), .ptr (nat_lit 128) (nat_lit 0)] [.box [.own (nat_lit 1666)], .arr (nat_lit 5) (xs ++ mapB (U.str (nth (U.i (0 : Int)) (U.list (nth (U.i (0 : Int)) L.list (Int.toNat i.int))) (0 : Nat))) (U.bool (nth (U.i (0 : Int)) (List.tail (U.list (nth (U.i (0 : Int)) L.list (Int.toNat i.int)))) (0 : Nat))) (U.list (nth (U.i (0 : Int)) (List.tail (List.tail (U.list (nth (U.i (0 : Int)) L.list (Int.toNat i.int))))) (0 : Nat)))), .box [.val (.int IntKind.i64) c, .val (.int IntKind.i64) sz, .val .str bk, .val (.sl false [.sl true [.int .i64, .int .i64, .int .i64, .int .i64, .int .u32]]) T, .val (.sl true [.str, .int .i64, Ct.sl false [.sl true [.int .i64, .int .i64, .int .i64, .int .i64, .int .u32]]]) S, .val (.sl true [.str, Ct.bool, Ct.sl true [.int .i64, .int .i64]]) M, .val (.sl false [.int .i64]) Q]]) N then (mIs ((1663 : Nat) + (1 : Nat)) (0 : Nat) ((127 : Nat) + (1 : Nat)) (0 : Nat) ((1665 : Nat) + (1 : Nat)) ((4 : Nat) + (1 : Nat)) ∧ ([Ct.str, Ct.bool, Ct.sl true [Ct.int IntKind.i64, Ct.int IntKind.i64]] = [.str, Ct.bool, Ct.sl true [.int .i64, .int .i64]] ∧ [Ct.int IntKind.i64, Ct.int IntKind.i64, Ct.int IntKind.i64, Ct.int IntKind.i64, Ct.int IntKind.u32] = [.int .i64, .int .i64, .int .i64, .int .i64, .int .u32] ∧ [Ct.str, Ct.int IntKind.i64, Ct.sl false [Ct.sl true [Ct.int IntKind.i64, Ct.int IntKind.i64, Ct.int IntKind.i64, Ct.int IntKind.i64, Ct.int IntKind.u32]]] = [.str, .int .i64, Ct.sl false [.sl true [.int .i64, .int .i64, .int .i64, .int .i64, .int .u32]]] ∧ [Ct.str, Ct.bool, Ct.sl true [Ct.int IntKind.i64, Ct.int IntKind.i64]] = [.str, Ct.bool, Ct.sl true [.int .i64, .int .i64]]) ∧ n.int = (L.list.length : Int) ∧ n.int ≤ (8 : Int) ∧ (0 : Int) ≤ IntKind.wrap .i64 (i.int + (1 : Int)) ∧ IntKind.wrap .i64 (i.int + (1 : Int)) ≤ n.int ∧ (∀ (b : U), b ∈ L.list → List.length (U.list (e2 b)) ≤ (1000000 : Nat)) ∧ (↑(List.length (xs ++ mapB (U.str (nth (U.i (0 : Int)) (U.list (nth (U.i (0 : Int)) L.list (Int.toNat i.int))) (0 : Nat))) (U.bool (nth (U.i (0 : Int)) (List.tail (U.list (nth (U.i (0 : Int)) L.list (Int.toNat i.int)))) (0 : Nat))) (U.list (nth (U.i (0 : Int)) (List.tail (List.tail (U.list (nth (U.i (0 : Int)) L.list (Int.toNat i.int))))) (0 : Nat))))) : Int) + (9000000 : Int) * (n.int - IntKind.wrap .i64 (i.int + (1 : Int))) ≤ (400000000 : Int)) ∧ k (Ex.exit (nat_lit 2)) (St.mk [(nat_lit 4, .ptr (nat_lit 1664) (nat_lit 0)), (nat_lit 1, .ptr (nat_lit 128) (nat_lit 0))] [(nat_lit 1664, .box [.own (nat_lit 1666)]), (nat_lit 1666, .arr (nat_lit 5) (xs ++ mapB (U.str (nth (U.i (0 : Int)) (U.list (nth (U.i (0 : Int)) L.list (Int.toNat i.int))) (0 : Nat))) (U.bool (nth (U.i (0 : Int)) (List.tail (U.list (nth (U.i (0 : Int)) L.list (Int.toNat i.int)))) (0 : Nat))) (U.list (nth (U.i (0 : Int)) (List.tail (List.tail (U.list (nth (U.i (0 : Int)) L.list (Int.toNat i.int))))) (0 : Nat))) ++ mapsB (List.drop (Int.toNat (IntKind.wrap .i64 (i.int + (1 : Int)))) L.list))), (nat_lit 128, .box [.val (.int IntKind.i64) c, .val (.int IntKind.i64) sz, .val .str bk, .val (.sl false [.sl true [.int .i64, .int .i64, .int .i64, .int .i64, .int .u32]]) T, .val (.sl true [.str, .int .i64, Ct.sl false [.sl true [.int .i64, .int .i64, .int .i64, .int .i64, .int .u32]]]) S, .val (.sl true [.str, Ct.bool, Ct.sl true [.int .i64, .int .i64]]) M, .val (.sl false [.int .i64]) Q])]) else False else False else k (Ex.exit (nat_lit 2)) (St.mk [(nat_lit 4, .ptr (nat_lit 1664) (nat_lit 0)), (nat_lit 1, .ptr (nat_lit 128) (nat_lit 0))] [(nat_lit 1664, .box [.own (nat_lit 1666)]), (nat_lit 1666, .arr (nat_lit 5) xs), (nat_lit 128, .box [.val (.int IntKind.i64) c, .val (.int IntKind.i64) sz, .val .str bk, .val (.sl false [.sl true [.int .i64, .int .i64, .int .i64, .int .i64, .int .u32]]) T, .val (.sl true [.str, .int .i64, Ct.sl false [.sl true [.int .i64, .int .i64, .int .i64, .int .i64, .int .u32]]]) S, .val (.sl true [.str, Ct.bool, Ct.sl true [.int .i64, .int .i64]]) M, .val (.sl false [.int .i64]) Q])])) := by kernel_rfl
theorem mput_tree (R : RF) (c sz bk T S M Q : U) : (run mputC Try.f12 [[c, sz, bk, T, S, M, Q]] R) = (bif !metaR c sz bk T S M Q then R [[U.l []], [U.i (1 : Int)]] else (wIs ((2097152 : Nat) + (1 : Nat)) (0 : Nat) ((2097152 : Nat) + (1 : Nat)) ((2097279 : Nat) + (1 : Nat)) ((2097279 : Nat) + (1 : Nat)) ((4 : Nat) + (1 : Nat)) ∧ (1 : Int) ≤ (8 : Int) ∧ (0 : Nat) ≤ (800000000 : Nat)) ∧ (wIs ((2097152 : Nat) + (1 : Nat)) (0 : Nat) ((2097152 : Nat) + (1 : Nat)) ((2097279 : Nat) + (1 : Nat)) ((2097279 : Nat) + (1 : Nat)) ((4 : Nat) + (1 : Nat)) ∧ (2 : Int) ≤ (8 : Int) ∧ List.length ([] ++ num [] (1 : Int) c.int) ≤ (800000000 : Nat)) ∧ (wIs ((2097152 : Nat) + (1 : Nat)) (0 : Nat) ((2097152 : Nat) + (1 : Nat)) ((2097279 : Nat) + (1 : Nat)) ((2097279 : Nat) + (1 : Nat)) ((4 : Nat) + (1 : Nat)) ∧ List.length ([] ++ num [] (1 : Int) c.int ++ num [] (2 : Int) sz.int) ≤ (800000000 : Nat)) ∧ (wIs ((2097152 : Nat) + (1 : Nat)) (0 : Nat) ((2097152 : Nat) + (1 : Nat)) ((2097279 : Nat) + (1 : Nat)) ((2097279 : Nat) + (1 : Nat)) ((4 : Nat) + (1 : Nat)) ∧ [Ct.int IntKind.i64, Ct.int IntKind.i64, Ct.int IntKind.i64, Ct.int IntKind.i64, Ct.int IntKind.u32] = [.int .i64, .int .i64, .int .i64, .int .i64, .int .u32] ∧ T.list.length ≤ (1099511627776 : Nat) ∧ List.length ([] ++ num [] (1 : Int) c.int ++ num [] (2 : Int) sz.int ++ textB [] bk.str) ≤ (800000000 : Nat)) ∧ (wIs ((2097152 : Nat) + (1 : Nat)) (0 : Nat) ((2097152 : Nat) + (1 : Nat)) ((2097279 : Nat) + (1 : Nat)) ((2097279 : Nat) + (1 : Nat)) ((4 : Nat) + (1 : Nat)) ∧ (1 : Int) ≤ (8 : Int) ∧ List.length ([] ++ num [] (1 : Int) c.int ++ num [] (2 : Int) sz.int ++ textB [] bk.str ++ tabX T.list c.int) ≤ (800000000 : Nat)) ∧ (mIs ((1663 : Nat) + (1 : Nat)) (0 : Nat) ((127 : Nat) + (1 : Nat)) (0 : Nat) ((1665 : Nat) + (1 : Nat)) ((4 : Nat) + (1 : Nat)) ∧ ([Ct.str, Ct.int IntKind.i64, Ct.sl false [Ct.sl true [Ct.int IntKind.i64, Ct.int IntKind.i64, Ct.int IntKind.i64, Ct.int IntKind.i64, Ct.int IntKind.u32]]] = [.str, .int .i64, Ct.sl false [.sl true [.int .i64, .int .i64, .int .i64, .int .i64, .int .u32]]] ∧ [Ct.int IntKind.i64, Ct.int IntKind.i64, Ct.int IntKind.i64, Ct.int IntKind.i64, Ct.int IntKind.u32] = [.int .i64, .int .i64, .int .i64, .int .i64, .int .u32] ∧ [Ct.str, Ct.int IntKind.i64, Ct.sl false [Ct.sl true [Ct.int IntKind.i64, Ct.int IntKind.i64, Ct.int IntKind.i64, Ct.int IntKind.i64, Ct.int IntKind.u32]]] = [.str, .int .i64, Ct.sl false [.sl true [.int .i64, .int .i64, .int .i64, .int .i64, .int .u32]]] ∧ [Ct.str, Ct.bool, Ct.sl true [Ct.int IntKind.i64, Ct.int IntKind.i64]] = [.str, Ct.bool, Ct.sl true [.int .i64, .int .i64]]) ∧ (S.list.length : Int) = (S.list.length : Int) ∧ (S.list.length : Int) ≤ (8 : Int) ∧ (0 : Int) ≤ (0 : Int) ∧ (0 : Int) ≤ (S.list.length : Int) ∧ (∀ (s : U), s ∈ S.list → List.length (U.list (e2 s)) ≤ (1099511627776 : Nat)) ∧ (↑(List.length ([] ++ num [] (1 : Int) c.int ++ num [] (2 : Int) sz.int ++ textB [] bk.str ++ tabX T.list c.int ++ num [] (1 : Int) (S.list.length : Int))) : Int) + (200000 : Int) * ((S.list.length : Int) - (0 : Int)) ≤ (300000000 : Int)) ∧ (wIs ((2097152 : Nat) + (1 : Nat)) (0 : Nat) ((2097152 : Nat) + (1 : Nat)) ((2097279 : Nat) + (1 : Nat)) ((2097279 : Nat) + (1 : Nat)) ((4 : Nat) + (1 : Nat)) ∧ (1 : Int) ≤ (8 : Int) ∧ List.length ([] ++ num [] (1 : Int) c.int ++ num [] (2 : Int) sz.int ++ textB [] bk.str ++ tabX T.list c.int ++ num [] (1 : Int) (S.list.length : Int) ++ shotsB c.int (List.drop (Int.toNat (0 : Int)) S.list)) ≤ (800000000 : Nat)) ∧ (mIs ((1663 : Nat) + (1 : Nat)) (0 : Nat) ((127 : Nat) + (1 : Nat)) (0 : Nat) ((1665 : Nat) + (1 : Nat)) ((4 : Nat) + (1 : Nat)) ∧ ([Ct.str, Ct.bool, Ct.sl true [Ct.int IntKind.i64, Ct.int IntKind.i64]] = [.str, Ct.bool, Ct.sl true [.int .i64, .int .i64]] ∧ [Ct.int IntKind.i64, Ct.int IntKind.i64, Ct.int IntKind.i64, Ct.int IntKind.i64, Ct.int IntKind.u32] = [.int .i64, .int .i64, .int .i64, .int .i64, .int .u32] ∧ [Ct.str, Ct.int IntKind.i64, Ct.sl false [Ct.sl true [Ct.int IntKind.i64, Ct.int IntKind.i64, Ct.int IntKind.i64, Ct.int IntKind.i64, Ct.int IntKind.u32]]] = [.str, .int .i64, Ct.sl false [.sl true [.int .i64, .int .i64, .int .i64, .int .i64, .int .u32]]] ∧ [Ct.str, Ct.bool, Ct.sl true [Ct.int IntKind.i64, Ct.int IntKind.i64]] = [.str, Ct.bool, Ct.sl true [.int .i64, .int .i64]]) ∧ (M.list.length : Int) = (M.list.length : Int) ∧ (M.list.length : Int) ≤ (8 : Int) ∧ (0 : Int) ≤ (0 : Int) ∧ (0 : Int) ≤ (M.list.length : Int) ∧ (∀ (b : U), b ∈ M.list → List.length (U.list (e2 b)) ≤ (1000000 : Nat)) ∧ (↑(List.length ([] ++ num [] (1 : Int) c.int ++ num [] (2 : Int) sz.int ++ textB [] bk.str ++ tabX T.list c.int ++ num [] (1 : Int) (S.list.length : Int) ++ shotsB c.int (List.drop (Int.toNat (0 : Int)) S.list) ++ num [] (1 : Int) (M.list.length : Int))) : Int) + (9000000 : Int) * ((M.list.length : Int) - (0 : Int)) ≤ (400000000 : Int)) ∧ (wIs ((2097152 : Nat) + (1 : Nat)) (0 : Nat) ((2097152 : Nat) + (1 : Nat)) ((2097279 : Nat) + (1 : Nat)) ((2097279 : Nat) + (1 : Nat)) ((4 : Nat) + (1 : Nat)) ∧ (↑(List.length ([] ++ num [] (1 : Int) c.int ++ num [] (2 : Int) sz.int ++ textB [] bk.str ++ tabX T.list c.int ++ num [] (1 : Int) (S.list.length : Int) ++ shotsB c.int (List.drop (Int.toNat (0 : Int)) S.list) ++ num [] (1 : Int) (M.list.length : Int) ++ mapsB (List.drop (Int.toNat (0 : Int)) M.list))) : Int) + (8 : Int) * (Q.list.length : Int) ≤ (700000000 : Int)) ∧ bif decide ((↑(List.length ([] ++ num [] (1 : Int) c.int ++ num [] (2 : Int) sz.int ++ textB [] bk.str ++ tabX T.list c.int ++ num [] (1 : Int) (S.list.length : Int) ++ shotsB c.int (List.drop (Int.toNat (0 : Int)) S.list) ++ num [] (1 : Int) (M.list.length : Int) ++ mapsB (List.drop (Int.toNat (0 : Int)) M.list) ++ (num [] (4 : Int) (Q.list.length : Int) ++ countsB Q.list))) : Int) > (1048576 : Int)) then R [[U.l []], [U.i (2 : Int)]] else R [[U.l ([] ++ num [] (1 : Int) c.int ++ num [] (2 : Int) sz.int ++ textB [] bk.str ++ tabX T.list c.int ++ num [] (1 : Int) (S.list.length : Int) ++ shotsB c.int (List.drop (Int.toNat (0 : Int)) S.list) ++ num [] (1 : Int) (M.list.length : Int) ++ mapsB (List.drop (Int.toNat (0 : Int)) M.list) ++ (num [] (4 : Int) (Q.list.length : Int) ++ countsB Q.list))], [U.i (0 : Int)]]) := by kernel_rfl
end Go.Mat

namespace Go.Mat
open Go Go.Den Go.Proofs
theorem shotsB_len (c : Int) : ∀ L : List U, (∀ s ∈ L, (e2 s).list.length ≤ 1099511627776) → (shotsB c L).length ≤ 140000 * L.length
  | [], _ => by simp [shotsB]
  | s :: r, h => by
    have h1 := shotsB_len c r fun s hs => h s (List.mem_cons_of_mem _ hs)
    have h2 := textB_len (e0 s).str
    have h3 := num2 (e1 s).int
    have h4 := tabX_len c (h s (List.mem_cons_self ..))
    rw [shotsB]
    simp only [List.length_append, List.length_cons]
    omega
theorem mapB_len (nm : ByteArray) (on : Bool) (L : List U) : (mapB nm on L).length ≤ 65540 + 4 * L.length := by
  have h2 := textB_len nm
  have h3 := num1 (onB on)
  have h4 := num2 L.length
  have h5 := spansB_len L
  rw [mapB]
  simp only [List.length_append]
  omega
theorem mapsB_len : ∀ L : List U, (∀ b ∈ L, (e2 b).list.length ≤ 1000000) → (mapsB L).length ≤ 5000000 * L.length
  | [], _ => by simp [mapsB]
  | b :: r, h => by
    have h1 := mapsB_len r fun s hs => h s (List.mem_cons_of_mem _ hs)
    have h2 := mapB_len (e0 b).str (e1 b).bool (e2 b).list
    have h3 := h b (List.mem_cons_self ..)
    rw [mapsB]
    simp only [List.length_append, List.length_cons]
    omega
theorem mem_at {L : List U} {i : Nat} (h : i < L.length) : U.at L i ∈ L := by
  have hd : L.drop i = U.at L i :: _ := drop_at h
  exact List.mem_of_mem_drop (by rw [hd]; exact List.mem_cons_self ..)
theorem mis : mIs 1664 0 128 0 1666 u8T := ⟨rfl, rfl, rfl, rfl, rfl, rfl⟩
theorem mput_loop0 : LoopOk mputC 0 (loopBody Try.f12 0) := by
  refine loopOk_of (F := mputLoop0) (ts := [40, 39, 38, 4, 1]) (os := [1664, 1666, 128]) rfl (fun svs _ => match svs with | .val _ i :: .val _ m :: _ => (m.int - i.int).toNat | _ => 0) ?_
  intro pan svs os k ho1 ho2 h
  unfold mputLoop0 at h
  split at h
  · rename_i i n ec L p o p1 o1 q t xs c sz bk x1 T x2 S x3 M Q
    obtain ⟨⟨⟨rfl, rfl, rfl, rfl, rfl, rfl⟩, ⟨rfl, rfl, rfl, rfl⟩, hn, hn8, h0, hi, hT, hx⟩, hk⟩ := h
    refine .eq (mput_round0 pan _ _ k i n L c sz bk T S M Q xs) ?_
    refine bd (fun hlt => dt ⟨h0, by omega⟩ ?_) (fun hlt => ?_)
    · have hT' := hT _ (mem_at (L := L.list) (i := i.int.toNat) (by omega))
      rw [drop_at (by omega), shotsB] at hk
      simp only [U.at, e0, e1, e2, ← List.append_assoc] at hk hT'
      have h1 := textB_len (nth (.i 0) (nth (.i 0) L.list i.int.toNat).list 0).str
      have h2 := num2 (nth (.i 0) (nth (.i 0) L.list i.int.toNat).list 1).int
      have h3 := tabX_len c.int hT'
      have hw : IntKind.wrap .i64 (i.int + 1) = i.int + 1 := i64_in (by omega) (by omega)
      have hc : (i.int + 1).toNat = i.int.toNat + 1 := by omega
      have hlt' : (n.int - (i.int + 1)).toNat < (n.int - i.int).toNat := by omega
      simp only [nth_tail, Nat.zero_add, Nat.reduceAdd, hw, hc]
      exact ⟨⟨wis, by omega⟩, ⟨wis, by omega, by rw [List.length_append]; omega⟩, ⟨wis, by trivial, hT', by rw [List.length_append, List.length_append]; omega⟩, blt hlt' ⟨⟨mis, ⟨by trivial, by trivial, by trivial, by trivial⟩, hn, hn8, by omega, by omega, hT, by simp only [List.length_append]; omega⟩, hk⟩⟩
    · rw [List.drop_of_length_le (by omega), shotsB, List.append_nil] at hk
      exact hk
  · exact h.elim
theorem mput_loop2 : LoopOk mputC 2 (loopBody Try.f12 1) := by
  refine loopOk_of (F := mputLoop2) (ts := [67, 66, 65, 4, 1]) (os := [1664, 1666, 128]) rfl (fun svs _ => match svs with | .val _ i :: .val _ m :: _ => (m.int - i.int).toNat | _ => 0) ?_
  intro pan svs os k ho1 ho2 h
  unfold mputLoop2 at h
  split at h
  · rename_i i n ec L p o p1 o1 q t xs c sz bk x1 T x2 S x3 M Q
    obtain ⟨⟨⟨rfl, rfl, rfl, rfl, rfl, rfl⟩, ⟨rfl, rfl, rfl, rfl⟩, hn, hn8, h0, hi, hT, hx⟩, hk⟩ := h
    refine .eq (mput_round2 pan _ _ k i n L c sz bk T S M Q xs) ?_
    refine bd (fun hlt => dt ⟨h0, by omega⟩ ?_) (fun hlt => ?_)
    · have hT' := hT _ (mem_at (L := L.list) (i := i.int.toNat) (by omega))
      rw [drop_at (by omega), mapsB] at hk
      simp only [U.at, e0, e1, e2, ← List.append_assoc] at hk hT'
      have h1 := mapB_len (nth (.i 0) (nth (.i 0) L.list i.int.toNat).list 0).str (nth (.i 0) (nth (.i 0) L.list i.int.toNat).list 1).bool (nth (.i 0) (nth (.i 0) L.list i.int.toNat).list 2).list
      have hw : IntKind.wrap .i64 (i.int + 1) = i.int + 1 := i64_in (by omega) (by omega)
      have hc : (i.int + 1).toNat = i.int.toNat + 1 := by omega
      have hlt' : (n.int - (i.int + 1)).toNat < (n.int - i.int).toNat := by omega
      simp only [nth_tail, Nat.zero_add, Nat.reduceAdd, hw, hc]
      exact ⟨⟨wis, by trivial, by omega⟩, blt hlt' ⟨⟨mis, ⟨by trivial, by trivial, by trivial, by trivial⟩, hn, hn8, by omega, by omega, hT, by simp only [List.length_append]; omega⟩, hk⟩⟩
    · rw [List.drop_of_length_le (by omega), mapsB, List.append_nil] at hk
      exact hk
  · exact h.elim
theorem mput_ok : SpecFP PR 12 mputP mputS := fun fn us hfn hpre => by
  have hf : PR.funcs[(12 : Nat)]? = some Try.f12 := by kernel_rfl
  rw [hf] at hfn; cases hfn
  refine fn_okH (C := mputC) (mkC_ok eqs0_ok mixed_ok (.cons meta_ok .nil) (.cons wnum_ok (.cons wtext_ok (.cons wtable_ok (.cons wmap_ok (.cons wcounts_ok .nil)))))) hf (by kernel_rfl) (loops_two (by kernel_rfl) mput_loop0 mput_loop2) fun hok => ?_
  have hp : Try.f12.params.toList = [29] := by kernel_rfl
  rw [hp] at hok
  obtain ⟨c, sz, bk, T, S, M, Q, hus⟩ : ∃ c sz bk T S M Q, us = [[c, sz, bk, T, S, M, Q]] := by
    obtain ⟨u, rfl, h1⟩ := shape1 (by kernel_rfl : Cs PR 29 = some (true, [.int .i64, .int .i64, .str, .sl false [.sl true EC], .sl true SC, .sl true BC, .sl false [.int .i64]])) hok.1
    obtain ⟨c, sz, bk, T, S, M, Q, rfl⟩ := len7 h1
    exact ⟨c, sz, bk, T, S, M, Q, rfl⟩
  subst hus
  refine .eq (mput_tree _ c sz bk T S M Q) ?_
  unfold mputP sizeOk at hpre
  simp only [nth_zero, nth_succ] at hpre
  obtain ⟨hT, hS, hM⟩ := hpre
  unfold mputS metaX metaE
  simp only [nth_zero, nth_succ]
  refine bi (fun h => by rw [nt h]; rfl) (fun h => ?_)
  have hr := nf h
  rw [hr]
  obtain ⟨_, _, _, _, _, hS8, hM8, hQ, _⟩ := (metaR_iff ..).1 hr
  have l1 := num1 c.int
  have l2 := num2 sz.int
  have l3 := textB_len bk.str
  have l4 := tabX_len c.int hT
  have l5 := num1 S.list.length
  have l6 := shotsB_len c.int S.list hS
  have l7 := num1 M.list.length
  have l8 := mapsB_len M.list hM
  have hB : [] ++ num [] 1 c.int ++ num [] 2 sz.int ++ textB [] bk.str ++ tabX T.list c.int ++ num [] 1 S.list.length ++ shotsB c.int S.list ++ num [] 1 M.list.length ++ mapsB M.list ++ (num [] 4 Q.list.length ++ countsB Q.list) = metaB c.int sz.int bk.str T.list S.list M.list Q.list := by
    simp [metaB]
  simp only [List.drop_zero, Int.toNat_zero, hB]
  refine ⟨⟨wis, by omega, by omega⟩, ⟨wis, by omega, ?_⟩, ⟨wis, ?_⟩, ⟨wis, by trivial, hT, ?_⟩, ⟨wis, by omega, ?_⟩, ⟨mis, ⟨by trivial, by trivial, by trivial, by trivial⟩, by trivial, by omega, by trivial, by omega, hS, ?_⟩, ⟨wis, by omega, ?_⟩, ⟨mis, ⟨by trivial, by trivial, by trivial, by trivial⟩, by trivial, by omega, by trivial, by omega, hM, ?_⟩, ⟨wis, ?_⟩, ?_⟩
  all_goals try (simp only [List.length_append, List.length_nil]; omega)
  refine bi (fun h => ?_) (fun h => ?_)
  · rw [show metaL c.int sz.int bk.str T.list S.list M.list Q.list = true from h]; rfl
  · rw [show metaL c.int sz.int bk.str T.list S.list M.list Q.list = false from h]; rfl
end Go.Mat

namespace Go.Mat
open Go Go.Den Go.Proofs
def shotOk (s : U) : Prop := (e0 s).str.size ≤ 65535 ∧ 0 ≤ (e1 s).int ∧ (e1 s).int ≤ 65535 ∧ (e2 s).list.length ≤ 1099511627776
def spanOk (s : U) : Prop := 0 ≤ (e0 s).int ∧ (e0 s).int ≤ 65535 ∧ 0 ≤ (e1 s).int ∧ (e1 s).int ≤ 65535
def bmapOk (b : U) : Prop := (e0 b).str.size ≤ 65535 ∧ (e2 b).list.length ≤ 65535 ∧ ∀ s ∈ (e2 b).list, spanOk s
def cntOk (n : U) : Prop := 0 ≤ n.int ∧ n.int ≤ 65535
end Go.Mat

namespace Go.Mat
open Go Go.Den Go.Proofs
theorem name_size {s : ByteArray} (h : nameR s = true) : s.size ≤ 16 := by
  unfold nameR at h
  simp only [Bool.and_eq_true, decide_eq_true_eq] at h
  have := h.1.2
  rw [str_len] at this
  exact this
theorem back_size {s : ByteArray} (h : backR s = true) : s.size ≤ 16 := by
  unfold backR at h
  rw [Bool.or_eq_true] at h
  rcases h with h | h
  · have : s.data.toList = [] := by simpa using h
    rw [← str_len, this]; simp
  · exact name_size h
theorem size_low {n c : Int} (h : sizeR n c = true) : 0 ≤ n ∧ n ≤ 4096 := by
  unfold sizeR at h
  simp only [Bool.and_eq_true, decide_eq_true_eq] at h
  exact h.1
theorem rshots_each {c : Int} {S : List U} : ∀ {r : List U} {i : Int}, rshotsR c S i r = true → ∀ s ∈ r, nameR (e0 s).str = true ∧ sizeR (e1 s).int c = true
  | [], _, _, s, hs => by cases hs
  | x :: r, i, h, s, hs => by
    rw [rshotsR] at h
    simp only [Bool.and_eq_true] at h
    rcases List.mem_cons.1 hs with rfl | hs
    · exact ⟨h.1.1.1.1, h.1.1.2⟩
    · exact rshots_each h.2 s hs
theorem rmaps_each {M : List U} : ∀ {r : List U} {i : Int}, rmapsR M i r = true → ∀ s ∈ r, nameR (e0 s).str = true ∧ spansR (-1) (e2 s).list = true ∧ lastR (e2 s).list = true
  | [], _, _, s, hs => by cases hs
  | x :: r, i, h, s, hs => by
    rw [rmapsR] at h
    simp only [Bool.and_eq_true] at h
    rcases List.mem_cons.1 hs with rfl | hs
    · exact ⟨h.1.1.1.1, h.1.1.2, h.1.2⟩
    · exact rmaps_each h.2 s hs
theorem counts_each : ∀ {r : List U}, countsR r = true → ∀ s ∈ r, cntOk s
  | [], _, s, hs => by cases hs
  | x :: r, h, s, hs => by
    rw [countsR] at h
    simp only [Bool.and_eq_true, decide_eq_true_eq] at h
    rcases List.mem_cons.1 hs with rfl | hs
    · exact ⟨h.1.1, h.1.2⟩
    · exact counts_each h.2 s hs
abbrev topE (L : List U) : Int := (e1 (U.at L (L.length - 1))).int
theorem spans_up : ∀ (L : List U) (last : Int), spansR last L = true → (L = [] ∨ last + L.length ≤ topE L) ∧ ∀ s ∈ L, 0 ≤ (e0 s).int ∧ (e0 s).int < (e1 s).int ∧ (e1 s).int ≤ topE L
  | [], _, _ => ⟨.inl rfl, fun s hs => by cases hs⟩
  | x :: r, last, h => by
    rw [spansR] at h
    unfold spanMay at h
    simp only [Bool.and_eq_true, decide_eq_true_eq] at h
    obtain ⟨⟨⟨⟨h1, h2⟩, h3⟩, h4⟩, h5⟩ := h
    obtain ⟨g1, g2⟩ := spans_up r _ h5
    by_cases hr : r = []
    · subst hr
      have ht : topE [x] = (e1 x).int := rfl
      refine ⟨.inr (by rw [ht]; simp; omega), fun s hs => ?_⟩
      have : s = x := by simpa using hs
      subst this
      exact ⟨h1, h2, by rw [ht]; omega⟩
    · have ht : topE (x :: r) = topE r := by
        unfold topE U.at
        cases r with
        | nil => exact absurd rfl hr
        | cons y s => simp
      have g1 := g1.resolve_left hr
      rw [ht]
      refine ⟨.inr (by rw [List.length_cons]; omega), fun s hs => ?_⟩
      rcases List.mem_cons.1 hs with rfl | hs
      · exact ⟨h1, h2, by omega⟩
      · exact g2 s hs
theorem span_ok {L : List U} (h : spansR (-1) L = true) (hl : lastR L = true) : L.length ≤ 65535 ∧ ∀ s ∈ L, spanOk s := by
  obtain ⟨g1, g2⟩ := spans_up L _ h
  by_cases h0 : L = []
  · subst h0; exact ⟨by simp, fun s hs => by cases hs⟩
  · have hp : 0 < L.length := List.length_pos_iff.2 h0
    have ht : topE L ≤ 4096 := by
      unfold lastR at hl
      rw [decide_eq_true hp] at hl
      simpa using hl
    have g1 := g1.resolve_left h0
    refine ⟨by omega, fun s hs => ?_⟩
    have := g2 s hs
    exact ⟨this.1, by omega, by omega, by omega⟩
end Go.Mat

namespace Go.Mat
open Go Go.Den Go.Proofs
def greatN (n : Int) : List U → Int
  | [] => n
  | l :: r => bif decide (n ≤ 6000) then greatN (n + 1 + (bif decide (6000 < (l.list.length : Int)) then (6000 : Int) else (l.list.length : Int))) r else n
def greatT (L : List U) : Bool := decide (greatN 0 L > 6000)
def greatS : List (List U) → List (List U) := fun us => [[.b (greatT (nth (.i 0) (nth [] us 0) 0).list)]]
noncomputable def greatLoop : LoopF := fun _ svs os k => match svs, os with
  | [.val (.int .i64) i, .val (.int .i64) n, .ptr p o], [.box [.val (.sl false [.sl true ec]) L]] =>
    (p = 128 ∧ o = 0 ∧ ec = EC ∧ n = .i n.int ∧ 0 ≤ i.int ∧ i.int ≤ L.list.length ∧ 0 ≤ n.int ∧ n.int ≤ 20000) ∧
    k (.exit 0) ⟨[(3, vi (.i (greatN n.int (L.list.drop i.int.toNat))))], []⟩
  | _, _ => False
noncomputable def greatC : Ctx := mkC PR eqs0 fnsNil trsNil (loopCons 0 [4, 3, 1] [128] greatLoop noLoops) (outCons 0 [3] [] noOut) noOut
theorem great_round (pan : KP) (μ : Mu) (N : Nat) (k : KE) (i n L : U) : (exec (greatC.panics pan) (loopBody Try.f20 0) 0 ⟨[(4, vi i), (3, vi n), (1, .ptr 128 0)], [(128, .box [vl (.sl true EC) L])]⟩ (again PR (some ([3], [])) none pan [4, 3, 1] [128] greatLoop μ N k)) = (bif decide (i.int < (L.list.length : Int)) then bif decide (n.int ≤ (6000 : Int)) then bif decide ((0 : Int) ≤ i.int ∧ i.int < (L.list.length : Int)) then bif Nat.blt (μ [.val (.int IntKind.i64) (U.i (IntKind.wrap .i64 (i.int + (1 : Int)))), .val (.int IntKind.i64) (U.i (IntKind.wrap .i64 (IntKind.wrap .i64 (n.int + (1 : Int)) + bif decide ((6000 : Int) < (↑(List.length (U.list (nth (U.i (0 : Int)) L.list (Int.toNat i.int)))) : Int)) then (6000 : Int) else (↑(List.length (U.list (nth (U.i (0 : Int)) L.list (Int.toNat i.int)))) : Int)))), .ptr (nat_lit 128) (nat_lit 0)] [.box [.val (.sl false [.sl true [.int .i64, .int .i64, .int .i64, .int .i64, .int .u32]]) L]]) N then (nat_lit 128 = nat_lit 128 ∧ nat_lit 0 = nat_lit 0 ∧ [Ct.int IntKind.i64, Ct.int IntKind.i64, Ct.int IntKind.i64, Ct.int IntKind.i64, Ct.int IntKind.u32] = [.int .i64, .int .i64, .int .i64, .int .i64, .int .u32] ∧ U.i (IntKind.wrap .i64 (IntKind.wrap .i64 (n.int + (1 : Int)) + bif decide ((6000 : Int) < (↑(List.length (U.list (nth (U.i (0 : Int)) L.list (Int.toNat i.int)))) : Int)) then (6000 : Int) else (↑(List.length (U.list (nth (U.i (0 : Int)) L.list (Int.toNat i.int)))) : Int))) = U.i (IntKind.wrap .i64 (IntKind.wrap .i64 (n.int + (1 : Int)) + bif decide ((6000 : Int) < (↑(List.length (U.list (nth (U.i (0 : Int)) L.list (Int.toNat i.int)))) : Int)) then (6000 : Int) else (↑(List.length (U.list (nth (U.i (0 : Int)) L.list (Int.toNat i.int)))) : Int))) ∧ (0 : Int) ≤ IntKind.wrap .i64 (i.int + (1 : Int)) ∧ IntKind.wrap .i64 (i.int + (1 : Int)) ≤ (L.list.length : Int) ∧ (0 : Int) ≤ IntKind.wrap .i64 (IntKind.wrap .i64 (n.int + (1 : Int)) + bif decide ((6000 : Int) < (↑(List.length (U.list (nth (U.i (0 : Int)) L.list (Int.toNat i.int)))) : Int)) then (6000 : Int) else (↑(List.length (U.list (nth (U.i (0 : Int)) L.list (Int.toNat i.int)))) : Int)) ∧ IntKind.wrap .i64 (IntKind.wrap .i64 (n.int + (1 : Int)) + bif decide ((6000 : Int) < (↑(List.length (U.list (nth (U.i (0 : Int)) L.list (Int.toNat i.int)))) : Int)) then (6000 : Int) else (↑(List.length (U.list (nth (U.i (0 : Int)) L.list (Int.toNat i.int)))) : Int)) ≤ (20000 : Int)) ∧ k (Ex.exit (nat_lit 0)) (St.mk [(nat_lit 3, .val (.int IntKind.i64) (U.i (greatN (IntKind.wrap .i64 (IntKind.wrap .i64 (n.int + (1 : Int)) + bif decide ((6000 : Int) < (↑(List.length (U.list (nth (U.i (0 : Int)) L.list (Int.toNat i.int)))) : Int)) then (6000 : Int) else (↑(List.length (U.list (nth (U.i (0 : Int)) L.list (Int.toNat i.int)))) : Int))) (List.drop (Int.toNat (IntKind.wrap .i64 (i.int + (1 : Int)))) L.list))))] []) else False else False else k (Ex.exit (nat_lit 0)) (St.mk [(nat_lit 3, .val (.int IntKind.i64) n)] []) else k (Ex.exit (nat_lit 0)) (St.mk [(nat_lit 3, .val (.int IntKind.i64) n)] [])) := by kernel_rfl
theorem great_tree (R : RF) (L : U) : (run greatC Try.f20 [[L]] R) = ((nat_lit 128 = nat_lit 128 ∧ nat_lit 0 = nat_lit 0 ∧ [Ct.int IntKind.i64, Ct.int IntKind.i64, Ct.int IntKind.i64, Ct.int IntKind.i64, Ct.int IntKind.u32] = [Ct.int IntKind.i64, Ct.int IntKind.i64, Ct.int
  IntKind.i64, Ct.int IntKind.i64, Ct.int IntKind.u32] ∧ U.i (0 : Int) = U.i (0 : Int) ∧ (0 : Int) ≤ (0 : Int) ∧ (0 : Int) ≤ (↑(List.length (U.list L)) : Int) ∧ (0 : Int) ≤ (0 : Int) ∧ (0 : Int) ≤ (20000
  : Int)) ∧ R [[U.b (decide (greatN (0 : Int) (List.drop (Int.toNat (0 : Int)) (U.list L)) > (6000 : Int)))]]) := by kernel_rfl
def shotsG : List U → Bool
  | [] => false
  | s :: r => greatT (e2 s).list || decide (((e0 s).str.size : Int) > 1000) || shotsG r
def mapsG : List U → Bool
  | [] => false
  | b :: r => decide (((e2 b).list.length : Int) > 500) || decide (((e0 b).str.size : Int) > 1000) || mapsG r
def metaG (bk T S M Q : U) : Bool := greatT T.list || decide ((S.list.length : Int) > 20) || decide ((M.list.length : Int) > 20) || decide ((Q.list.length : Int) > 20000) || decide ((bk.str.size : Int) > 1000) || shotsG S.list || mapsG M.list
def metaGS : List (List U) → List (List U) := fun us => [[.b (metaG (nth (.i 0) (nth [] us 0) 2) (nth (.i 0) (nth [] us 0) 3) (nth (.i 0) (nth [] us 0) 4) (nth (.i 0) (nth [] us 0) 5) (nth (.i 0) (nth [] us 0) 6))]]
noncomputable def metaGLoop0 : LoopF := fun _ svs os k => match svs, os with
  | [.val (.int .i64) i, .ptr p o], [.box [.val (.int .i64) c, .val (.int .i64) sz, .val .str bk, .val (.sl false [.sl true x1]) T, .val (.sl true x2) S, .val (.sl true x3) M, .val (.sl false [.int .i64]) Q]] =>
    ((p = 128 ∧ o = 0) ∧ (x1 = EC ∧ x2 = SC ∧ x3 = BC) ∧ S.list.length ≤ 20 ∧ 0 ≤ i.int ∧ i.int ≤ S.list.length) ∧
    (bif shotsG (S.list.drop i.int.toNat) then k .ret ⟨[(2, vb (.b true))], []⟩ else k (.exit 0) ⟨[(1, .ptr 128 0)], [(128, .box (mCells c sz bk T S M Q))]⟩)
  | _, _ => False
noncomputable def metaGLoop2 : LoopF := fun _ svs os k => match svs, os with
  | [.val (.int .i64) i, .ptr p o], [.box [.val (.int .i64) c, .val (.int .i64) sz, .val .str bk, .val (.sl false [.sl true x1]) T, .val (.sl true x2) S, .val (.sl true x3) M, .val (.sl false [.int .i64]) Q]] =>
    ((p = 128 ∧ o = 0) ∧ (x1 = EC ∧ x2 = SC ∧ x3 = BC) ∧ M.list.length ≤ 20 ∧ 0 ≤ i.int ∧ i.int ≤ M.list.length) ∧
    (bif mapsG (M.list.drop i.int.toNat) then k .ret ⟨[(2, vb (.b true))], []⟩ else k (.exit 2) ⟨[], []⟩)
  | _, _ => False
noncomputable def metaGC : Ctx := mkC PR eqs0 (fnsCons 20 greatS fnsNil) trsNil (loopCons 2 [4, 1] [128] metaGLoop2 (loopCons 0 [3, 1] [128] metaGLoop0 noLoops)) (outCons 2 [] [] (outCons 0 [1] [128] (outCons 1048578 [2] [] (outCons 1048576 [2] [] noOut)))) noOut
theorem metaG_round0 (pan : KP) (μ : Mu) (N : Nat) (k : KE) (i c sz bk T S M Q : U) : (exec (metaGC.panics pan) (loopBody Try.f10 0) 0 ⟨[(3, vi i), (1, .ptr 128 0)], [(128, .box (mCells c sz bk T S M Q))]⟩ (again PR (some ([1], [128])) (some ([2], [])) pan [3, 1] [128] metaGLoop0 μ N k)) = (bif decide (i.int < (S.list.length : Int)) then bif decide ((0 : Int) ≤ i.int ∧ i.int < (S.list.length : Int)) then bif greatT (U.list (nth (U.i (0 : Int)) (List.drop (2 : Nat) (U.list (nth (U.i (0 : Int)) S.list (Int.toNat i.int)))) (0 : Nat))) then k Ex.ret (St.mk [(nat_lit 2, .val .bool (U.b true))] []) else bif decide ((0 : Int) ≤ i.int ∧ i.int < (S.list.length : Int)) then bif decide ((↑(ByteArray.size (U.str (nth (U.i (0 : Int)) (List.drop (0 : Nat) (U.list (nth (U.i (0 : Int)) S.list (Int.toNat i.int)))) (0 : Nat)))) : Int) > (1000 : Int)) then k Ex.ret (St.mk [(nat_lit 2, .val .bool (U.b true))] []) else bif Nat.blt (μ [.val (.int IntKind.i64) (U.i (IntKind.wrap .i64 (i.int + (1 : Int)))), .ptr (nat_lit 128) (nat_lit 0)] [.box [.val (.int IntKind.i64) c, .val (.int IntKind.i64) sz, .val .str bk, .val (.sl false [.sl true [.int .i64, .int .i64, .int .i64, .int .i64, .int .u32]]) T, .val (.sl true [.str, .int .i64, Ct.sl false [.sl true [.int .i64, .int .i64, .int .i64, .int .i64, .int .u32]]]) S, .val (.sl true [.str, Ct.bool, Ct.sl true [.int .i64, .int .i64]]) M, .val (.sl false [.int .i64]) Q]]) N then ((nat_lit 128 = nat_lit 128 ∧ nat_lit 0 = nat_lit 0) ∧ ([Ct.int IntKind.i64, Ct.int IntKind.i64, Ct.int IntKind.i64, Ct.int IntKind.i64, Ct.int IntKind.u32] = [.int .i64, .int .i64, .int .i64, .int .i64, .int .u32] ∧ [Ct.str, Ct.int IntKind.i64, Ct.sl false [Ct.sl true [Ct.int IntKind.i64, Ct.int IntKind.i64, Ct.int IntKind.i64, Ct.int IntKind.i64, Ct.int IntKind.u32]]] = [.str, .int .i64, Ct.sl false [.sl true [.int .i64, .int .i64, .int .i64, .int .i64, .int .u32]]] ∧ [Ct.str, Ct.bool, Ct.sl true [Ct.int IntKind.i64, Ct.int IntKind.i64]] = [.str, Ct.bool, Ct.sl true [.int .i64, .int .i64]]) ∧ S.list.length ≤ (20 : Nat) ∧ (0 : Int) ≤ IntKind.wrap .i64 (i.int + (1 : Int)) ∧ IntKind.wrap .i64 (i.int + (1 : Int)) ≤ (S.list.length : Int)) ∧ bif shotsG (List.drop (Int.toNat (IntKind.wrap .i64 (i.int + (1 : Int)))) S.list) then k Ex.ret (St.mk [(nat_lit 2, .val .bool (U.b true))] []) else k (Ex.exit (nat_lit 0)) (St.mk [(nat_lit 1, .ptr (nat_lit 128) (nat_lit 0))] [(nat_lit 128, .box [.val (.int IntKind.i64) c, .val (.int IntKind.i64) sz, .val .str bk, .val (.sl false [.sl true [.int .i64, .int .i64, .int .i64, .int .i64, .int .u32]]) T, .val (.sl true [.str, .int .i64, Ct.sl false [.sl true [.int .i64, .int .i64, .int .i64, .int .i64, .int .u32]]]) S, .val (.sl true [.str, Ct.bool, Ct.sl true [.int .i64, .int .i64]]) M, .val (.sl false [.int .i64]) Q])]) else False else False else False else k (Ex.exit (nat_lit 0)) (St.mk [(nat_lit 1, .ptr (nat_lit 128) (nat_lit 0))] [(nat_lit 128, .box [.val (.int IntKind.i64) c, .val (.int IntKind.i64) sz, .val .str bk, .val (.sl false [.sl true [.int .i64, .int .i64, .int .i64, .int .i64, .int .u32]]) T, .val (.sl true [.str, .int .i64, Ct.sl false [.sl true [.int .i64, .int .i64, .int .i64, .int .i64, .int .u32]]]) S, .val (.sl true [.str, Ct.bool, Ct.sl true [.int .i64, .int .i64]]) M, .val (.sl false [.int .i64]) Q])])) := by kernel_rfl
theorem metaG_round2 (pan : KP) (μ : Mu) (N : Nat) (k : KE) (i c sz bk T S M Q : U) : (exec (metaGC.panics pan) (loopBody Try.f10 1) 2 ⟨[(4, vi i), (1, .ptr 128 0)], [(128, .box (mCells c sz bk T S M Q))]⟩ (again PR (some ([], [])) (some ([2], [])) pan [4, 1] [128] metaGLoop2 μ N k)) = (bif decide (i.int < (M.list.length : Int)) then bif decide ((0 : Int) ≤ i.int ∧ i.int < (M.list.length : Int)) then bif decide ((↑(List.length (U.list (nth (U.i (0 : Int)) (List.drop (2 : Nat) (U.list (nth (U.i (0 : Int)) M.list (Int.toNat i.int)))) (0 : Nat)))) : Int) > (500 : Int)) then k Ex.ret (St.mk [(nat_lit 2, .val .bool (U.b true))] []) else bif decide ((0 : Int) ≤ i.int ∧ i.int < (M.list.length : Int)) then bif decide ((↑(ByteArray.size (U.str (nth (U.i (0 : Int)) (List.drop (0 : Nat) (U.list (nth (U.i (0 : Int)) M.list (Int.toNat i.int)))) (0 : Nat)))) : Int) > (1000 : Int)) then k Ex.ret (St.mk [(nat_lit 2, .val .bool (U.b true))] []) else bif Nat.blt (μ [.val (.int IntKind.i64) (U.i (IntKind.wrap .i64 (i.int + (1 : Int)))), .ptr (nat_lit 128) (nat_lit 0)] [.box [.val (.int IntKind.i64) c, .val (.int IntKind.i64) sz, .val .str bk, .val (.sl false [.sl true [.int .i64, .int .i64, .int .i64, .int .i64, .int .u32]]) T, .val (.sl true [.str, .int .i64, Ct.sl false [.sl true [.int .i64, .int .i64, .int .i64, .int .i64, .int .u32]]]) S, .val (.sl true [.str, Ct.bool, Ct.sl true [.int .i64, .int .i64]]) M, .val (.sl false [.int .i64]) Q]]) N then ((nat_lit 128 = nat_lit 128 ∧ nat_lit 0 = nat_lit 0) ∧ ([Ct.int IntKind.i64, Ct.int IntKind.i64, Ct.int IntKind.i64, Ct.int IntKind.i64, Ct.int IntKind.u32] = [.int .i64, .int .i64, .int .i64, .int .i64, .int .u32] ∧ [Ct.str, Ct.int IntKind.i64, Ct.sl false [Ct.sl true [Ct.int IntKind.i64, Ct.int IntKind.i64, Ct.int IntKind.i64, Ct.int IntKind.i64, Ct.int IntKind.u32]]] = [.str, .int .i64, Ct.sl false [.sl true [.int .i64, .int .i64, .int .i64, .int .i64, .int .u32]]] ∧ [Ct.str, Ct.bool, Ct.sl true [Ct.int IntKind.i64, Ct.int IntKind.i64]] = [.str, Ct.bool, Ct.sl true [.int .i64, .int .i64]]) ∧ M.list.length ≤ (20 : Nat) ∧ (0 : Int) ≤ IntKind.wrap .i64 (i.int + (1 : Int)) ∧ IntKind.wrap .i64 (i.int + (1 : Int)) ≤ (M.list.length : Int)) ∧ bif mapsG (List.drop (Int.toNat (IntKind.wrap .i64 (i.int + (1 : Int)))) M.list) then k Ex.ret (St.mk [(nat_lit 2, .val .bool (U.b true))] []) else k (Ex.exit (nat_lit 2)) (St.mk [] []) else False else False else False else k (Ex.exit (nat_lit 2)) (St.mk [] [])) := by kernel_rfl
theorem metaG_tree (R : RF) (c sz bk T S M Q : U) : (run metaGC Try.f10 [[c, sz, bk, T, S, M, Q]] R) = (bif greatT T.list then R [[U.b true]] else bif decide ((S.list.length : Int) > (20 : Int)) then R [[U.b true]] else bif decide ((M.list.length : Int) > (20 : Int)) then R [[U.b true]] else bif decide ((Q.list.length : Int) > (20000 : Int)) then R [[U.b true]] else bif decide ((↑(ByteArray.size bk.str) : Int) > (1000 : Int)) then R [[U.b true]] else ((nat_lit 128 = nat_lit 128 ∧ nat_lit 0 = nat_lit 0) ∧ ([Ct.int IntKind.i64, Ct.int IntKind.i64, Ct.int IntKind.i64, Ct.int IntKind.i64, Ct.int IntKind.u32] = [.int .i64, .int .i64, .int .i64, .int .i64, .int .u32] ∧ [Ct.str, Ct.int IntKind.i64, Ct.sl false [Ct.sl true [Ct.int IntKind.i64, Ct.int IntKind.i64, Ct.int IntKind.i64, Ct.int IntKind.i64, Ct.int IntKind.u32]]] = [.str, .int .i64, Ct.sl false [.sl true [.int .i64, .int .i64, .int .i64, .int .i64, .int .u32]]] ∧ [Ct.str, Ct.bool, Ct.sl true [Ct.int IntKind.i64, Ct.int IntKind.i64]] = [.str, Ct.bool, Ct.sl true [.int .i64, .int .i64]]) ∧ S.list.length ≤ (20 : Nat) ∧ (0 : Int) ≤ (0 : Int) ∧ (0 : Int) ≤ (S.list.length : Int)) ∧ bif shotsG (List.drop (Int.toNat (0 : Int)) S.list) then R [[U.b true]] else ((nat_lit 128 = nat_lit 128 ∧ nat_lit 0 = nat_lit 0) ∧ ([Ct.int IntKind.i64, Ct.int IntKind.i64, Ct.int IntKind.i64, Ct.int IntKind.i64, Ct.int IntKind.u32] = [.int .i64, .int .i64, .int .i64, .int .i64, .int .u32] ∧ [Ct.str, Ct.int IntKind.i64, Ct.sl false [Ct.sl true [Ct.int IntKind.i64, Ct.int IntKind.i64, Ct.int IntKind.i64, Ct.int IntKind.i64, Ct.int IntKind.u32]]] = [.str, .int .i64, Ct.sl false [.sl true [.int .i64, .int .i64, .int .i64, .int .i64, .int .u32]]] ∧ [Ct.str, Ct.bool, Ct.sl true [Ct.int IntKind.i64, Ct.int IntKind.i64]] = [.str, Ct.bool, Ct.sl true [.int .i64, .int .i64]]) ∧ M.list.length ≤ (20 : Nat) ∧ (0 : Int) ≤ (0 : Int) ∧ (0 : Int) ≤ (M.list.length : Int)) ∧ bif mapsG (List.drop (Int.toNat (0 : Int)) M.list) then R [[U.b true]] else R [[U.b false]]) := by kernel_rfl
def errS : List (List U) → List (List U) := fun us => [[nth (.i 0) (nth [] us 0) 0]]
def trueS : List (List U) → List (List U) := fun _ => [[.b true]]
theorem err_tree (R : RF) (e : U) : (run K0 Try.f14 [[e]] R) = (R [[e]]) := by kernel_rfl
noncomputable def awakeC : Ctx := mkC PR eqs0 (fnsConsP 12 mputP mputS (fnsCons 14 errS fnsNil)) trsNil noLoops noOut noOut
theorem awake_tree (R : RF) : (run awakeC Try.f11 [] R) = (mputP [[U.i (0 : Int), U.i (0 : Int), U.s (ByteArray.mk #[]), U.l [], U.l [], U.l [], U.l []]] ∧ R [[U.b ((↑(List.length (metaX (U.i (0 : Int)) (U.i (0 : Int)) (U.s (ByteArray.mk #[])) (U.l []) (U.l [])
  (U.l []) (U.l []))) : Int) == (13 : Int))]]) := by kernel_rfl
end Go.Mat

namespace Go.Mat
open Go Go.Den Go.Proofs
theorem great_loop : LoopOk greatC 0 (loopBody Try.f20 0) := by
  refine loopOk_of (F := greatLoop) (ts := [4, 3, 1]) (os := [128]) rfl (fun svs os => match svs, os with | .val _ i :: _, [.box [.val _ L]] => ((L.list.length : Int) - i.int).toNat | _, _ => 0) ?_
  intro pan svs os k ho1 ho2 h
  unfold greatLoop at h
  split at h
  · rename_i i n p o ec L
    obtain ⟨⟨rfl, rfl, rfl, hnn, h0, hi, hn0, hn⟩, hk⟩ := h
    have hL : L.list.length ≤ maxLen := ho2.1.1.1
    unfold maxLen at hL
    refine .eq (great_round pan _ _ k i n L) ?_
    refine bd (fun hlt => bd (fun h6 => dt ⟨h0, by omega⟩ ?_) (fun h6 => ?_)) (fun hlt => ?_)
    · rw [drop_at (by omega), greatN, decide_eq_true h6, cond_true] at hk
      simp only [U.at] at hk
      have hm : (0 : Int) ≤ (bif decide (6000 < ((nth (.i 0) L.list i.int.toNat).list.length : Int)) then 6000 else ((nth (.i 0) L.list i.int.toNat).list.length : Int)) ∧ (bif decide (6000 < ((nth (.i 0) L.list i.int.toNat).list.length : Int)) then 6000 else ((nth (.i 0) L.list i.int.toNat).list.length : Int)) ≤ 6000 := by
        by_cases hc : 6000 < ((nth (.i 0) L.list i.int.toNat).list.length : Int)
        · rw [decide_eq_true hc, cond_true]; omega
        · rw [decide_eq_false hc, cond_false]; omega
      generalize (bif decide (6000 < ((nth (.i 0) L.list i.int.toNat).list.length : Int)) then 6000 else ((nth (.i 0) L.list i.int.toNat).list.length : Int)) = m at hm hk ⊢
      have hw : IntKind.wrap .i64 (i.int + 1) = i.int + 1 := i64_in (by omega) (by omega)
      have hw1 : IntKind.wrap .i64 (n.int + 1) = n.int + 1 := i64_in (by omega) (by omega)
      have hw2 : IntKind.wrap .i64 (n.int + 1 + m) = n.int + 1 + m := i64_in (by omega) (by omega)
      have hc : (i.int + 1).toNat = i.int.toNat + 1 := by omega
      have hlt' : ((L.list.length : Int) - (i.int + 1)).toNat < ((L.list.length : Int) - i.int).toNat := by omega
      simp only [hw, hw1, hw2, hc]
      exact blt hlt' ⟨⟨by trivial, by trivial, by trivial, by trivial, by omega, by omega, by omega, by omega⟩, hk⟩
    · rw [drop_at (by omega), greatN, decide_eq_false h6, cond_false, ← hnn] at hk
      exact hk
    · rw [List.drop_of_length_le (by omega), greatN, ← hnn] at hk
      exact hk
  · exact h.elim
theorem great_ok : SpecF PR 20 greatS := fun fn us hfn => by
  have hf : PR.funcs[(20 : Nat)]? = some Try.f20 := by kernel_rfl
  rw [hf] at hfn; cases hfn
  refine fn_okH (C := greatC) (mkC_ok eqs0_ok mixed_ok .nil .nil) hf (by kernel_rfl) (loops_one (by kernel_rfl) great_loop) fun hok => ?_
  have hp : Try.f20.params.toList = [24] := by kernel_rfl
  rw [hp] at hok
  obtain ⟨L, hus⟩ : ∃ L, us = [[L]] := by
    obtain ⟨u, rfl, h1⟩ := shape1 (by kernel_rfl : Cs PR 24 = some (true, [.sl false [.sl true [.int .i64, .int .i64, .int .i64, .int .i64, .int .u32]]])) hok.1
    obtain ⟨L, rfl⟩ := len1 h1
    exact ⟨L, rfl⟩
  subst hus
  refine .eq (great_tree _ L) ?_
  unfold greatS greatT
  simp only [nth_zero, nth_succ]
  exact ⟨⟨by trivial, by trivial, by trivial, by trivial, by omega, by omega, by omega, by omega⟩, rfl⟩
theorem greatN_ge : ∀ (L : List U) (n : Int), greatN n L ≤ 6000 → n + L.length ≤ 6000
  | [], n, h => by simpa [greatN] using h
  | l :: r, n, h => by
    rw [greatN] at h
    by_cases hn : n ≤ 6000
    · rw [decide_eq_true hn, cond_true] at h
      have := greatN_ge r _ h
      have h0 : (0 : Int) ≤ (bif decide (6000 < (l.list.length : Int)) then 6000 else (l.list.length : Int)) := by
        cases decide (6000 < (l.list.length : Int)) <;> simp
      rw [List.length_cons]; omega
    · rw [decide_eq_false hn, cond_false] at h; omega
theorem greatT_low {L : List U} (h : greatT L = false) : L.length ≤ 6000 := by
  unfold greatT at h
  have := greatN_ge L 0 (by have := of_decide_eq_false h; omega)
  omega
theorem metaG_loop0 : LoopOk metaGC 0 (loopBody Try.f10 0) := by
  refine loopOk_of (F := metaGLoop0) (ts := [3, 1]) (os := [128]) rfl (fun svs os => match svs, os with | .val _ i :: _, [.box [_, _, _, _, .val _ S, _, _]] => ((S.list.length : Int) - i.int).toNat | _, _ => 0) ?_
  intro pan svs os k ho1 ho2 h
  unfold metaGLoop0 at h
  split at h
  · rename_i i p o c sz bk x1 T x2 S x3 M Q
    obtain ⟨⟨⟨rfl, rfl⟩, ⟨rfl, rfl, rfl⟩, hS, h0, hi⟩, hk⟩ := h
    refine .eq (metaG_round0 pan _ _ k i c sz bk T S M Q) ?_
    refine bd (fun hlt => dt ⟨h0, by omega⟩ ?_) (fun hlt => ?_)
    · rw [drop_at (by omega), shotsG] at hk
      simp only [U.at, e0, e2] at hk
      have hw : IntKind.wrap .i64 (i.int + 1) = i.int + 1 := i64_in (by omega) (by omega)
      have hc : (i.int + 1).toNat = i.int.toNat + 1 := by omega
      have hlt' : ((S.list.length : Int) - (i.int + 1)).toNat < ((S.list.length : Int) - i.int).toNat := by omega
      simp only [nth_drop, Nat.add_zero, hw, hc]
      refine bi (fun h1 => ?_) (fun h1 => dt ⟨h0, by omega⟩ (bi (fun h2 => ?_) (fun h2 => ?_)))
      · rw [h1] at hk; exact hk
      · rw [h1, h2] at hk; exact hk
      · rw [h1, h2] at hk
        exact blt hlt' ⟨⟨⟨by trivial, by trivial⟩, ⟨by trivial, by trivial, by trivial⟩, hS, by omega, by omega⟩, hk⟩
    · rw [List.drop_of_length_le (by omega), shotsG] at hk
      exact hk
  · exact h.elim
theorem metaG_loop2 : LoopOk metaGC 2 (loopBody Try.f10 1) := by
  refine loopOk_of (F := metaGLoop2) (ts := [4, 1]) (os := [128]) rfl (fun svs os => match svs, os with | .val _ i :: _, [.box [_, _, _, _, _, .val _ M, _]] => ((M.list.length : Int) - i.int).toNat | _, _ => 0) ?_
  intro pan svs os k ho1 ho2 h
  unfold metaGLoop2 at h
  split at h
  · rename_i i p o c sz bk x1 T x2 S x3 M Q
    obtain ⟨⟨⟨rfl, rfl⟩, ⟨rfl, rfl, rfl⟩, hS, h0, hi⟩, hk⟩ := h
    refine .eq (metaG_round2 pan _ _ k i c sz bk T S M Q) ?_
    refine bd (fun hlt => dt ⟨h0, by omega⟩ ?_) (fun hlt => ?_)
    · rw [drop_at (by omega), mapsG] at hk
      simp only [U.at, e0, e2] at hk
      have hw : IntKind.wrap .i64 (i.int + 1) = i.int + 1 := i64_in (by omega) (by omega)
      have hc : (i.int + 1).toNat = i.int.toNat + 1 := by omega
      have hlt' : ((M.list.length : Int) - (i.int + 1)).toNat < ((M.list.length : Int) - i.int).toNat := by omega
      simp only [nth_drop, Nat.add_zero, hw, hc]
      refine bi (fun h1 => ?_) (fun h1 => dt ⟨h0, by omega⟩ (bi (fun h2 => ?_) (fun h2 => ?_)))
      · rw [h1] at hk; exact hk
      · rw [h1, h2] at hk; exact hk
      · rw [h1, h2] at hk
        exact blt hlt' ⟨⟨⟨by trivial, by trivial⟩, ⟨by trivial, by trivial, by trivial⟩, hS, by omega, by omega⟩, hk⟩
    · rw [List.drop_of_length_le (by omega), mapsG] at hk
      exact hk
  · exact h.elim
theorem metaG_ok : SpecF PR 10 metaGS := fun fn us hfn => by
  have hf : PR.funcs[(10 : Nat)]? = some Try.f10 := by kernel_rfl
  rw [hf] at hfn; cases hfn
  refine fn_okH (C := metaGC) (mkC_ok eqs0_ok mixed_ok (.cons great_ok .nil) .nil) hf (by kernel_rfl) (loops_two (by kernel_rfl) metaG_loop0 metaG_loop2) fun hok => ?_
  have hp : Try.f10.params.toList = [29] := by kernel_rfl
  rw [hp] at hok
  obtain ⟨c, sz, bk, T, S, M, Q, hus⟩ : ∃ c sz bk T S M Q, us = [[c, sz, bk, T, S, M, Q]] := by
    obtain ⟨u, rfl, h1⟩ := shape1 (by kernel_rfl : Cs PR 29 = some (true, [.int .i64, .int .i64, .str, .sl false [.sl true EC], .sl true SC, .sl true BC, .sl false [.int .i64]])) hok.1
    obtain ⟨c, sz, bk, T, S, M, Q, rfl⟩ := len7 h1
    exact ⟨c, sz, bk, T, S, M, Q, rfl⟩
  subst hus
  refine .eq (metaG_tree _ c sz bk T S M Q) ?_
  have hS : metaGS [[c, sz, bk, T, S, M, Q]] = [[.b (metaG bk T S M Q)]] := rfl
  rw [hS]
  unfold metaG
  simp only [Int.toNat_zero, List.drop_zero]
  refine bi (fun h1 => by rw [h1]; rfl) (fun h1 => bi (fun h2 => by rw [h1, h2]; rfl) (fun h2 => bi (fun h3 => by rw [h1, h2, h3]; rfl) (fun h3 => bi (fun h4 => by rw [h1, h2, h3, h4]; rfl) (fun h4 => bi (fun h5 => by rw [h1, h2, h3, h4, h5]; rfl) (fun h5 => ?_)))))
  have g2 := of_decide_eq_false h2
  have g3 := of_decide_eq_false h3
  rw [h1, h2, h3, h4, h5]
  refine ⟨⟨⟨by trivial, by trivial⟩, ⟨by trivial, by trivial, by trivial⟩, by omega, by omega, by omega⟩, bi (fun h6 => by rw [h6]; rfl) (fun h6 => ?_)⟩
  rw [h6]
  exact ⟨⟨⟨by trivial, by trivial⟩, ⟨by trivial, by trivial, by trivial⟩, by omega, by omega, by omega⟩, bi (fun h7 => by rw [h7]; rfl) (fun h7 => by rw [h7]; rfl)⟩
theorem shotsG_low : ∀ {S : List U}, shotsG S = false → ∀ s ∈ S, (e2 s).list.length ≤ 6000
  | [], _, s, hs => by cases hs
  | x :: r, h, s, hs => by
    rw [shotsG] at h
    simp only [Bool.or_eq_false_iff] at h
    rcases List.mem_cons.1 hs with rfl | hs
    · exact greatT_low h.1.1
    · exact shotsG_low h.2 s hs
theorem mapsG_low : ∀ {M : List U}, mapsG M = false → ∀ s ∈ M, (e2 s).list.length ≤ 500
  | [], _, s, hs => by cases hs
  | x :: r, h, s, hs => by
    rw [mapsG] at h
    simp only [Bool.or_eq_false_iff] at h
    rcases List.mem_cons.1 hs with rfl | hs
    · have := of_decide_eq_false h.1.1; omega
    · exact mapsG_low h.2 s hs
theorem metaG_low {bk T S M Q : U} (h : metaG bk T S M Q = false) : sizeOk T S M := by
  unfold metaG at h
  simp only [Bool.or_eq_false_iff] at h
  exact ⟨by have := greatT_low h.1.1.1.1.1.1; omega, fun s hs => by have := shotsG_low h.1.2 s hs; omega, fun s hs => by have := mapsG_low h.2 s hs; omega⟩
theorem err_ok : SpecF PR 14 errS := fun fn us hfn => by
  have hf : PR.funcs[(14 : Nat)]? = some Try.f14 := by kernel_rfl
  rw [hf] at hfn; cases hfn
  refine fn_okH (C := K0) (mkC_ok eqs0_ok mixed_ok .nil .nil) hf (by kernel_rfl) (loops_none (by kernel_rfl)) fun hok => ?_
  have hp : Try.f14.params.toList = [33] := by kernel_rfl
  rw [hp] at hok
  obtain ⟨e, hus⟩ : ∃ e, us = [[e]] := by
    obtain ⟨u, rfl, h1⟩ := shape1 (by kernel_rfl : Cs PR 33 = some (false, [.int .i64])) hok.1
    obtain ⟨e, rfl⟩ := len1 h1
    exact ⟨e, rfl⟩
  subst hus
  refine .eq (err_tree _ e) ?_
  rfl
theorem awake_ok : SpecF PR 11 trueS := fun fn us hfn => by
  have hf : PR.funcs[(11 : Nat)]? = some Try.f11 := by kernel_rfl
  rw [hf] at hfn; cases hfn
  refine fn_okH (C := awakeC) (mkC_ok eqs0_ok mixed_ok (.consP mput_ok (.cons err_ok .nil)) .nil) hf (by kernel_rfl) (loops_none (by kernel_rfl)) fun hok => ?_
  have hp : Try.f11.params.toList = [] := by kernel_rfl
  rw [hp] at hok
  have hus : us = [] := hok.1
  subst hus
  refine .eq (awake_tree _) ?_
  refine ⟨⟨by show 0 ≤ _; omega, (fun s hs => by cases hs), (fun s hs => by cases hs)⟩, ?_⟩
  show [[U.b _]] = [[U.b true]]
  rw [show (metaX (U.i 0) (U.i 0) (U.s ⟨#[]⟩) (U.l []) (U.l []) (U.l []) (U.l [])).length = 13 from by kernel_rfl]
  rfl
end Go.Mat

namespace Go.Mat
open Go Go.Den Go.Proofs
def shotsN : List U → Int
  | [] => 0
  | s :: r => 6 + (e0 s).str.size + countB (e2 s).list * 130 + shotsN r
def mapsN : List U → Int
  | [] => 0
  | b :: r => 5 + (e0 b).str.size + 4 * (e2 b).list.length + mapsN r
def diffsN (p : Int) : List U → Int
  | [] => 0
  | y :: r => (bif y.int == p then 0 else 4) + diffsN y.int r
def countsN : List U → Int
  | [] => 0
  | x :: r => 4 + diffsN x.int r
def shotLow (s : U) : Prop := (e0 s).str.size ≤ 1000 ∧ (e2 s).list.length ≤ 6000
def mapLow (s : U) : Prop := (e0 s).str.size ≤ 1000 ∧ (e2 s).list.length ≤ 500
end Go.Mat

namespace Go.Mat
open Go Go.Den Go.Proofs
theorem countB_le : ∀ L : List U, 0 ≤ countB L ∧ countB L ≤ L.length
  | [] => by simp [countB]
  | l :: r => by
    have := countB_le r
    rw [countB, List.length_cons]
    cases decide (l.list = []) with
    | true => simp only [cond_true]; omega
    | false => simp only [cond_false]; omega
end Go.Mat

namespace Go.Mat
open Go Go.Den Go.Proofs
theorem num_eq {n v : Int} (h : putErr n (IntKind.wrap .u64 v) = 0) : (num [] n v).length = n.toNat := by
  unfold num putX
  rw [if_pos h, List.nil_append, putFrom_len]
theorem num1_eq {v : Int} (h0 : 0 ≤ v) (h : v ≤ 255) : (num [] 1 v).length = 1 := num_eq (good1 h0 h)
theorem num2_eq {v : Int} (h0 : 0 ≤ v) (h : v ≤ 65535) : (num [] 2 v).length = 2 := num_eq (good2 h0 h)
theorem num4_eq {v : Int} (h0 : 0 ≤ v) (h : v ≤ 4294967295) : (num [] 4 v).length = 4 := num_eq (good4 h0 h)
theorem textB_eq {s : ByteArray} (h : s.size ≤ 65535) : (textB [] s).length = 2 + s.size := by
  unfold textB
  rw [show longB s = false from decide_eq_false (by omega), cond_false, List.length_append, num2_eq (by omega) (by omega), strU_len]
def sumOk (e : U) : Prop := 0 ≤ (e4 e).int ∧ (e4 e).int ≤ 4294967295
def tabOk (L : List U) : Prop := ∀ l ∈ L, ∀ e ∈ l.list, sumOk e
theorem may_low {k st ct sz sm c : Int} (h : mayR k st ct sz sm c = true) : 0 ≤ k ∧ k ≤ 3 ∧ 0 ≤ st ∧ st ≤ 65536 ∧ 0 ≤ ct ∧ ct ≤ 64 ∧ 0 ≤ sz ∧ sz ≤ 1024 := by
  unfold mayR at h
  split at h
  · cases h
  · rename_i hc
    have hp := pow_le (c := c) (by omega) (by omega)
    split at h
    · have := of_decide_eq_true h
      omega
    · split at h
      · simp only [Bool.and_eq_true, placeR, decide_eq_true_eq] at h
        omega
      · split at h
        · simp only [Bool.and_eq_true, placeR, decide_eq_true_eq] at h
          omega
        · cases h
theorem entB_len {a b c d e k : Int} (h : mayR a b c d e k = true) (he : 0 ≤ e ∧ e ≤ 4294967295) : (entB a b c d e).length = 16 := by
  obtain ⟨_, _, hb0, hb, hc0, hc, hd0, hd⟩ := may_low h
  have hw : IntKind.wrap .i64 e = e := i64_in (by omega) (by omega)
  unfold entB
  rw [hw, num_app (v := e) (good4 he.1 he.2), List.length_append, num_app (v := d) (good4 (by omega) (by omega)), List.length_append, num_app (v := b) (good4 (by omega) (by omega)), List.length_append, num_app (v := c) (good2 (by omega) (by omega)), List.length_append,
    num4_eq he.1 he.2, num4_eq (by omega) (by omega), num4_eq (by omega) (by omega), num2_eq (by omega) (by omega)]
  rfl
theorem leafB_eq {n c i : Int} : ∀ {l : List U} {k : Int}, entsR n c i k l = true → (∀ e ∈ l, sumOk e) → (leafB c l).length = 16 * l.length
  | [], _, _, _ => by simp [leafB]
  | e :: r, k, h, hs => by
    rw [entsR, Bool.and_eq_true] at h
    have h1 := h.1
    unfold entOk at h1
    rw [Bool.and_eq_true] at h1
    have hl := leafB_eq h.2 fun e he => hs e (List.mem_cons_of_mem _ he)
    rw [leafB, entX, h1.1, cond_true, List.length_append, entB_len h1.1 (hs e (List.mem_cons_self ..)), hl, List.length_cons]
    omega
theorem leavesB_eq {n c : Int} : ∀ {L : List U} {i : Int}, leavesR n c i L = true → 0 ≤ i → i + L.length ≤ 65535 → tabOk L → ((leavesB c i L).length : Int) = 130 * countB L
  | [], _, _, _, _, _ => by simp [leavesB, countB]
  | l :: r, i, h, h0, hi, hs => by
    simp only [List.length_cons] at hi
    rw [leavesR] at h
    have key : leavesR n c (i + 1) r = true ∧ (l.list = [] ∨ (l.list.length = 8 ∧ entsR n c i 0 l.list = true)) := by
      split at h
      · rename_i hh; exact ⟨h, .inl hh.1⟩
      · rw [Bool.and_eq_true] at h
        have h1 := h.1
        unfold leafR at h1
        simp only [Bool.and_eq_true, decide_eq_true_eq] at h1
        exact ⟨h.2, .inr h1.1⟩
    have ih := leavesB_eq key.1 (by omega) (by omega) fun l hl => hs l (List.mem_cons_of_mem _ hl)
    rw [leavesB, countB, List.length_append]
    rcases key.2 with hl | ⟨hl, he⟩
    · rw [hl]; simp only [decide_true, cond_true, List.length_nil]; omega
    · rw [decide_eq_false (by intro h0; rw [h0] at hl; simp at hl)]
      simp only [cond_false, List.length_append]
      have h2 := leafB_eq he (hs l (List.mem_cons_self ..))
      have h3 := num2_eq (v := i) h0 (by omega)
      omega
theorem tabX_eq {L : List U} {n c : Int} (hl : L.length ≤ 1099511627776) (h : tableR L n c = true) (hs : tabOk L) : ((tabX L c).length : Int) = 2 + 130 * countB L ∧ countB L ≤ 512 := by
  obtain ⟨h1, h2, h3, h4, h5, h6⟩ := tableR_low hl h
  have h7 : leavesR n c 0 L = true := by
    unfold tableR at h
    split at h
    · cases h
    · exact h
  have hc := countB_le L
  have hm : ∀ {m : Int}, n ≤ m → ∀ {L : List U} {i : Int}, leavesR n c i L = true → leavesR m c i L = true := fun {m} hm => by
    have he : ∀ {l : List U} {i k : Int}, entsR n c i k l = true → entsR m c i k l = true := by
      intro l
      induction l with
      | nil => intro i k _; rfl
      | cons e r ih =>
        intro i k h
        rw [entsR, Bool.and_eq_true] at h ⊢
        refine ⟨?_, ih h.2⟩
        have h1 := h.1
        unfold entOk at h1 ⊢
        rw [Bool.and_eq_true, Bool.or_eq_true] at h1 ⊢
        refine ⟨h1.1, h1.2.imp id fun h => ?_⟩
        have := of_decide_eq_true h
        exact decide_eq_true (by omega)
    intro L
    induction L with
    | nil => intro i _; rfl
    | cons l r ih =>
      intro i h
      rw [leavesR] at h ⊢
      split at h
      · rename_i hc; rw [if_pos hc]; exact ih h
      · rename_i hc
        rw [if_neg hc]
        rw [Bool.and_eq_true] at h ⊢
        refine ⟨?_, ih h.2⟩
        have h1 := h.1
        unfold leafR at h1 ⊢
        simp only [Bool.and_eq_true] at h1 ⊢
        exact ⟨⟨h1.1.1, he h1.1.2⟩, h1.2⟩
  have ht : tableR L 4096 c = true := by
    unfold tableR
    rw [if_neg (by omega)]
    exact hm h4 h7
  have hB := leavesB_eq h7 (by omega) (by omega) hs
  unfold tabX tputB
  rw [ht, cond_true, List.length_append]
  have h9 := num2_eq (v := countB L) hc.1 (by omega)
  omega
theorem spansB_eq : ∀ {L : List U}, (∀ s ∈ L, spanOk s) → (spansB L).length = 4 * L.length
  | [], _ => by simp [spansB]
  | s :: r, h => by
    obtain ⟨h1, h2, h3, h4⟩ := h s (List.mem_cons_self ..)
    rw [spansB, List.length_append, List.length_append, spansB_eq fun s hs => h s (List.mem_cons_of_mem _ hs), num2_eq h1 h2, num2_eq h3 h4, List.length_cons]
    omega
theorem runsB_len {x : Int} : ∀ {l : List U} {n : Int}, 0 ≤ x → x ≤ 65535 → (∀ y ∈ l, cntOk y) → 1 ≤ n → n + l.length ≤ 65535 → ((runsB x n l).length : Int) = 4 + diffsN x l
  | [], n, hx0, hx, _, h1, h2 => by
    simp only [List.length_nil] at h2
    rw [runsB, diffsN, List.length_append, num2_eq (by omega) (by omega), num2_eq hx0 hx]
    rfl
  | y :: r, n, hx0, hx, hc, h1, h2 => by
    simp only [List.length_cons] at h2
    have hy := hc y (List.mem_cons_self ..)
    unfold cntOk at hy
    have hr : ∀ y ∈ r, cntOk y := fun z hz => hc z (List.mem_cons_of_mem _ hz)
    rw [runsB, diffsN, decide_eq_true (show n < 65535 by omega), Bool.true_and]
    cases he : y.int == x with
    | true =>
      have he' : y.int = x := by simpa using he
      rw [cond_true, cond_true, he', runsB_len hx0 hx hr (by omega) (by omega)]
      omega
    | false =>
      rw [cond_false, cond_false, List.length_append, List.length_append, num2_eq (by omega) (by omega), num2_eq hx0 hx]
      have := runsB_len (x := y.int) (n := 1) hy.1 hy.2 hr (by omega) (by omega)
      omega
theorem countsB_eq {Q : List U} (h : ∀ y ∈ Q, cntOk y) (hl : Q.length ≤ 65535) : ((countsB Q).length : Int) = countsN Q := by
  cases Q with
  | nil => rfl
  | cons x r =>
    have hx := h x (List.mem_cons_self ..)
    simp only [List.length_cons] at hl
    rw [countsB, countsN]
    exact runsB_len hx.1 hx.2 (fun y hy => h y (List.mem_cons_of_mem _ hy)) (by omega) (by omega)
theorem diffsN_le (p : Int) : ∀ (l : List U), 0 ≤ diffsN p l ∧ diffsN p l ≤ 4 * l.length
  | [] => by simp [diffsN]
  | y :: r => by
    have := diffsN_le y.int r
    rw [diffsN, List.length_cons]
    cases y.int == p with
    | true => simp only [cond_true]; omega
    | false => simp only [cond_false]; omega
theorem countsN_le (Q : List U) : 0 ≤ countsN Q ∧ countsN Q ≤ 4 * Q.length := by
  cases Q with
  | nil => simp [countsN]
  | cons x r => have := diffsN_le x.int r; rw [countsN, List.length_cons]; omega
theorem shotsB_eq {c : Int} : ∀ {S : List U}, (∀ s ∈ S, shotOk s ∧ (e0 s).str.size ≤ 16 ∧ tabOk (e2 s).list ∧ ∃ n, tableR (e2 s).list n c = true) → ((shotsB c S).length : Int) = shotsN S ∧ 0 ≤ shotsN S ∧ shotsN S ≤ 70000 * S.length
  | [], _ => by simp [shotsB, shotsN]
  | s :: r, h => by
    obtain ⟨ih, ih0, ih1⟩ := shotsB_eq (c := c) fun s hs => h s (List.mem_cons_of_mem _ hs)
    obtain ⟨⟨h1, h2, h3, h4⟩, h5, h6, n, h7⟩ := h s (List.mem_cons_self ..)
    have g1 := textB_eq h1
    have g2 := num2_eq h2 h3
    obtain ⟨g3, g4⟩ := tabX_eq h4 h7 h6
    have g5 := countB_le (e2 s).list
    rw [shotsB, shotsN, List.length_append, List.length_append, List.length_append, List.length_cons]
    omega
theorem mapsB_eq : ∀ {M : List U}, (∀ s ∈ M, bmapOk s ∧ (e0 s).str.size ≤ 16 ∧ (e2 s).list.length ≤ 500) → ((mapsB M).length : Int) = mapsN M ∧ 0 ≤ mapsN M ∧ mapsN M ≤ 3000 * M.length
  | [], _ => by simp [mapsB, mapsN]
  | s :: r, h => by
    obtain ⟨ih, ih0, ih1⟩ := mapsB_eq fun s hs => h s (List.mem_cons_of_mem _ hs)
    obtain ⟨⟨h1, h2, h3⟩, h4, h5⟩ := h s (List.mem_cons_self ..)
    have g1 := textB_eq h1
    have g2 := num1_eq (v := onB (e1 s).bool) (by cases (e1 s).bool <;> simp [onB]) (by cases (e1 s).bool <;> simp [onB])
    have g3 := num2_eq (v := (e2 s).list.length) (by omega) (by omega)
    have g4 := spansB_eq h3
    rw [mapsB, mapB, mapsN, List.length_append, List.length_append, List.length_append, List.length_append, List.length_cons]
    omega
theorem tab_sums {L : U} (h : okC (.sl false [.sl true EC]) L) : tabOk L.list := fun l hl e he => by
  obtain ⟨i, hi, rfl⟩ := List.getElem_of_mem hl
  obtain ⟨j, hj, rfl⟩ := List.getElem_of_mem he
  have h1 := (h.2 i hi).1
  simp only [elemU_false] at h1
  have e1 : U.at [U.at L.list i] 0 = L.list[i] := at_getElem _ _ hi
  rw [e1] at h1
  have h2 := (h1.2 j hj).2.2.2.2.1
  simp only [elemU_true, nth_tail, U.at] at h2
  have e2 : nth (U.i 0) (L.list[i]).list j = (L.list[i]).list[j] := at_getElem _ _ hj
  rw [e2] at h2
  exact h2
theorem shot_sums {S : U} (h : okC (.sl true SC) S) : ∀ s ∈ S.list, tabOk (e2 s).list := fun s hs => by
  obtain ⟨i, hi, rfl⟩ := List.getElem_of_mem hs
  have h1 := (h.2 i hi).2.2.1
  simp only [elemU_true, nth_tail, U.at] at h1
  have e1 : nth (U.i 0) S.list i = S.list[i] := at_getElem _ _ hi
  rw [e1] at h1
  exact tab_sums h1
structure RightFacts (c sz bk T S M Q : U) : Prop where
  c0 : 0 ≤ c.int
  c6 : c.int ≤ 6
  sz0 : 0 ≤ sz.int
  sz1 : sz.int ≤ 4096
  bk : bk.str.size ≤ 16
  t : tableR T.list (sz.int / 2 ^ c.int.toNat) c.int = true
  s8 : S.list.length ≤ 8
  m8 : M.list.length ≤ 8
  q : Q.list.length ≤ 65536
  shots : ∀ s ∈ S.list, (e0 s).str.size ≤ 16 ∧ 0 ≤ (e1 s).int ∧ (e1 s).int ≤ 4096 ∧ ∃ n, tableR (e2 s).list n c.int = true
  maps : ∀ s ∈ M.list, bmapOk s ∧ (e0 s).str.size ≤ 16
  counts : ∀ x ∈ Q.list, cntOk x
theorem shotsR_each {c : Int} : ∀ {r : List U}, shotsR c r = true → ∀ s ∈ r, ∃ n, tableR (e2 s).list n c = true
  | [], _, s, hs => by cases hs
  | x :: r, h, s, hs => by
    rw [shotsR] at h
    simp only [Bool.and_eq_true] at h
    rcases List.mem_cons.1 hs with rfl | hs
    · exact ⟨_, h.1.2⟩
    · exact shotsR_each h.2 s hs
theorem right_facts {c sz bk T S M Q : U} (hT : T.list.length ≤ 1099511627776) (hS : ∀ s ∈ S.list, (e2 s).list.length ≤ 1099511627776) (h : rmetaR c sz bk T S M Q = true) : RightFacts c sz bk T S M Q := by
  have hr2 := h
  rw [rmetaR_eq hT hS, metaR_iff] at hr2
  rw [rmetaR] at h
  simp only [Bool.and_eq_true, decide_eq_true_eq] at h
  obtain ⟨⟨⟨⟨⟨⟨⟨⟨⟨⟨hc0, hc6⟩, hsz⟩, hbk⟩, hS8⟩, hM8⟩, hQ⟩, _⟩, hSr⟩, hMr⟩, hQr⟩ := h
  have hsz := size_low hsz
  exact { c0 := hc0, c6 := hc6, sz0 := hsz.1, sz1 := hsz.2, bk := back_size hbk, t := hr2.2.2.2.2.1, s8 := hS8, m8 := hM8, q := hQ
          shots := fun s hs => by
            obtain ⟨h1, h2⟩ := rshots_each hSr s hs
            have h3 := size_low h2
            exact ⟨name_size h1, h3.1, h3.2, shotsR_each hr2.2.2.2.2.2.2.2.2.1 s hs⟩
          maps := fun s hs => by
            obtain ⟨h1, h2, h3⟩ := rmaps_each hMr s hs
            have := name_size h1
            have := span_ok h2 h3
            exact ⟨⟨by omega, this.1, this.2⟩, by omega⟩
          counts := counts_each hQr }
theorem metaB_len {c sz bk T S M Q : U} (hg : metaG bk T S M Q = false) (hr : RightFacts c sz bk T S M Q) (hT : tabOk T.list) (hS : ∀ s ∈ S.list, tabOk (e2 s).list) :
    ((metaB c.int sz.int bk.str T.list S.list M.list Q.list).length : Int) = 13 + bk.str.size + countB T.list * 130 + shotsN S.list + mapsN M.list + countsN Q.list ∧ metaL c.int sz.int bk.str T.list S.list M.list Q.list = false ∧ 0 ≤ shotsN S.list ∧ shotsN S.list ≤ 560000 ∧ 0 ≤ mapsN M.list ∧ mapsN M.list ≤ 24000 ∧
      countB T.list ≤ 512 ∧ (∀ s ∈ S.list, shotLow s) ∧ (∀ s ∈ M.list, mapLow s) ∧ Q.list.length ≤ 20000 := by
  obtain ⟨g1, g2, g3⟩ := metaG_low hg
  have hg' := hg
  unfold metaG at hg'
  simp only [Bool.or_eq_false_iff] at hg'
  obtain ⟨⟨⟨⟨⟨⟨f1, f2⟩, f3⟩, f4⟩, f5⟩, f6⟩, f7⟩ := hg'
  have f4 := of_decide_eq_false f4
  have k1 := num1_eq hr.c0 (by have := hr.c6; omega)
  have k2 := num2_eq hr.sz0 (by have := hr.sz1; omega)
  have k3 := textB_eq (s := bk.str) (by have := hr.bk; omega)
  obtain ⟨k4, k5⟩ := tabX_eq g1 hr.t hT
  have k6 := num1_eq (v := S.list.length) (by omega) (by have := hr.s8; omega)
  have k7 := num1_eq (v := M.list.length) (by omega) (by have := hr.m8; omega)
  have k8 := num4_eq (v := Q.list.length) (by omega) (by omega)
  obtain ⟨k9, k10, k11⟩ := shotsB_eq (c := c.int) (S := S.list) fun s hs => by
    obtain ⟨q1, q2, q3, q4⟩ := hr.shots s hs
    exact ⟨⟨by omega, q2, by omega, g2 s hs⟩, q1, hS s hs, q4⟩
  obtain ⟨k12, k13, k14⟩ := mapsB_eq (M := M.list) fun s hs => ⟨(hr.maps s hs).1, (hr.maps s hs).2, mapsG_low f7 s hs⟩
  have k15 := countsB_eq hr.counts (by omega)
  have k16 := countsN_le Q.list
  have k17 := countB_le T.list
  have s8 := hr.s8
  have m8 := hr.m8
  have hb := hr.bk
  have hlen : ((metaB c.int sz.int bk.str T.list S.list M.list Q.list).length : Int) = 13 + bk.str.size + countB T.list * 130 + shotsN S.list + mapsN M.list + countsN Q.list := by
    unfold metaB
    simp only [List.length_append]
    omega
  refine ⟨hlen, ?_, k10, by omega, k13, by omega, k5, fun s hs => ⟨by have := (hr.shots s hs).1; omega, shotsG_low f6 s hs⟩, fun s hs => ⟨by have := (hr.maps s hs).2; omega, mapsG_low f7 s hs⟩, by omega⟩
  unfold metaL
  exact decide_eq_false (by omega)
end Go.Mat

namespace Go.Mat
open Go Go.Den Go.Proofs
noncomputable def eqs1 (t : TypeId) : Option (List IntKind) := bif Nat.beq t 72 then some [.i64, .i64] else eqs0 t
def intsE : List U → List U → Bool
  | [], [] => true
  | x :: r, y :: s => (x.int == y.int) && intsE r s
  | _, _ => false
def spanE (x y : U) : Bool := (e0 x).int == (e0 y).int && ((e1 x).int == (e1 y).int && true)
def spansE : List U → List U → Bool
  | [], [] => true
  | x :: r, y :: s => spanE x y && spansE r s
  | _, _ => false
def entE (x y : U) : Bool := (e0 x).int == (e0 y).int && ((e1 x).int == (e1 y).int && ((e2 x).int == (e2 y).int && ((e3 x).int == (e3 y).int && ((e4 x).int == (e4 y).int && true))))
def entsE : List U → List U → Bool
  | [], [] => true
  | x :: r, y :: s => entE x y && entsE r s
  | _, _ => false
def tabE : List U → List U → Bool
  | [], [] => true
  | x :: r, y :: s => entsE x.list y.list && tabE r s
  | _, _ => false
def mapE (x y : U) : Bool := ((e0 x).str.toList == (e0 y).str.toList) && ((e1 x).bool == (e1 y).bool) && spansE (e2 x).list (e2 y).list
def mapsE : List U → List U → Bool
  | [], [] => true
  | x :: r, y :: s => mapE x y && mapsE r s
  | _, _ => false
def lists2 (f : List U → List U → Bool) : List (List U) → List (List U) := fun us => [[.b (f (nth (.i 0) (nth [] us 0) 0).list (nth (.i 0) (nth [] us 1) 0).list)]]
noncomputable def intsLoop : LoopF := fun _ svs _ k => match svs with
  | [.val (.int .i64) i, .val (.sl false [.int .i64]) a, .val (.sl false [.int .i64]) b] =>
    (a.list.length = b.list.length ∧ 0 ≤ i.int ∧ i.int ≤ a.list.length) ∧
    (bif intsE (a.list.drop i.int.toNat) (b.list.drop i.int.toNat) then k (.exit 0) ⟨[(4, .unk)], []⟩ else k .ret ⟨[(4, vb (.b false))], []⟩)
  | _ => False
noncomputable def intsC : Ctx := mkC PR eqs1 fnsNil trsNil (loopCons 0 [5, 0, 1] [] intsLoop noLoops) (outCons 0 [4] [] noOut) noOut
theorem ints_round (pan : KP) (μ : Mu) (N : Nat) (k : KE) (i a b : U) : (exec (intsC.panics pan) (loopBody Try.f38 0) 0 ⟨[(5, vi i), (0, vl (.int .i64) a), (1, vl (.int .i64) b)], []⟩ (again PR (some ([4], [])) none pan [5, 0, 1] [] intsLoop μ N k)) = (bif decide (i.int < (a.list.length : Int)) then bif decide ((0 : Int) ≤ i.int ∧ i.int < (a.list.length : Int)) then bif decide ((0 : Int) ≤ i.int ∧ i.int < (b.list.length : Int)) then bif U.int (nth (U.i (0 : Int)) a.list (Int.toNat i.int)) != U.int (nth (U.i (0 : Int)) b.list (Int.toNat i.int)) then k Ex.ret (St.mk [(nat_lit 4, .val .bool (U.b false))] []) else bif Nat.blt (μ [.val (.int IntKind.i64) (U.i (IntKind.wrap .i64 (i.int + (1 : Int)))), .val (.sl false [.int .i64]) a, .val (.sl false [.int .i64]) b] []) N then (a.list.length = b.list.length ∧ (0 : Int) ≤ IntKind.wrap .i64 (i.int + (1 : Int)) ∧ IntKind.wrap .i64 (i.int + (1 : Int)) ≤ (a.list.length : Int)) ∧ bif intsE (List.drop (Int.toNat (IntKind.wrap .i64 (i.int + (1 : Int)))) a.list) (List.drop (Int.toNat (IntKind.wrap .i64 (i.int + (1 : Int)))) b.list) then k (Ex.exit (nat_lit 0)) (St.mk [(nat_lit 4, .unk)] []) else k Ex.ret (St.mk [(nat_lit 4, .val .bool (U.b false))] []) else False else False else False else k (Ex.exit (nat_lit 0)) (St.mk [(nat_lit 4, .unk)] [])) := by kernel_rfl
theorem ints_tree (R : RF) (a b : U) : (run intsC Try.f38 [[a], [b]] R) = (bif (↑(List.length (U.list a)) : Int) != (↑(List.length (U.list b)) : Int) then R [[U.b false]] else (List.length (U.list a) = List.length (U.list b) ∧ (0 : Int) ≤ (0 : Int) ∧ (0 : Int) ≤ (↑(List.length
  (U.list a)) : Int)) ∧ bif intsE (List.drop (Int.toNat (0 : Int)) (U.list a)) (List.drop (Int.toNat (0 : Int)) (U.list b)) then R [[U.b true]] else R [[U.b false]]) := by kernel_rfl
noncomputable def spsLoop : LoopF := fun _ svs _ k => match svs with
  | [.val (.int .i64) i, .val (.sl true ca) a, .val (.sl true cb) b] =>
    (ca = SpC ∧ cb = SpC ∧ a.list.length = b.list.length ∧ 0 ≤ i.int ∧ i.int ≤ a.list.length) ∧
    (bif spansE (a.list.drop i.int.toNat) (b.list.drop i.int.toNat) then k (.exit 0) ⟨[(4, .unk)], []⟩ else k .ret ⟨[(4, vb (.b false))], []⟩)
  | _ => False
noncomputable def spsC : Ctx := mkC PR eqs1 fnsNil trsNil (loopCons 0 [5, 0, 1] [] spsLoop noLoops) (outCons 0 [4] [] noOut) noOut
theorem sps_round (pan : KP) (μ : Mu) (N : Nat) (k : KE) (i a b : U) : (exec (spsC.panics pan) (loopBody Try.f56 0) 0 ⟨[(5, vi i), (0, vt SpC a), (1, vt SpC b)], []⟩ (again PR (some ([4], [])) none pan [5, 0, 1] [] spsLoop μ N k)) = (bif decide (i.int < (a.list.length : Int)) then bif decide ((0 : Int) ≤ i.int ∧ i.int < (a.list.length : Int)) then bif decide ((0 : Int) ≤ i.int ∧ i.int < (b.list.length : Int)) then bif !(U.int (nth (U.i (0 : Int)) (U.list (nth (U.i (0 : Int)) a.list (Int.toNat i.int))) (0 : Nat)) == U.int (nth (U.i (0 : Int)) (U.list (nth (U.i (0 : Int)) b.list (Int.toNat i.int))) (0 : Nat)) && (U.int (nth (U.i (0 : Int)) (List.tail (U.list (nth (U.i (0 : Int)) a.list (Int.toNat i.int)))) (0 : Nat)) == U.int (nth (U.i (0 : Int)) (List.tail (U.list (nth (U.i (0 : Int)) b.list (Int.toNat i.int)))) (0 : Nat)) && true)) then k Ex.ret (St.mk [(nat_lit 4, .val .bool (U.b false))] []) else bif Nat.blt (μ [.val (.int IntKind.i64) (U.i (IntKind.wrap .i64 (i.int + (1 : Int)))), .val (.sl true [Ct.int IntKind.i64, Ct.int IntKind.i64]) a, SV.val (Ct.sl true [Ct.int IntKind.i64, Ct.int IntKind.i64]) b] []) N then ([Ct.int IntKind.i64, Ct.int IntKind.i64] = [.int .i64, .int .i64] ∧ [Ct.int IntKind.i64, Ct.int IntKind.i64] = [.int .i64, .int .i64] ∧ a.list.length = b.list.length ∧ (0 : Int) ≤ IntKind.wrap .i64 (i.int + (1 : Int)) ∧ IntKind.wrap .i64 (i.int + (1 : Int)) ≤ (a.list.length : Int)) ∧ bif spansE (List.drop (Int.toNat (IntKind.wrap .i64 (i.int + (1 : Int)))) a.list) (List.drop (Int.toNat (IntKind.wrap .i64 (i.int + (1 : Int)))) b.list) then k (Ex.exit (nat_lit 0)) (St.mk [(nat_lit 4, .unk)] []) else k Ex.ret (St.mk [(nat_lit 4, .val .bool (U.b false))] []) else False else False else False else k (Ex.exit (nat_lit 0)) (St.mk [(nat_lit 4, .unk)] [])) := by kernel_rfl
theorem sps_tree (R : RF) (a b : U) : (run spsC Try.f56 [[a], [b]] R) = (bif (↑(List.length (U.list a)) : Int) != (↑(List.length (U.list b)) : Int) then R [[U.b false]] else ([Ct.int IntKind.i64, Ct.int IntKind.i64] = [Ct.int IntKind.i64, Ct.int IntKind.i64] ∧ [Ct.int IntKind.i64,
  Ct.int IntKind.i64] = [Ct.int IntKind.i64, Ct.int IntKind.i64] ∧ List.length (U.list a) = List.length (U.list b) ∧ (0 : Int) ≤ (0 : Int) ∧ (0 : Int) ≤ (↑(List.length (U.list a)) : Int)) ∧ bif spansE (List.drop
  (Int.toNat (0 : Int)) (U.list a)) (List.drop (Int.toNat (0 : Int)) (U.list b)) then R [[U.b true]] else R [[U.b false]]) := by kernel_rfl
noncomputable def mpsLoop : LoopF := fun _ svs _ k => match svs with
  | [.val (.int .i64) i, .val (.sl true ca) a, .val (.sl true cb) b] =>
    (ca = BC ∧ cb = BC ∧ a.list.length = b.list.length ∧ 0 ≤ i.int ∧ i.int ≤ a.list.length) ∧
    (bif mapsE (a.list.drop i.int.toNat) (b.list.drop i.int.toNat) then k (.exit 0) ⟨[(4, .unk)], []⟩ else k .ret ⟨[(4, vb (.b false))], []⟩)
  | _ => False
noncomputable def mpsC : Ctx := mkC PR eqs1 (fnsCons 56 (lists2 spansE) fnsNil) trsNil (loopCons 0 [5, 0, 1] [] mpsLoop noLoops) (outCons 0 [4] [] noOut) noOut
theorem mps_round (pan : KP) (μ : Mu) (N : Nat) (k : KE) (i a b : U) : (exec (mpsC.panics pan) (loopBody Try.f37 0) 0 ⟨[(5, vi i), (0, vt BC a), (1, vt BC b)], []⟩ (again PR (some ([4], [])) none pan [5, 0, 1] [] mpsLoop μ N k)) = (bif decide (i.int < (a.list.length : Int)) then bif decide ((0 : Int) ≤ i.int ∧ i.int < (a.list.length : Int)) then bif decide ((0 : Int) ≤ i.int ∧ i.int < (b.list.length : Int)) then bif !ByteArray.toList (U.str (nth (U.i (0 : Int)) (List.drop (0 : Nat) (U.list (nth (U.i (0 : Int)) a.list (Int.toNat i.int)))) (0 : Nat))) == ByteArray.toList (U.str (nth (U.i (0 : Int)) (List.drop (0 : Nat) (U.list (nth (U.i (0 : Int)) b.list (Int.toNat i.int)))) (0 : Nat))) then k Ex.ret (St.mk [(nat_lit 4, .val .bool (U.b false))] []) else bif decide ((0 : Int) ≤ i.int ∧ i.int < (a.list.length : Int)) then bif decide ((0 : Int) ≤ i.int ∧ i.int < (b.list.length : Int)) then bif !U.bool (nth (U.i (0 : Int)) (List.drop (1 : Nat) (U.list (nth (U.i (0 : Int)) a.list (Int.toNat i.int)))) (0 : Nat)) == U.bool (nth (U.i (0 : Int)) (List.drop (1 : Nat) (U.list (nth (U.i (0 : Int)) b.list (Int.toNat i.int)))) (0 : Nat)) then k Ex.ret (St.mk [(nat_lit 4, .val .bool (U.b false))] []) else bif decide ((0 : Int) ≤ i.int ∧ i.int < (a.list.length : Int)) then bif decide ((0 : Int) ≤ i.int ∧ i.int < (b.list.length : Int)) then bif !spansE (U.list (nth (U.i (0 : Int)) (List.drop (2 : Nat) (U.list (nth (U.i (0 : Int)) a.list (Int.toNat i.int)))) (0 : Nat))) (U.list (nth (U.i (0 : Int)) (List.drop (2 : Nat) (U.list (nth (U.i (0 : Int)) b.list (Int.toNat i.int)))) (0 : Nat))) then k Ex.ret (St.mk [(nat_lit 4, .val .bool (U.b false))] []) else bif Nat.blt (μ [.val (.int IntKind.i64) (U.i (IntKind.wrap .i64 (i.int + (1 : Int)))), .val (.sl true [Ct.str, Ct.bool, Ct.sl true [Ct.int IntKind.i64, Ct.int IntKind.i64]]) a, SV.val (Ct.sl true [Ct.str, Ct.bool, Ct.sl true [Ct.int IntKind.i64, Ct.int IntKind.i64]]) b] []) N then ([Ct.str, Ct.bool, Ct.sl true [Ct.int IntKind.i64, Ct.int IntKind.i64]] = [.str, Ct.bool, Ct.sl true [.int .i64, .int .i64]] ∧ [Ct.str, Ct.bool, Ct.sl true [Ct.int IntKind.i64, Ct.int IntKind.i64]] = [.str, Ct.bool, Ct.sl true [.int .i64, .int .i64]] ∧ a.list.length = b.list.length ∧ (0 : Int) ≤ IntKind.wrap .i64 (i.int + (1 : Int)) ∧ IntKind.wrap .i64 (i.int + (1 : Int)) ≤ (a.list.length : Int)) ∧ bif mapsE (List.drop (Int.toNat (IntKind.wrap .i64 (i.int + (1 : Int)))) a.list) (List.drop (Int.toNat (IntKind.wrap .i64 (i.int + (1 : Int)))) b.list) then k (Ex.exit (nat_lit 0)) (St.mk [(nat_lit 4, .unk)] []) else k Ex.ret (St.mk [(nat_lit 4, .val .bool (U.b false))] []) else False else False else False else False else False else False else False else k (Ex.exit (nat_lit 0)) (St.mk [(nat_lit 4, .unk)] [])) := by kernel_rfl
theorem mps_tree (R : RF) (a b : U) : (run mpsC Try.f37 [[a], [b]] R) = (bif (↑(List.length (U.list a)) : Int) != (↑(List.length (U.list b)) : Int) then R [[U.b false]] else ([Ct.str, Ct.bool, Ct.sl true [Ct.int IntKind.i64, Ct.int IntKind.i64]] = [Ct.str, Ct.bool, Ct.sl true
  [Ct.int IntKind.i64, Ct.int IntKind.i64]] ∧ [Ct.str, Ct.bool, Ct.sl true [Ct.int IntKind.i64, Ct.int IntKind.i64]] = [Ct.str, Ct.bool, Ct.sl true [Ct.int IntKind.i64, Ct.int IntKind.i64]] ∧ List.length
  (U.list a) = List.length (U.list b) ∧ (0 : Int) ≤ (0 : Int) ∧ (0 : Int) ≤ (↑(List.length (U.list a)) : Int)) ∧ bif mapsE (List.drop (Int.toNat (0 : Int)) (U.list a)) (List.drop (Int.toNat (0 : Int)) (U.list
  b)) then R [[U.b true]] else R [[U.b false]]) := by kernel_rfl
noncomputable def tabELoop2 : LoopF := fun _ svs os k => match svs, os with
  | [.val (.int .i64) j, .val (.int .i64) i, .ptr p o, .ptr p' o'], [.box [.val (.sl false [.sl true ca]) a], .box [.val (.sl false [.sl true cb]) b]] =>
    (p = 256 ∧ o = 0 ∧ p' = 384 ∧ o' = 0 ∧ ca = EC ∧ cb = EC ∧ 0 ≤ i.int ∧ i.int < a.list.length ∧ i.int < b.list.length ∧ (U.at a.list i.int.toNat).list.length = (U.at b.list i.int.toNat).list.length ∧ 0 ≤ j.int ∧ j.int ≤ (U.at a.list i.int.toNat).list.length) ∧
    (bif entsE ((U.at a.list i.int.toNat).list.drop j.int.toNat) ((U.at b.list i.int.toNat).list.drop j.int.toNat) then k (.exit 2) ⟨[(5, vi i), (2, .ptr 256 0), (3, .ptr 384 0)], [(256, .box [vl (.sl true EC) a]), (384, .box [vl (.sl true EC) b])]⟩ else k .ret ⟨[(4, vb (.b false))], []⟩)
  | _, _ => False
noncomputable def tabELoop0 : LoopF := fun _ svs os k => match svs, os with
  | [.val (.int .i64) i, .ptr p o, .ptr p' o'], [.box [.val (.sl false [.sl true ca]) a], .box [.val (.sl false [.sl true cb]) b]] =>
    (p = 256 ∧ o = 0 ∧ p' = 384 ∧ o' = 0 ∧ ca = EC ∧ cb = EC ∧ a.list.length = b.list.length ∧ 0 ≤ i.int ∧ i.int ≤ a.list.length) ∧
    (bif tabE (a.list.drop i.int.toNat) (b.list.drop i.int.toNat) then k (.exit 0) ⟨[(4, .unk)], []⟩ else k .ret ⟨[(4, vb (.b false))], []⟩)
  | _, _ => False
noncomputable def tabEC : Ctx := mkC PR eqs1 fnsNil trsNil (loopCons 2 [6, 5, 2, 3] [256, 384] tabELoop2 (loopCons 0 [5, 2, 3] [256, 384] tabELoop0 noLoops)) (outCons 2 [5, 2, 3] [256, 384] (outCons 0 [4] [] (outCons 1048578 [4] [] noOut))) noOut
theorem tabE_round2 (pan : KP) (μ : Mu) (N : Nat) (k : KE) (j i a b : U) : (exec (tabEC.panics pan) (loopBody Try.f36 1) 2 ⟨[(6, vi j), (5, vi i), (2, .ptr 256 0), (3, .ptr 384 0)], [(256, .box [vl (.sl true EC) a]), (384, .box [vl (.sl true EC) b])]⟩ (again PR (some ([5, 2, 3], [256, 384])) (some ([4], [])) pan [6, 5, 2, 3] [256, 384] tabELoop2 μ N k)) = (bif decide ((0 : Int) ≤ i.int ∧ i.int < (a.list.length : Int)) then bif decide (j.int < (↑(List.length (U.list (nth (U.i (0 : Int)) a.list (Int.toNat i.int)))) : Int)) then bif decide ((0 : Int) ≤ i.int ∧ i.int < (a.list.length : Int)) then bif decide ((0 : Int) ≤ j.int ∧ j.int < (↑(List.length (U.list (nth (U.i (0 : Int)) a.list (Int.toNat i.int)))) : Int)) then bif decide ((0 : Int) ≤ i.int ∧ i.int < (b.list.length : Int)) then bif decide ((0 : Int) ≤ j.int ∧ j.int < (↑(List.length (U.list (nth (U.i (0 : Int)) b.list (Int.toNat i.int)))) : Int)) then bif !(U.int (nth (U.i (0 : Int)) (U.list (nth (U.i (0 : Int)) (U.list (nth (U.i (0 : Int)) a.list (Int.toNat i.int))) (Int.toNat j.int))) (0 : Nat)) == U.int (nth (U.i (0 : Int)) (U.list (nth (U.i (0 : Int)) (U.list (nth (U.i (0 : Int)) b.list (Int.toNat i.int))) (Int.toNat j.int))) (0 : Nat)) && (U.int (nth (U.i (0 : Int)) (List.tail (U.list (nth (U.i (0 : Int)) (U.list (nth (U.i (0 : Int)) a.list (Int.toNat i.int))) (Int.toNat j.int)))) (0 : Nat)) == U.int (nth (U.i (0 : Int)) (List.tail (U.list (nth (U.i (0 : Int)) (U.list (nth (U.i (0 : Int)) b.list (Int.toNat i.int))) (Int.toNat j.int)))) (0 : Nat)) && (U.int (nth (U.i (0 : Int)) (List.tail (List.tail (U.list (nth (U.i (0 : Int)) (U.list (nth (U.i (0 : Int)) a.list (Int.toNat i.int))) (Int.toNat j.int))))) (0 : Nat)) == U.int (nth (U.i (0 : Int)) (List.tail (List.tail (U.list (nth (U.i (0 : Int)) (U.list (nth (U.i (0 : Int)) b.list (Int.toNat i.int))) (Int.toNat j.int))))) (0 : Nat)) && (U.int (nth (U.i (0 : Int)) (List.tail (List.tail (List.tail (U.list (nth (U.i (0 : Int)) (U.list (nth (U.i (0 : Int)) a.list (Int.toNat i.int))) (Int.toNat j.int)))))) (0 : Nat)) == U.int (nth (U.i (0 : Int)) (List.tail (List.tail (List.tail (U.list (nth (U.i (0 : Int)) (U.list (nth (U.i (0 : Int)) b.list (Int.toNat i.int))) (Int.toNat j.int)))))) (0 : Nat)) && (U.int (nth (U.i (0 : Int)) (List.tail (List.tail (List.tail (List.tail (U.list (nth (U.i (0 : Int)) (U.list (nth (U.i (0 : Int)) a.list (Int.toNat i.int))) (Int.toNat j.int))))))) (0 : Nat)) == U.int (nth (U.i (0 : Int)) (List.tail (List.tail (List.tail (List.tail (U.list (nth (U.i (0 : Int)) (U.list (nth (U.i (0 : Int)) b.list (Int.toNat i.int))) (Int.toNat j.int))))))) (0 : Nat)) && true))))) then k Ex.ret (St.mk [(nat_lit 4, .val .bool (U.b false))] []) else bif Nat.blt (μ [.val (.int IntKind.i64) (U.i (IntKind.wrap .i64 (j.int + (1 : Int)))), .val (.int IntKind.i64) i, .ptr (nat_lit 256) (nat_lit 0), .ptr (nat_lit 384) (nat_lit 0)] [.box [.val (.sl false [.sl true [.int .i64, .int .i64, .int .i64, .int .i64, .int .u32]]) a], .box [.val (.sl false [.sl true [.int .i64, .int .i64, .int .i64, .int .i64, .int .u32]]) b]]) N then (nat_lit 256 = nat_lit 256 ∧ nat_lit 0 = nat_lit 0 ∧ nat_lit 384 = nat_lit 384 ∧ nat_lit 0 = nat_lit 0 ∧ [Ct.int IntKind.i64, Ct.int IntKind.i64, Ct.int IntKind.i64, Ct.int IntKind.i64, Ct.int IntKind.u32] = [.int .i64, .int .i64, .int .i64, .int .i64, .int .u32] ∧ [Ct.int IntKind.i64, Ct.int IntKind.i64, Ct.int IntKind.i64, Ct.int IntKind.i64, Ct.int IntKind.u32] = [.int .i64, .int .i64, .int .i64, .int .i64, .int .u32] ∧ (0 : Int) ≤ i.int ∧ i.int < (a.list.length : Int) ∧ i.int < (b.list.length : Int) ∧ List.length (U.list (nth (U.i (0 : Int)) a.list (Int.toNat i.int))) = List.length (U.list (nth (U.i (0 : Int)) b.list (Int.toNat i.int))) ∧ (0 : Int) ≤ IntKind.wrap .i64 (j.int + (1 : Int)) ∧ IntKind.wrap .i64 (j.int + (1 : Int)) ≤ (↑(List.length (U.list (nth (U.i (0 : Int)) a.list (Int.toNat i.int)))) : Int)) ∧ bif entsE (List.drop (Int.toNat (IntKind.wrap .i64 (j.int + (1 : Int)))) (U.list (nth (U.i (0 : Int)) a.list (Int.toNat i.int)))) (List.drop (Int.toNat (IntKind.wrap .i64 (j.int + (1 : Int)))) (U.list (nth (U.i (0 : Int)) b.list (Int.toNat i.int)))) then k (Ex.exit (nat_lit 2)) (St.mk [(nat_lit 5, .val (.int IntKind.i64) i), (nat_lit 2, .ptr (nat_lit 256) (nat_lit 0)), (nat_lit 3, .ptr (nat_lit 384) (nat_lit 0))] [(nat_lit 256, .box [.val (.sl false [.sl true [.int .i64, .int .i64, .int .i64, .int .i64, .int .u32]]) a]), (nat_lit 384, .box [.val (.sl false [.sl true [.int .i64, .int .i64, .int .i64, .int .i64, .int .u32]]) b])]) else k Ex.ret (St.mk [(nat_lit 4, .val .bool (U.b false))] []) else False else False else False else False else False else k (Ex.exit (nat_lit 2)) (St.mk [(nat_lit 5, .val (.int IntKind.i64) i), (nat_lit 2, .ptr (nat_lit 256) (nat_lit 0)), (nat_lit 3, .ptr (nat_lit 384) (nat_lit 0))] [(nat_lit 256, .box [.val (.sl false [.sl true [.int .i64, .int .i64, .int .i64, .int .i64, .int .u32]]) a]), (nat_lit 384, .box [.val (.sl false [.sl true [.int .i64, .int .i64, .int .i64, .int .i64, .int .u32]]) b])]) else False) := by kernel_rfl
theorem tabE_round0 (pan : KP) (μ : Mu) (N : Nat) (k : KE) (i a b : U) : (exec (tabEC.panics pan) (loopBody Try.f36 0) 0 ⟨[(5, vi i), (2, .ptr 256 0), (3, .ptr 384 0)], [(256, .box [vl (.sl true EC) a]), (384, .box [vl (.sl true EC) b])]⟩ (again PR (some ([4], [])) none pan [5, 2, 3] [256, 384] tabELoop0 μ N k)) = (bif decide (i.int < (a.list.length : Int)) then bif decide ((0 : Int) ≤ i.int ∧ i.int < (a.list.length : Int)) then bif decide ((0 : Int) ≤ i.int ∧ i.int < (b.list.length : Int)) then bif (↑(List.length (U.list (nth (U.i (0 : Int)) a.list (Int.toNat i.int)))) : Int) != (↑(List.length (U.list (nth (U.i (0 : Int)) b.list (Int.toNat i.int)))) : Int) then k Ex.ret (St.mk [(nat_lit 4, .val .bool (U.b false))] []) else (nat_lit 256 = nat_lit 256 ∧ nat_lit 0 = nat_lit 0 ∧ nat_lit 384 = nat_lit 384 ∧ nat_lit 0 = nat_lit 0 ∧ [Ct.int IntKind.i64, Ct.int IntKind.i64, Ct.int IntKind.i64, Ct.int IntKind.i64, Ct.int IntKind.u32] = [.int .i64, .int .i64, .int .i64, .int .i64, .int .u32] ∧ [Ct.int IntKind.i64, Ct.int IntKind.i64, Ct.int IntKind.i64, Ct.int IntKind.i64, Ct.int IntKind.u32] = [.int .i64, .int .i64, .int .i64, .int .i64, .int .u32] ∧ (0 : Int) ≤ i.int ∧ i.int < (a.list.length : Int) ∧ i.int < (b.list.length : Int) ∧ List.length (U.list (nth (U.i (0 : Int)) a.list (Int.toNat i.int))) = List.length (U.list (nth (U.i (0 : Int)) b.list (Int.toNat i.int))) ∧ (0 : Int) ≤ (0 : Int) ∧ (0 : Int) ≤ (↑(List.length (U.list (nth (U.i (0 : Int)) a.list (Int.toNat i.int)))) : Int)) ∧ bif entsE (List.drop (Int.toNat (0 : Int)) (U.list (nth (U.i (0 : Int)) a.list (Int.toNat i.int)))) (List.drop (Int.toNat (0 : Int)) (U.list (nth (U.i (0 : Int)) b.list (Int.toNat i.int)))) then bif Nat.blt (μ [.val (.int IntKind.i64) (U.i (IntKind.wrap .i64 (i.int + (1 : Int)))), .ptr (nat_lit 256) (nat_lit 0), .ptr (nat_lit 384) (nat_lit 0)] [.box [.val (.sl false [.sl true [.int .i64, .int .i64, .int .i64, .int .i64, .int .u32]]) a], .box [.val (.sl false [.sl true [.int .i64, .int .i64, .int .i64, .int .i64, .int .u32]]) b]]) N then (nat_lit 256 = nat_lit 256 ∧ nat_lit 0 = nat_lit 0 ∧ nat_lit 384 = nat_lit 384 ∧ nat_lit 0 = nat_lit 0 ∧ [Ct.int IntKind.i64, Ct.int IntKind.i64, Ct.int IntKind.i64, Ct.int IntKind.i64, Ct.int IntKind.u32] = [.int .i64, .int .i64, .int .i64, .int .i64, .int .u32] ∧ [Ct.int IntKind.i64, Ct.int IntKind.i64, Ct.int IntKind.i64, Ct.int IntKind.i64, Ct.int IntKind.u32] = [.int .i64, .int .i64, .int .i64, .int .i64, .int .u32] ∧ a.list.length = b.list.length ∧ (0 : Int) ≤ IntKind.wrap .i64 (i.int + (1 : Int)) ∧ IntKind.wrap .i64 (i.int + (1 : Int)) ≤ (a.list.length : Int)) ∧ bif tabE (List.drop (Int.toNat (IntKind.wrap .i64 (i.int + (1 : Int)))) a.list) (List.drop (Int.toNat (IntKind.wrap .i64 (i.int + (1 : Int)))) b.list) then k (Ex.exit (nat_lit 0)) (St.mk [(nat_lit 4, .unk)] []) else k Ex.ret (St.mk [(nat_lit 4, .val .bool (U.b false))] []) else False else k Ex.ret (St.mk [(nat_lit 4, .val .bool (U.b false))] []) else False else False else k (Ex.exit (nat_lit 0)) (St.mk [(nat_lit 4, .unk)] [])) := by kernel_rfl
theorem tabE_tree (R : RF) (a b : U) : (run tabEC Try.f36 [[a], [b]] R) = (bif (↑(List.length (U.list a)) : Int) != (↑(List.length (U.list b)) : Int) then R [[U.b false]] else (nat_lit 256 = nat_lit 256 ∧ nat_lit 0 = nat_lit 0 ∧ nat_lit 384 = nat_lit 384 ∧ nat_lit 0 = nat_lit
  0 ∧ [Ct.int IntKind.i64, Ct.int IntKind.i64, Ct.int IntKind.i64, Ct.int IntKind.i64, Ct.int IntKind.u32] = [Ct.int IntKind.i64, Ct.int IntKind.i64, Ct.int IntKind.i64, Ct.int IntKind.i64, Ct.int IntKind.u32]
  ∧ [Ct.int IntKind.i64, Ct.int IntKind.i64, Ct.int IntKind.i64, Ct.int IntKind.i64, Ct.int IntKind.u32] = [Ct.int IntKind.i64, Ct.int IntKind.i64, Ct.int IntKind.i64, Ct.int IntKind.i64, Ct.int IntKind.u32]
  ∧ List.length (U.list a) = List.length (U.list b) ∧ (0 : Int) ≤ (0 : Int) ∧ (0 : Int) ≤ (↑(List.length (U.list a)) : Int)) ∧ bif tabE (List.drop (Int.toNat (0 : Int)) (U.list a)) (List.drop (Int.toNat
  (0 : Int)) (U.list b)) then R [[U.b true]] else R [[U.b false]]) := by kernel_rfl
end Go.Mat

namespace Go.Mat
open Go Go.Den Go.Proofs
theorem eqs1_ok : ∀ t ks, eqs1 t = some ks → EqOk PR t ks := by
  intro t ks h
  unfold eqs1 at h
  cases hb : Nat.beq t 72 with
  | true =>
    rw [hb] at h
    have := Nat.eq_of_beq_eq_true hb
    subst this
    injection h with h
    subst h
    exact eq_ok (by kernel_rfl)
  | false => rw [hb] at h; exact eqs0_ok t ks h
theorem intsE_len : ∀ {a b : List U}, intsE a b = true → a.length = b.length
  | [], [], _ => rfl
  | [], _ :: _, h => by cases h
  | _ :: _, [], h => by cases h
  | x :: r, y :: s, h => by
    rw [intsE, Bool.and_eq_true] at h
    rw [List.length_cons, List.length_cons, intsE_len h.2]
theorem intsE_ne {a b : List U} (h : a.length ≠ b.length) : intsE a b = false := Bool.eq_false_iff.2 fun h' => h (intsE_len h')
theorem spansE_len : ∀ {a b : List U}, spansE a b = true → a.length = b.length
  | [], [], _ => rfl
  | [], _ :: _, h => by cases h
  | _ :: _, [], h => by cases h
  | x :: r, y :: s, h => by
    rw [spansE, Bool.and_eq_true] at h
    rw [List.length_cons, List.length_cons, spansE_len h.2]
theorem spansE_ne {a b : List U} (h : a.length ≠ b.length) : spansE a b = false := Bool.eq_false_iff.2 fun h' => h (spansE_len h')
theorem mapsE_len : ∀ {a b : List U}, mapsE a b = true → a.length = b.length
  | [], [], _ => rfl
  | [], _ :: _, h => by cases h
  | _ :: _, [], h => by cases h
  | x :: r, y :: s, h => by
    rw [mapsE, Bool.and_eq_true] at h
    rw [List.length_cons, List.length_cons, mapsE_len h.2]
theorem mapsE_ne {a b : List U} (h : a.length ≠ b.length) : mapsE a b = false := Bool.eq_false_iff.2 fun h' => h (mapsE_len h')
theorem tabE_len : ∀ {a b : List U}, tabE a b = true → a.length = b.length
  | [], [], _ => rfl
  | [], _ :: _, h => by cases h
  | _ :: _, [], h => by cases h
  | x :: r, y :: s, h => by
    rw [tabE, Bool.and_eq_true] at h
    rw [List.length_cons, List.length_cons, tabE_len h.2]
theorem tabE_ne {a b : List U} (h : a.length ≠ b.length) : tabE a b = false := Bool.eq_false_iff.2 fun h' => h (tabE_len h')
theorem entsE_len : ∀ {a b : List U}, entsE a b = true → a.length = b.length
  | [], [], _ => rfl
  | [], _ :: _, h => by cases h
  | _ :: _, [], h => by cases h
  | x :: r, y :: s, h => by
    rw [entsE, Bool.and_eq_true] at h
    rw [List.length_cons, List.length_cons, entsE_len h.2]
theorem entsE_ne {a b : List U} (h : a.length ≠ b.length) : entsE a b = false := Bool.eq_false_iff.2 fun h' => h (entsE_len h')
theorem ints_loop : LoopOk intsC 0 (loopBody Try.f38 0) := by
  refine loopOk_of (F := intsLoop) (ts := [5, 0, 1]) (os := []) rfl (fun svs _ => match svs with | .val _ i :: .val _ a :: _ => ((a.list.length : Int) - i.int).toNat | _ => 0) ?_
  intro pan svs os k ho1 ho2 h
  unfold intsLoop at h
  split at h
  · rename_i i a b
    obtain ⟨⟨hl, h0, hi⟩, hk⟩ := h
    have hL : a.list.length ≤ maxLen := ho1.2.1.1
    unfold maxLen at hL
    refine .eq (ints_round pan _ _ k i a b) ?_
    refine bd (fun hlt => dt ⟨h0, by omega⟩ (dt ⟨h0, by omega⟩ ?_)) (fun hlt => ?_)
    · rw [drop_at (by omega), drop_at (L := b.list) (by omega), intsE] at hk
      simp only [U.at] at hk
      have hw : IntKind.wrap .i64 (i.int + 1) = i.int + 1 := i64_in (by omega) (by omega)
      have hc : (i.int + 1).toNat = i.int.toNat + 1 := by omega
      have hlt' : ((a.list.length : Int) - (i.int + 1)).toNat < ((a.list.length : Int) - i.int).toNat := by omega
      simp only [nth_tail, nth_drop, Nat.zero_add, Nat.add_zero, Nat.reduceAdd, hw, hc]
      refine bi (fun h1 => ?_) (fun h1 => ?_)
      · rw [nt h1, Bool.false_and] at hk; exact hk
      · rw [nf h1, Bool.true_and] at hk
        exact blt hlt' ⟨⟨hl, by omega, by omega⟩, hk⟩
    · rw [List.drop_of_length_le (by omega), List.drop_of_length_le (by omega), intsE] at hk
      exact hk
  · exact h.elim
theorem sps_loop : LoopOk spsC 0 (loopBody Try.f56 0) := by
  refine loopOk_of (F := spsLoop) (ts := [5, 0, 1]) (os := []) rfl (fun svs _ => match svs with | .val _ i :: .val _ a :: _ => ((a.list.length : Int) - i.int).toNat | _ => 0) ?_
  intro pan svs os k ho1 ho2 h
  unfold spsLoop at h
  split at h
  · rename_i i ca a cb b
    obtain ⟨⟨rfl, rfl, hl, h0, hi⟩, hk⟩ := h
    have hL : a.list.length ≤ maxLen := ho1.2.1.1
    unfold maxLen at hL
    refine .eq (sps_round pan _ _ k i a b) ?_
    refine bd (fun hlt => dt ⟨h0, by omega⟩ (dt ⟨h0, by omega⟩ ?_)) (fun hlt => ?_)
    · rw [drop_at (by omega), drop_at (L := b.list) (by omega), spansE] at hk
      simp only [U.at, spanE, e0, e1] at hk
      have hw : IntKind.wrap .i64 (i.int + 1) = i.int + 1 := i64_in (by omega) (by omega)
      have hc : (i.int + 1).toNat = i.int.toNat + 1 := by omega
      have hlt' : ((a.list.length : Int) - (i.int + 1)).toNat < ((a.list.length : Int) - i.int).toNat := by omega
      simp only [nth_tail, nth_drop, Nat.zero_add, Nat.add_zero, Nat.reduceAdd, hw, hc]
      refine bi (fun h1 => ?_) (fun h1 => ?_)
      · rw [nt h1, Bool.false_and] at hk; exact hk
      · rw [nf h1, Bool.true_and] at hk
        exact blt hlt' ⟨⟨by trivial, by trivial, hl, by omega, by omega⟩, hk⟩
    · rw [List.drop_of_length_le (by omega), List.drop_of_length_le (by omega), spansE] at hk
      exact hk
  · exact h.elim
theorem mps_loop : LoopOk mpsC 0 (loopBody Try.f37 0) := by
  refine loopOk_of (F := mpsLoop) (ts := [5, 0, 1]) (os := []) rfl (fun svs _ => match svs with | .val _ i :: .val _ a :: _ => ((a.list.length : Int) - i.int).toNat | _ => 0) ?_
  intro pan svs os k ho1 ho2 h
  unfold mpsLoop at h
  split at h
  · rename_i i ca a cb b
    obtain ⟨⟨rfl, rfl, hl, h0, hi⟩, hk⟩ := h
    have hL : a.list.length ≤ maxLen := ho1.2.1.1
    unfold maxLen at hL
    refine .eq (mps_round pan _ _ k i a b) ?_
    refine bd (fun hlt => dt ⟨h0, by omega⟩ (dt ⟨h0, by omega⟩ ?_)) (fun hlt => ?_)
    · rw [drop_at (by omega), drop_at (L := b.list) (by omega), mapsE] at hk
      simp only [U.at, mapE, e0, e1, e2] at hk
      have hw : IntKind.wrap .i64 (i.int + 1) = i.int + 1 := i64_in (by omega) (by omega)
      have hc : (i.int + 1).toNat = i.int.toNat + 1 := by omega
      have hlt' : ((a.list.length : Int) - (i.int + 1)).toNat < ((a.list.length : Int) - i.int).toNat := by omega
      simp only [nth_tail, nth_drop, Nat.zero_add, Nat.add_zero, Nat.reduceAdd, hw, hc]
      refine bi (fun h1 => ?_) (fun h1 => dt ⟨h0, by omega⟩ (dt ⟨h0, by omega⟩ (bi (fun h2 => ?_) (fun h2 => dt ⟨h0, by omega⟩ (dt ⟨h0, by omega⟩ (bi (fun h3 => ?_) (fun h3 => ?_)))))))
      · rw [nt h1, Bool.false_and, Bool.false_and, Bool.false_and] at hk; exact hk
      · rw [nf h1, nt h2, Bool.true_and, Bool.false_and, Bool.false_and] at hk; exact hk
      · rw [nf h1, nf h2, nt h3, Bool.true_and, Bool.true_and, Bool.false_and] at hk; exact hk
      · rw [nf h1, nf h2, nf h3, Bool.true_and, Bool.true_and, Bool.true_and] at hk
        exact blt hlt' ⟨⟨by trivial, by trivial, hl, by omega, by omega⟩, hk⟩
    · rw [List.drop_of_length_le (by omega), List.drop_of_length_le (by omega), mapsE] at hk
      exact hk
  · exact h.elim
theorem ints_ok : SpecF PR 38 (lists2 intsE) := fun fn us hfn => by
  have hf : PR.funcs[(38 : Nat)]? = some Try.f38 := by kernel_rfl
  rw [hf] at hfn; cases hfn
  refine fn_okH (C := intsC) (mkC_ok eqs1_ok mixed_ok .nil .nil) hf (by kernel_rfl) (loops_one (by kernel_rfl) ints_loop) fun hok => ?_
  have hp : Try.f38.params.toList = [27, 27] := by kernel_rfl
  rw [hp] at hok
  obtain ⟨a, b, hus⟩ : ∃ a b, us = [[a], [b]] := by
    obtain ⟨u, u2, rfl, h1, h2⟩ := shape2 (by kernel_rfl : Cs PR 27 = some (false, [.sl false [.int .i64]])) (by kernel_rfl : Cs PR 27 = some (false, [.sl false [.int .i64]])) hok.1
    obtain ⟨a, rfl⟩ := len1 h1
    obtain ⟨b, rfl⟩ := len1 h2
    exact ⟨a, b, rfl⟩
  subst hus
  refine .eq (ints_tree _ a b) ?_
  unfold lists2
  simp only [nth_zero, nth_succ, Int.toNat_zero, List.drop_zero]
  refine bi (fun h => ?_) (fun h => ⟨⟨?_, by omega, by omega⟩, bi (fun h1 => by rw [h1]) (fun h1 => by rw [h1])⟩)
  · have h := nt h
    rw [intsE_ne (by intro h2; rw [h2] at h; simp at h)]
  · have h := nf h
    simp only [beq_iff_eq] at h
    omega
theorem sps_ok : SpecF PR 56 (lists2 spansE) := fun fn us hfn => by
  have hf : PR.funcs[(56 : Nat)]? = some Try.f56 := by kernel_rfl
  rw [hf] at hfn; cases hfn
  refine fn_okH (C := spsC) (mkC_ok eqs1_ok mixed_ok .nil .nil) hf (by kernel_rfl) (loops_one (by kernel_rfl) sps_loop) fun hok => ?_
  have hp : Try.f56.params.toList = [42, 42] := by kernel_rfl
  rw [hp] at hok
  obtain ⟨a, b, hus⟩ : ∃ a b, us = [[a], [b]] := by
    obtain ⟨u, u2, rfl, h1, h2⟩ := shape2 (by kernel_rfl : Cs PR 42 = some (false, [.sl true [.int .i64, .int .i64]])) (by kernel_rfl : Cs PR 42 = some (false, [.sl true [.int .i64, .int .i64]])) hok.1
    obtain ⟨a, rfl⟩ := len1 h1
    obtain ⟨b, rfl⟩ := len1 h2
    exact ⟨a, b, rfl⟩
  subst hus
  refine .eq (sps_tree _ a b) ?_
  unfold lists2
  simp only [nth_zero, nth_succ, Int.toNat_zero, List.drop_zero]
  refine bi (fun h => ?_) (fun h => ⟨⟨by trivial, by trivial, ?_, by omega, by omega⟩, bi (fun h1 => by rw [h1]) (fun h1 => by rw [h1])⟩)
  · have h := nt h
    rw [spansE_ne (by intro h2; rw [h2] at h; simp at h)]
  · have h := nf h
    simp only [beq_iff_eq] at h
    omega
theorem mps_ok : SpecF PR 37 (lists2 mapsE) := fun fn us hfn => by
  have hf : PR.funcs[(37 : Nat)]? = some Try.f37 := by kernel_rfl
  rw [hf] at hfn; cases hfn
  refine fn_okH (C := mpsC) (mkC_ok eqs1_ok mixed_ok (.cons sps_ok .nil) .nil) hf (by kernel_rfl) (loops_one (by kernel_rfl) mps_loop) fun hok => ?_
  have hp : Try.f37.params.toList = [26, 26] := by kernel_rfl
  rw [hp] at hok
  obtain ⟨a, b, hus⟩ : ∃ a b, us = [[a], [b]] := by
    obtain ⟨u, u2, rfl, h1, h2⟩ := shape2 (by kernel_rfl : Cs PR 26 = some (false, [.sl true BC])) (by kernel_rfl : Cs PR 26 = some (false, [.sl true BC])) hok.1
    obtain ⟨a, rfl⟩ := len1 h1
    obtain ⟨b, rfl⟩ := len1 h2
    exact ⟨a, b, rfl⟩
  subst hus
  refine .eq (mps_tree _ a b) ?_
  unfold lists2
  simp only [nth_zero, nth_succ, Int.toNat_zero, List.drop_zero]
  refine bi (fun h => ?_) (fun h => ⟨⟨by trivial, by trivial, ?_, by omega, by omega⟩, bi (fun h1 => by rw [h1]) (fun h1 => by rw [h1])⟩)
  · have h := nt h
    rw [mapsE_ne (by intro h2; rw [h2] at h; simp at h)]
  · have h := nf h
    simp only [beq_iff_eq] at h
    omega
theorem tabE_loop2 : LoopOk tabEC 2 (loopBody Try.f36 1) := by
  refine loopOk_of (F := tabELoop2) (ts := [6, 5, 2, 3]) (os := [256, 384]) rfl (fun svs os => match svs, os with | .val _ j :: .val _ i :: _, .box [.val _ a] :: _ => (((U.at a.list i.int.toNat).list.length : Int) - j.int).toNat | _, _ => 0) ?_
  intro pan svs os k ho1 ho2 h
  unfold tabELoop2 at h
  split at h
  · rename_i j i p o p' o' ca a cb b
    obtain ⟨⟨rfl, rfl, rfl, rfl, rfl, rfl, hi0, hia, hib, hl, h0, hj⟩, hk⟩ := h
    have ha : okC (.sl false [.sl true EC]) a := ho2.1.1
    have hL : (U.at a.list i.int.toNat).list.length ≤ maxLen := by
      have h1 := (ha.2 i.int.toNat (by omega)).1
      exact h1.1
    unfold maxLen at hL
    refine .eq (tabE_round2 pan _ _ k j i a b) ?_
    simp only [U.at] at hl hj hL hk
    refine dt ⟨hi0, hia⟩ (bd (fun hlt => dt ⟨hi0, hia⟩ (dt ⟨h0, hlt⟩ (dt ⟨hi0, hib⟩ (dt ⟨h0, by omega⟩ ?_)))) (fun hlt => ?_))
    · rw [drop_at (by omega), drop_at (L := (nth (U.i 0) b.list i.int.toNat).list) (by omega), entsE] at hk
      simp only [U.at, entE, e0, e1, e2, e3, e4] at hk
      have hw : IntKind.wrap .i64 (j.int + 1) = j.int + 1 := i64_in (by omega) (by omega)
      have hc : (j.int + 1).toNat = j.int.toNat + 1 := by omega
      have hlt' : (((nth (U.i 0) a.list i.int.toNat).list.length : Int) - (j.int + 1)).toNat < (((nth (U.i 0) a.list i.int.toNat).list.length : Int) - j.int).toNat := by omega
      simp only [nth_tail, nth_drop, Nat.zero_add, Nat.add_zero, Nat.reduceAdd, hw, hc]
      refine bi (fun h1 => ?_) (fun h1 => ?_)
      · rw [nt h1, Bool.false_and] at hk; exact hk
      · rw [nf h1, Bool.true_and] at hk
        exact blt hlt' ⟨⟨by trivial, by trivial, by trivial, by trivial, by trivial, by trivial, hi0, hia, hib, hl, by omega, by omega⟩, hk⟩
    · rw [List.drop_of_length_le (by omega), List.drop_of_length_le (by omega), entsE] at hk
      exact hk
  · exact h.elim
theorem tabE_loop0 : LoopOk tabEC 0 (loopBody Try.f36 0) := by
  refine loopOk_of (F := tabELoop0) (ts := [5, 2, 3]) (os := [256, 384]) rfl (fun svs os => match svs, os with | .val _ i :: _, .box [.val _ a] :: _ => ((a.list.length : Int) - i.int).toNat | _, _ => 0) ?_
  intro pan svs os k ho1 ho2 h
  unfold tabELoop0 at h
  split at h
  · rename_i i p o p' o' ca a cb b
    obtain ⟨⟨rfl, rfl, rfl, rfl, rfl, rfl, hl, h0, hi⟩, hk⟩ := h
    have hL : a.list.length ≤ maxLen := ho2.1.1.1
    unfold maxLen at hL
    refine .eq (tabE_round0 pan _ _ k i a b) ?_
    refine bd (fun hlt => dt ⟨h0, by omega⟩ (dt ⟨h0, by omega⟩ ?_)) (fun hlt => ?_)
    · rw [drop_at (by omega), drop_at (L := b.list) (by omega), tabE] at hk
      simp only [U.at] at hk
      have hw : IntKind.wrap .i64 (i.int + 1) = i.int + 1 := i64_in (by omega) (by omega)
      have hc : (i.int + 1).toNat = i.int.toNat + 1 := by omega
      have hlt' : ((a.list.length : Int) - (i.int + 1)).toNat < ((a.list.length : Int) - i.int).toNat := by omega
      simp only [hw, hc, Int.toNat_zero, List.drop_zero]
      refine bi (fun h1 => ?_) (fun h1 => ?_)
      · have h1 := nt h1
        rw [entsE_ne (by intro h2; rw [h2] at h1; simp at h1), Bool.false_and] at hk
        exact hk
      · have h1 := nf h1
        simp only [beq_iff_eq] at h1
        refine ⟨⟨by trivial, by trivial, by trivial, by trivial, by trivial, by trivial, h0, by omega, by omega, by omega, by omega, by omega⟩, bi (fun h2 => ?_) (fun h2 => ?_)⟩
        · rw [h2, Bool.true_and] at hk
          exact blt hlt' ⟨⟨by trivial, by trivial, by trivial, by trivial, by trivial, by trivial, hl, by omega, by omega⟩, hk⟩
        · rw [h2, Bool.false_and] at hk
          exact hk
    · rw [List.drop_of_length_le (by omega), List.drop_of_length_le (by omega), tabE] at hk
      exact hk
  · exact h.elim
theorem tabE_ok : SpecF PR 36 (lists2 tabE) := fun fn us hfn => by
  have hf : PR.funcs[(36 : Nat)]? = some Try.f36 := by kernel_rfl
  rw [hf] at hfn; cases hfn
  refine fn_okH (C := tabEC) (mkC_ok eqs1_ok mixed_ok .nil .nil) hf (by kernel_rfl) (loops_two (by kernel_rfl) tabE_loop0 tabE_loop2) fun hok => ?_
  have hp : Try.f36.params.toList = [24, 24] := by kernel_rfl
  rw [hp] at hok
  obtain ⟨a, b, hus⟩ : ∃ a b, us = [[a], [b]] := by
    obtain ⟨u, u2, rfl, h1, h2⟩ := shape2 (by kernel_rfl : Cs PR 24 = some (true, [.sl false [.sl true [.int .i64, .int .i64, .int .i64, .int .i64, .int .u32]]])) (by kernel_rfl : Cs PR 24 = some (true, [.sl false [.sl true [.int .i64, .int .i64, .int .i64, .int .i64, .int .u32]]])) hok.1
    obtain ⟨a, rfl⟩ := len1 h1
    obtain ⟨b, rfl⟩ := len1 h2
    exact ⟨a, b, rfl⟩
  subst hus
  refine .eq (tabE_tree _ a b) ?_
  unfold lists2
  simp only [nth_zero, nth_succ, Int.toNat_zero, List.drop_zero]
  refine bi (fun h => ?_) (fun h => ⟨⟨by trivial, by trivial, by trivial, by trivial, by trivial, by trivial, ?_, by omega, by omega⟩, bi (fun h1 => by rw [h1]) (fun h1 => by rw [h1])⟩)
  · have h := nt h
    rw [tabE_ne (by intro h2; rw [h2] at h; simp at h)]
  · have h := nf h
    simp only [beq_iff_eq] at h
    omega
end Go.Mat

namespace Go.Mat
open Go Go.Den Go.Proofs
def shotE (x y : U) : Bool := ((e0 x).str.toList == (e0 y).str.toList) && ((e1 x).int == (e1 y).int) && tabE (e2 x).list (e2 y).list
def shotsE : List U → List U → Bool
  | [], [] => true
  | x :: r, y :: s => shotE x y && shotsE r s
  | _, _ => false
def metaEq (c sz bk T S M Q c' sz' bk' T' S' M' Q' : U) : Bool := (c.int == c'.int) && (sz.int == sz'.int) && (bk.str.toList == bk'.str.toList) && tabE T.list T'.list && mapsE M.list M'.list && intsE Q.list Q'.list && shotsE S.list S'.list
def sameS : List (List U) → List (List U) := fun us => [[.b (metaEq (nth (.i 0) (nth [] us 0) 0) (nth (.i 0) (nth [] us 0) 1) (nth (.i 0) (nth [] us 0) 2) (nth (.i 0) (nth [] us 0) 3) (nth (.i 0) (nth [] us 0) 4) (nth (.i 0) (nth [] us 0) 5) (nth (.i 0) (nth [] us 0) 6)
  (nth (.i 0) (nth [] us 1) 0) (nth (.i 0) (nth [] us 1) 1) (nth (.i 0) (nth [] us 1) 2) (nth (.i 0) (nth [] us 1) 3) (nth (.i 0) (nth [] us 1) 4) (nth (.i 0) (nth [] us 1) 5) (nth (.i 0) (nth [] us 1) 6))]]
noncomputable def sameLoop : LoopF := fun _ svs os k => match svs with
  | [.val (.int .i64) i, .ptr p o, .ptr p' o'] => match os with
    | [.box [.val (.int .i64) _, .val (.int .i64) _, .val .str _, .val (.sl false [.sl true x1]) _, .val (.sl true x2) S, .val (.sl true x3) _, .val (.sl false [.int .i64]) _], .box [.val (.int .i64) _, .val (.int .i64) _, .val .str _, .val (.sl false [.sl true y1]) _, .val (.sl true y2) S', .val (.sl true y3) _, .val (.sl false [.int .i64]) _]] =>
      ((p = 256 ∧ o = 0 ∧ p' = 384 ∧ o' = 0) ∧ (x1 = EC ∧ x2 = SC ∧ x3 = BC) ∧ (y1 = EC ∧ y2 = SC ∧ y3 = BC) ∧ S.list.length = S'.list.length ∧ 0 ≤ i.int ∧ i.int ≤ S.list.length) ∧
      (bif shotsE (S.list.drop i.int.toNat) (S'.list.drop i.int.toNat) then k (.exit 0) ⟨[(4, .unk)], []⟩ else k .ret ⟨[(4, vb (.b false))], []⟩)
    | _ => False
  | _ => False
noncomputable def sameC : Ctx := mkC PR eqs1 (fnsCons 36 (lists2 tabE) (fnsCons 37 (lists2 mapsE) (fnsCons 38 (lists2 intsE) fnsNil))) trsNil (loopCons 0 [5, 2, 3] [256, 384] sameLoop noLoops) (outCons 0 [4] [] noOut) noOut
theorem same_round (pan : KP) (μ : Mu) (N : Nat) (k : KE) (i c sz bk T S M Q c' sz' bk' T' S' M' Q' : U) : (exec (sameC.panics pan) (loopBody Try.f17 0) 0 ⟨[(5, vi i), (2, .ptr 256 0), (3, .ptr 384 0)], [(256, .box (mCells c sz bk T S M Q)), (384, .box (mCells c' sz' bk' T' S' M' Q'))]⟩ (again PR (some ([4], [])) none pan [5, 2, 3] [256, 384] sameLoop μ N k)) = (bif decide (i.int < (S.list.length : Int)) then Alt (bif decide ((0 : Int) ≤ i.int ∧ i.int < (S.list.length : Int)) then Alt (bif decide ((0 : Int) ≤ i.int ∧ i.int < (S'.list.length : Int)) then (fun T => Alt T T) (bif !ByteArray.toList (U.str (nth (U.i (0 : Int)) (U.list (nth (U.i (0 : Int)) S.list (Int.toNat i.int))) (0 : Nat))) == ByteArray.toList (U.str (nth (U.i (0 : Int)) (U.list (nth (U.i (0 : Int)) S'.list (Int.toNat i.int))) (0 : Nat))) then k Ex.ret (St.mk [(nat_lit 4, .val .bool (U.b false))] []) else bif U.int (nth (U.i (0 : Int)) (List.tail (U.list (nth (U.i (0 : Int)) S.list (Int.toNat i.int)))) (0 : Nat)) != U.int (nth (U.i (0 : Int)) (List.tail (U.list (nth (U.i (0 : Int)) S'.list (Int.toNat i.int)))) (0 : Nat)) then k Ex.ret (St.mk [(nat_lit 4, .val .bool (U.b false))] []) else bif !tabE (U.list (nth (U.i (0 : Int)) (List.tail (List.tail (U.list (nth (U.i (0 : Int)) S.list (Int.toNat i.int))))) (0 : Nat))) (U.list (nth (U.i (0 : Int)) (List.tail (List.tail (U.list (nth (U.i (0 : Int)) S'.list (Int.toNat i.int))))) (0 : Nat))) then k Ex.ret (St.mk [(nat_lit 4, .val .bool (U.b false))] []) else bif Nat.blt (μ [.val (.int IntKind.i64) (U.i (IntKind.wrap .i64 (i.int + (1 : Int)))), .ptr (nat_lit 256) (nat_lit 0), .ptr (nat_lit 384) (nat_lit 0)] [.box [.val (.int IntKind.i64) c, .val (.int IntKind.i64) sz, .val .str bk, .val (.sl false [.sl true [.int .i64, .int .i64, .int .i64, .int .i64, .int .u32]]) T, .val (.sl true [.str, .int .i64, Ct.sl false [.sl true [.int .i64, .int .i64, .int .i64, .int .i64, .int .u32]]]) S, .val (.sl true [.str, Ct.bool, Ct.sl true [.int .i64, .int .i64]]) M, .val (.sl false [.int .i64]) Q], .box [.val (.int IntKind.i64) c', .val (.int IntKind.i64) sz', .val .str bk', .val (.sl false [.sl true [.int .i64, .int .i64, .int .i64, .int .i64, .int .u32]]) T', .val (.sl true [.str, .int .i64, Ct.sl false [.sl true [.int .i64, .int .i64, .int .i64, .int .i64, .int .u32]]]) S', .val (.sl true [.str, Ct.bool, Ct.sl true [.int .i64, .int .i64]]) M', .val (.sl false [.int .i64]) Q']]) N then ((nat_lit 256 = nat_lit 256 ∧ nat_lit 0 = nat_lit 0 ∧ nat_lit 384 = nat_lit 384 ∧ nat_lit 0 = nat_lit 0) ∧ ([Ct.int IntKind.i64, Ct.int IntKind.i64, Ct.int IntKind.i64, Ct.int IntKind.i64, Ct.int IntKind.u32] = [.int .i64, .int .i64, .int .i64, .int .i64, .int .u32] ∧ [Ct.str, Ct.int IntKind.i64, Ct.sl false [Ct.sl true [Ct.int IntKind.i64, Ct.int IntKind.i64, Ct.int IntKind.i64, Ct.int IntKind.i64, Ct.int IntKind.u32]]] = [.str, .int .i64, Ct.sl false [.sl true [.int .i64, .int .i64, .int .i64, .int .i64, .int .u32]]] ∧ [Ct.str, Ct.bool, Ct.sl true [Ct.int IntKind.i64, Ct.int IntKind.i64]] = [.str, Ct.bool, Ct.sl true [.int .i64, .int .i64]]) ∧ ([Ct.int IntKind.i64, Ct.int IntKind.i64, Ct.int IntKind.i64, Ct.int IntKind.i64, Ct.int IntKind.u32] = [.int .i64, .int .i64, .int .i64, .int .i64, .int .u32] ∧ [Ct.str, Ct.int IntKind.i64, Ct.sl false [Ct.sl true [Ct.int IntKind.i64, Ct.int IntKind.i64, Ct.int IntKind.i64, Ct.int IntKind.i64, Ct.int IntKind.u32]]] = [.str, .int .i64, Ct.sl false [.sl true [.int .i64, .int .i64, .int .i64, .int .i64, .int .u32]]] ∧ [Ct.str, Ct.bool, Ct.sl true [Ct.int IntKind.i64, Ct.int IntKind.i64]] = [.str, Ct.bool, Ct.sl true [.int .i64, .int .i64]]) ∧ S.list.length = S'.list.length ∧ (0 : Int) ≤ IntKind.wrap .i64 (i.int + (1 : Int)) ∧ IntKind.wrap .i64 (i.int + (1 : Int)) ≤ (S.list.length : Int)) ∧ bif shotsE (List.drop (Int.toNat (IntKind.wrap .i64 (i.int + (1 : Int)))) S.list) (List.drop (Int.toNat (IntKind.wrap .i64 (i.int + (1 : Int)))) S'.list) then k (Ex.exit (nat_lit 0)) (St.mk [(nat_lit 4, .unk)] []) else k Ex.ret (St.mk [(nat_lit 4, .val .bool (U.b false))] []) else False) else False) ((fun T => Alt (Alt T (Alt T T)) (Alt T (Alt T T))) (bif decide ((0 : Int) ≤ i.int ∧ i.int < (S'.list.length : Int)) then bif !ByteArray.toList (U.str (nth (U.i (0 : Int)) (U.list (nth (U.i (0 : Int)) S.list (Int.toNat i.int))) (0 : Nat))) == ByteArray.toList (U.str (nth (U.i (0 : Int)) (U.list (nth (U.i (0 : Int)) S'.list (Int.toNat i.int))) (0 : Nat))) then k Ex.ret (St.mk [(nat_lit 4, .val .bool (U.b false))] []) else bif U.int (nth (U.i (0 : Int)) (List.tail (U.list (nth (U.i (0 : Int)) S.list (Int.toNat i.int)))) (0 : Nat)) != U.int (nth (U.i (0 : Int)) (List.tail (U.list (nth (U.i (0 : Int)) S'.list (Int.toNat i.int)))) (0 : Nat)) then k Ex.ret (St.mk [(nat_lit 4, .val .bool (U.b false))] []) else bif !tabE (U.list (nth (U.i (0 : Int)) (List.tail (List.tail (U.list (nth (U.i (0 : Int)) S.list (Int.toNat i.int))))) (0 : Nat))) (U.list (nth (U.i (0 : Int)) (List.tail (List.tail (U.list (nth (U.i (0 : Int)) S'.list (Int.toNat i.int))))) (0 : Nat))) then k Ex.ret (St.mk [(nat_lit 4, .val .bool (U.b false))] []) else bif Nat.blt (μ [.val (.int IntKind.i64) (U.i (IntKind.wrap .i64 (i.int + (1 : Int)))), .ptr (nat_lit 256) (nat_lit 0), .ptr (nat_lit 384) (nat_lit 0)] [.box [.val (.int IntKind.i64) c, .val (.int IntKind.i64) sz, .val .str bk, .val (.sl false [.sl true [.int .i64, .int .i64, .int .i64, .int .i64, .int .u32]]) T, .val (.sl true [.str, .int .i64, Ct.sl false [.sl true [.int .i64, .int .i64, .int .i64, .int .i64, .int .u32]]]) S, .val (.sl true [.str, Ct.bool, Ct.sl true [.int .i64, .int .i64]]) M, .val (.sl false [.int .i64]) Q], .box [.val (.int IntKind.i64) c', .val (.int IntKind.i64) sz', .val .str bk', .val (.sl false [.sl true [.int .i64, .int .i64, .int .i64, .int .i64, .int .u32]]) T', .val (.sl true [.str, .int .i64, Ct.sl false [.sl true [.int .i64, .int .i64, .int .i64, .int .i64, .int .u32]]]) S', .val (.sl true [.str, Ct.bool, Ct.sl true [.int .i64, .int .i64]]) M', .val (.sl false [.int .i64]) Q']]) N then ((nat_lit 256 = nat_lit 256 ∧ nat_lit 0 = nat_lit 0 ∧ nat_lit 384 = nat_lit 384 ∧ nat_lit 0 = nat_lit 0) ∧ ([Ct.int IntKind.i64, Ct.int IntKind.i64, Ct.int IntKind.i64, Ct.int IntKind.i64, Ct.int IntKind.u32] = [.int .i64, .int .i64, .int .i64, .int .i64, .int .u32] ∧ [Ct.str, Ct.int IntKind.i64, Ct.sl false [Ct.sl true [Ct.int IntKind.i64, Ct.int IntKind.i64, Ct.int IntKind.i64, Ct.int IntKind.i64, Ct.int IntKind.u32]]] = [.str, .int .i64, Ct.sl false [.sl true [.int .i64, .int .i64, .int .i64, .int .i64, .int .u32]]] ∧ [Ct.str, Ct.bool, Ct.sl true [Ct.int IntKind.i64, Ct.int IntKind.i64]] = [.str, Ct.bool, Ct.sl true [.int .i64, .int .i64]]) ∧ ([Ct.int IntKind.i64, Ct.int IntKind.i64, Ct.int IntKind.i64, Ct.int IntKind.i64, Ct.int IntKind.u32] = [.int .i64, .int .i64, .int .i64, .int .i64, .int .u32] ∧ [Ct.str, Ct.int IntKind.i64, Ct.sl false [Ct.sl true [Ct.int IntKind.i64, Ct.int IntKind.i64, Ct.int IntKind.i64, Ct.int IntKind.i64, Ct.int IntKind.u32]]] = [.str, .int .i64, Ct.sl false [.sl true [.int .i64, .int .i64, .int .i64, .int .i64, .int .u32]]] ∧ [Ct.str, Ct.bool, Ct.sl true [Ct.int IntKind.i64, Ct.int IntKind.i64]] = [.str, Ct.bool, Ct.sl true [.int .i64, .int .i64]]) ∧ S.list.length = S'.list.length ∧ (0 : Int) ≤ IntKind.wrap .i64 (i.int + (1 : Int)) ∧ IntKind.wrap .i64 (i.int + (1 : Int)) ≤ (S.list.length : Int)) ∧ bif shotsE (List.drop (Int.toNat (IntKind.wrap .i64 (i.int + (1 : Int)))) S.list) (List.drop (Int.toNat (IntKind.wrap .i64 (i.int + (1 : Int)))) S'.list) then k (Ex.exit (nat_lit 0)) (St.mk [(nat_lit 4, .unk)] []) else k Ex.ret (St.mk [(nat_lit 4, .val .bool (U.b false))] []) else False else False)) else False) (Alt (bif decide ((0 : Int) ≤ i.int ∧ i.int < (S'.list.length : Int)) then Alt (bif decide ((0 : Int) ≤ i.int ∧ i.int < (S.list.length : Int)) then (fun T => Alt T T) (bif !ByteArray.toList (U.str (nth (U.i (0 : Int)) (U.list (nth (U.i (0 : Int)) S.list (Int.toNat i.int))) (0 : Nat))) == ByteArray.toList (U.str (nth (U.i (0 : Int)) (U.list (nth (U.i (0 : Int)) S'.list (Int.toNat i.int))) (0 : Nat))) then k Ex.ret (St.mk [(nat_lit 4, .val .bool (U.b false))] []) else bif U.int (nth (U.i (0 : Int)) (List.tail (U.list (nth (U.i (0 : Int)) S.list (Int.toNat i.int)))) (0 : Nat)) != U.int (nth (U.i (0 : Int)) (List.tail (U.list (nth (U.i (0 : Int)) S'.list (Int.toNat i.int)))) (0 : Nat)) then k Ex.ret (St.mk [(nat_lit 4, .val .bool (U.b false))] []) else bif !tabE (U.list (nth (U.i (0 : Int)) (List.tail (List.tail (U.list (nth (U.i (0 : Int)) S.list (Int.toNat i.int))))) (0 : Nat))) (U.list (nth (U.i (0 : Int)) (List.tail (List.tail (U.list (nth (U.i (0 : Int)) S'.list (Int.toNat i.int))))) (0 : Nat))) then k Ex.ret (St.mk [(nat_lit 4, .val .bool (U.b false))] []) else bif Nat.blt (μ [.val (.int IntKind.i64) (U.i (IntKind.wrap .i64 (i.int + (1 : Int)))), .ptr (nat_lit 256) (nat_lit 0), .ptr (nat_lit 384) (nat_lit 0)] [.box [.val (.int IntKind.i64) c, .val (.int IntKind.i64) sz, .val .str bk, .val (.sl false [.sl true [.int .i64, .int .i64, .int .i64, .int .i64, .int .u32]]) T, .val (.sl true [.str, .int .i64, Ct.sl false [.sl true [.int .i64, .int .i64, .int .i64, .int .i64, .int .u32]]]) S, .val (.sl true [.str, Ct.bool, Ct.sl true [.int .i64, .int .i64]]) M, .val (.sl false [.int .i64]) Q], .box [.val (.int IntKind.i64) c', .val (.int IntKind.i64) sz', .val .str bk', .val (.sl false [.sl true [.int .i64, .int .i64, .int .i64, .int .i64, .int .u32]]) T', .val (.sl true [.str, .int .i64, Ct.sl false [.sl true [.int .i64, .int .i64, .int .i64, .int .i64, .int .u32]]]) S', .val (.sl true [.str, Ct.bool, Ct.sl true [.int .i64, .int .i64]]) M', .val (.sl false [.int .i64]) Q']]) N then ((nat_lit 256 = nat_lit 256 ∧ nat_lit 0 = nat_lit 0 ∧ nat_lit 384 = nat_lit 384 ∧ nat_lit 0 = nat_lit 0) ∧ ([Ct.int IntKind.i64, Ct.int IntKind.i64, Ct.int IntKind.i64, Ct.int IntKind.i64, Ct.int IntKind.u32] = [.int .i64, .int .i64, .int .i64, .int .i64, .int .u32] ∧ [Ct.str, Ct.int IntKind.i64, Ct.sl false [Ct.sl true [Ct.int IntKind.i64, Ct.int IntKind.i64, Ct.int IntKind.i64, Ct.int IntKind.i64, Ct.int IntKind.u32]]] = [.str, .int .i64, Ct.sl false [.sl true [.int .i64, .int .i64, .int .i64, .int .i64, .int .u32]]] ∧ [Ct.str, Ct.bool, Ct.sl true [Ct.int IntKind.i64, Ct.int IntKind.i64]] = [.str, Ct.bool, Ct.sl true [.int .i64, .int .i64]]) ∧ ([Ct.int IntKind.i64, Ct.int IntKind.i64, Ct.int IntKind.i64, Ct.int IntKind.i64, Ct.int IntKind.u32] = [.int .i64, .int .i64, .int .i64, .int .i64, .int .u32] ∧ [Ct.str, Ct.int IntKind.i64, Ct.sl false [Ct.sl true [Ct.int IntKind.i64, Ct.int IntKind.i64, Ct.int IntKind.i64, Ct.int IntKind.i64, Ct.int IntKind.u32]]] = [.str, .int .i64, Ct.sl false [.sl true [.int .i64, .int .i64, .int .i64, .int .i64, .int .u32]]] ∧ [Ct.str, Ct.bool, Ct.sl true [Ct.int IntKind.i64, Ct.int IntKind.i64]] = [.str, Ct.bool, Ct.sl true [.int .i64, .int .i64]]) ∧ S.list.length = S'.list.length ∧ (0 : Int) ≤ IntKind.wrap .i64 (i.int + (1 : Int)) ∧ IntKind.wrap .i64 (i.int + (1 : Int)) ≤ (S.list.length : Int)) ∧ bif shotsE (List.drop (Int.toNat (IntKind.wrap .i64 (i.int + (1 : Int)))) S.list) (List.drop (Int.toNat (IntKind.wrap .i64 (i.int + (1 : Int)))) S'.list) then k (Ex.exit (nat_lit 0)) (St.mk [(nat_lit 4, .unk)] []) else k Ex.ret (St.mk [(nat_lit 4, .val .bool (U.b false))] []) else False) else False) ((fun T => Alt (Alt T T) (Alt T T)) (bif decide ((0 : Int) ≤ i.int ∧ i.int < (S.list.length : Int)) then bif !ByteArray.toList (U.str (nth (U.i (0 : Int)) (U.list (nth (U.i (0 : Int)) S.list (Int.toNat i.int))) (0 : Nat))) == ByteArray.toList (U.str (nth (U.i (0 : Int)) (U.list (nth (U.i (0 : Int)) S'.list (Int.toNat i.int))) (0 : Nat))) then k Ex.ret (St.mk [(nat_lit 4, .val .bool (U.b false))] []) else bif U.int (nth (U.i (0 : Int)) (List.tail (U.list (nth (U.i (0 : Int)) S.list (Int.toNat i.int)))) (0 : Nat)) != U.int (nth (U.i (0 : Int)) (List.tail (U.list (nth (U.i (0 : Int)) S'.list (Int.toNat i.int)))) (0 : Nat)) then k Ex.ret (St.mk [(nat_lit 4, .val .bool (U.b false))] []) else bif !tabE (U.list (nth (U.i (0 : Int)) (List.tail (List.tail (U.list (nth (U.i (0 : Int)) S.list (Int.toNat i.int))))) (0 : Nat))) (U.list (nth (U.i (0 : Int)) (List.tail (List.tail (U.list (nth (U.i (0 : Int)) S'.list (Int.toNat i.int))))) (0 : Nat))) then k Ex.ret (St.mk [(nat_lit 4, .val .bool (U.b false))] []) else bif Nat.blt (μ [.val (.int IntKind.i64) (U.i (IntKind.wrap .i64 (i.int + (1 : Int)))), .ptr (nat_lit 256) (nat_lit 0), .ptr (nat_lit 384) (nat_lit 0)] [.box [.val (.int IntKind.i64) c, .val (.int IntKind.i64) sz, .val .str bk, .val (.sl false [.sl true [.int .i64, .int .i64, .int .i64, .int .i64, .int .u32]]) T, .val (.sl true [.str, .int .i64, Ct.sl false [.sl true [.int .i64, .int .i64, .int .i64, .int .i64, .int .u32]]]) S, .val (.sl true [.str, Ct.bool, Ct.sl true [.int .i64, .int .i64]]) M, .val (.sl false [.int .i64]) Q], .box [.val (.int IntKind.i64) c', .val (.int IntKind.i64) sz', .val .str bk', .val (.sl false [.sl true [.int .i64, .int .i64, .int .i64, .int .i64, .int .u32]]) T', .val (.sl true [.str, .int .i64, Ct.sl false [.sl true [.int .i64, .int .i64, .int .i64, .int .i64, .int .u32]]]) S', .val (.sl true [.str, Ct.bool, Ct.sl true [.int .i64, .int .i64]]) M', .val (.sl false [.int .i64]) Q']]) N then ((nat_lit 256 = nat_lit 256 ∧ nat_lit 0 = nat_lit 0 ∧ nat_lit 384 = nat_lit 384 ∧ nat_lit 0 = nat_lit 0) ∧ ([Ct.int IntKind.i64, Ct.int IntKind.i64, Ct.int IntKind.i64, Ct.int IntKind.i64, Ct.int IntKind.u32] = [.int .i64, .int .i64, .int .i64, .int .i64, .int .u32] ∧ [Ct.str, Ct.int IntKind.i64, Ct.sl false [Ct.sl true [Ct.int IntKind.i64, Ct.int IntKind.i64, Ct.int IntKind.i64, Ct.int IntKind.i64, Ct.int IntKind.u32]]] = [.str, .int .i64, Ct.sl false [.sl true [.int .i64, .int .i64, .int .i64, .int .i64, .int .u32]]] ∧ [Ct.str, Ct.bool, Ct.sl true [Ct.int IntKind.i64, Ct.int IntKind.i64]] = [.str, Ct.bool, Ct.sl true [.int .i64, .int .i64]]) ∧ ([Ct.int IntKind.i64, Ct.int IntKind.i64, Ct.int IntKind.i64, Ct.int IntKind.i64, Ct.int IntKind.u32] = [.int .i64, .int .i64, .int .i64, .int .i64, .int .u32] ∧ [Ct.str, Ct.int IntKind.i64, Ct.sl false [Ct.sl true [Ct.int IntKind.i64, Ct.int IntKind.i64, Ct.int IntKind.i64, Ct.int IntKind.i64, Ct.int IntKind.u32]]] = [.str, .int .i64, Ct.sl false [.sl true [.int .i64, .int .i64, .int .i64, .int .i64, .int .u32]]] ∧ [Ct.str, Ct.bool, Ct.sl true [Ct.int IntKind.i64, Ct.int IntKind.i64]] = [.str, Ct.bool, Ct.sl true [.int .i64, .int .i64]]) ∧ S.list.length = S'.list.length ∧ (0 : Int) ≤ IntKind.wrap .i64 (i.int + (1 : Int)) ∧ IntKind.wrap .i64 (i.int + (1 : Int)) ≤ (S.list.length : Int)) ∧ bif shotsE (List.drop (Int.toNat (IntKind.wrap .i64 (i.int + (1 : Int)))) S.list) (List.drop (Int.toNat (IntKind.wrap .i64 (i.int + (1 : Int)))) S'.list) then k (Ex.exit (nat_lit 0)) (St.mk [(nat_lit 4, .unk)] []) else k Ex.ret (St.mk [(nat_lit 4, .val .bool (U.b false))] []) else False else False)) else False) (Alt (Alt (bif decide ((0 : Int) ≤ i.int ∧ i.int < (S.list.length : Int)) then (fun T => Alt T (Alt T T)) (bif decide ((0 : Int) ≤ i.int ∧ i.int < (S'.list.length : Int)) then bif !ByteArray.toList (U.str (nth (U.i (0 : Int)) (U.list (nth (U.i (0 : Int)) S.list (Int.toNat i.int))) (0 : Nat))) == ByteArray.toList (U.str (nth (U.i (0 : Int)) (U.list (nth (U.i (0 : Int)) S'.list (Int.toNat i.int))) (0 : Nat))) then k Ex.ret (St.mk [(nat_lit 4, .val .bool (U.b false))] []) else bif U.int (nth (U.i (0 : Int)) (List.tail (U.list (nth (U.i (0 : Int)) S.list (Int.toNat i.int)))) (0 : Nat)) != U.int (nth (U.i (0 : Int)) (List.tail (U.list (nth (U.i (0 : Int)) S'.list (Int.toNat i.int)))) (0 : Nat)) then k Ex.ret (St.mk [(nat_lit 4, .val .bool (U.b false))] []) else bif !tabE (U.list (nth (U.i (0 : Int)) (List.tail (List.tail (U.list (nth (U.i (0 : Int)) S.list (Int.toNat i.int))))) (0 : Nat))) (U.list (nth (U.i (0 : Int)) (List.tail (List.tail (U.list (nth (U.i (0 : Int)) S'.list (Int.toNat i.int))))) (0 : Nat))) then k Ex.ret (St.mk [(nat_lit 4, .val .bool (U.b false))] []) else bif Nat.blt (μ [.val (.int IntKind.i64) (U.i (IntKind.wrap .i64 (i.int + (1 : Int)))), .ptr (nat_lit 256) (nat_lit 0), .ptr (nat_lit 384) (nat_lit 0)] [.box [.val (.int IntKind.i64) c, .val (.int IntKind.i64) sz, .val .str bk, .val (.sl false [.sl true [.int .i64, .int .i64, .int .i64, .int .i64, .int .u32]]) T, .val (.sl true [.str, .int .i64, Ct.sl false [.sl true [.int .i64, .int .i64, .int .i64, .int .i64, .int .u32]]]) S, .val (.sl true [.str, Ct.bool, Ct.sl true [.int .i64, .int .i64]]) M, .val (.sl false [.int .i64]) Q], .box [.val (.int IntKind.i64) c', .val (.int IntKind.i64) sz', .val .str bk', .val (.sl false [.sl true [.int .i64, .int .i64, .int .i64, .int .i64, .int .u32]]) T', .val (.sl true [.str, .int .i64, Ct.sl false [.sl true [.int .i64, .int .i64, .int .i64, .int .i64, .int .u32]]]) S', .val (.sl true [.str, Ct.bool, Ct.sl true [.int .i64, .int .i64]]) M', .val (.sl false [.int .i64]) Q']]) N then ((nat_lit 256 = nat_lit 256 ∧ nat_lit 0 = nat_lit 0 ∧ nat_lit 384 = nat_lit 384 ∧ nat_lit 0 = nat_lit 0) ∧ ([Ct.int IntKind.i64, Ct.int IntKind.i64, Ct.int IntKind.i64, Ct.int IntKind.i64, Ct.int IntKind.u32] = [.int .i64, .int .i64, .int .i64, .int .i64, .int .u32] ∧ [Ct.str, Ct.int IntKind.i64, Ct.sl false [Ct.sl true [Ct.int IntKind.i64, Ct.int IntKind.i64, Ct.int IntKind.i64, Ct.int IntKind.i64, Ct.int IntKind.u32]]] = [.str, .int .i64, Ct.sl false [.sl true [.int .i64, .int .i64, .int .i64, .int .i64, .int .u32]]] ∧ [Ct.str, Ct.bool, Ct.sl true [Ct.int IntKind.i64, Ct.int IntKind.i64]] = [.str, Ct.bool, Ct.sl true [.int .i64, .int .i64]]) ∧ ([Ct.int IntKind.i64, Ct.int IntKind.i64, Ct.int IntKind.i64, Ct.int IntKind.i64, Ct.int IntKind.u32] = [.int .i64, .int .i64, .int .i64, .int .i64, .int .u32] ∧ [Ct.str, Ct.int IntKind.i64, Ct.sl false [Ct.sl true [Ct.int IntKind.i64, Ct.int IntKind.i64, Ct.int IntKind.i64, Ct.int IntKind.i64, Ct.int IntKind.u32]]] = [.str, .int .i64, Ct.sl false [.sl true [.int .i64, .int .i64, .int .i64, .int .i64, .int .u32]]] ∧ [Ct.str, Ct.bool, Ct.sl true [Ct.int IntKind.i64, Ct.int IntKind.i64]] = [.str, Ct.bool, Ct.sl true [.int .i64, .int .i64]]) ∧ S.list.length = S'.list.length ∧ (0 : Int) ≤ IntKind.wrap .i64 (i.int + (1 : Int)) ∧ IntKind.wrap .i64 (i.int + (1 : Int)) ≤ (S.list.length : Int)) ∧ bif shotsE (List.drop (Int.toNat (IntKind.wrap .i64 (i.int + (1 : Int)))) S.list) (List.drop (Int.toNat (IntKind.wrap .i64 (i.int + (1 : Int)))) S'.list) then k (Ex.exit (nat_lit 0)) (St.mk [(nat_lit 4, .unk)] []) else k Ex.ret (St.mk [(nat_lit 4, .val .bool (U.b false))] []) else False else False) else False) (Alt (bif decide ((0 : Int) ≤ i.int ∧ i.int < (S'.list.length : Int)) then (fun T => Alt T T) (bif decide ((0 : Int) ≤ i.int ∧ i.int < (S.list.length : Int)) then bif !ByteArray.toList (U.str (nth (U.i (0 : Int)) (U.list (nth (U.i (0 : Int)) S.list (Int.toNat i.int))) (0 : Nat))) == ByteArray.toList (U.str (nth (U.i (0 : Int)) (U.list (nth (U.i (0 : Int)) S'.list (Int.toNat i.int))) (0 : Nat))) then k Ex.ret (St.mk [(nat_lit 4, .val .bool (U.b false))] []) else bif U.int (nth (U.i (0 : Int)) (List.tail (U.list (nth (U.i (0 : Int)) S.list (Int.toNat i.int)))) (0 : Nat)) != U.int (nth (U.i (0 : Int)) (List.tail (U.list (nth (U.i (0 : Int)) S'.list (Int.toNat i.int)))) (0 : Nat)) then k Ex.ret (St.mk [(nat_lit 4, .val .bool (U.b false))] []) else bif !tabE (U.list (nth (U.i (0 : Int)) (List.tail (List.tail (U.list (nth (U.i (0 : Int)) S.list (Int.toNat i.int))))) (0 : Nat))) (U.list (nth (U.i (0 : Int)) (List.tail (List.tail (U.list (nth (U.i (0 : Int)) S'.list (Int.toNat i.int))))) (0 : Nat))) then k Ex.ret (St.mk [(nat_lit 4, .val .bool (U.b false))] []) else bif Nat.blt (μ [.val (.int IntKind.i64) (U.i (IntKind.wrap .i64 (i.int + (1 : Int)))), .ptr (nat_lit 256) (nat_lit 0), .ptr (nat_lit 384) (nat_lit 0)] [.box [.val (.int IntKind.i64) c, .val (.int IntKind.i64) sz, .val .str bk, .val (.sl false [.sl true [.int .i64, .int .i64, .int .i64, .int .i64, .int .u32]]) T, .val (.sl true [.str, .int .i64, Ct.sl false [.sl true [.int .i64, .int .i64, .int .i64, .int .i64, .int .u32]]]) S, .val (.sl true [.str, Ct.bool, Ct.sl true [.int .i64, .int .i64]]) M, .val (.sl false [.int .i64]) Q], .box [.val (.int IntKind.i64) c', .val (.int IntKind.i64) sz', .val .str bk', .val (.sl false [.sl true [.int .i64, .int .i64, .int .i64, .int .i64, .int .u32]]) T', .val (.sl true [.str, .int .i64, Ct.sl false [.sl true [.int .i64, .int .i64, .int .i64, .int .i64, .int .u32]]]) S', .val (.sl true [.str, Ct.bool, Ct.sl true [.int .i64, .int .i64]]) M', .val (.sl false [.int .i64]) Q']]) N then ((nat_lit 256 = nat_lit 256 ∧ nat_lit 0 = nat_lit 0 ∧ nat_lit 384 = nat_lit 384 ∧ nat_lit 0 = nat_lit 0) ∧ ([Ct.int IntKind.i64, Ct.int IntKind.i64, Ct.int IntKind.i64, Ct.int IntKind.i64, Ct.int IntKind.u32] = [.int .i64, .int .i64, .int .i64, .int .i64, .int .u32] ∧ [Ct.str, Ct.int IntKind.i64, Ct.sl false [Ct.sl true [Ct.int IntKind.i64, Ct.int IntKind.i64, Ct.int IntKind.i64, Ct.int IntKind.i64, Ct.int IntKind.u32]]] = [.str, .int .i64, Ct.sl false [.sl true [.int .i64, .int .i64, .int .i64, .int .i64, .int .u32]]] ∧ [Ct.str, Ct.bool, Ct.sl true [Ct.int IntKind.i64, Ct.int IntKind.i64]] = [.str, Ct.bool, Ct.sl true [.int .i64, .int .i64]]) ∧ ([Ct.int IntKind.i64, Ct.int IntKind.i64, Ct.int IntKind.i64, Ct.int IntKind.i64, Ct.int IntKind.u32] = [.int .i64, .int .i64, .int .i64, .int .i64, .int .u32] ∧ [Ct.str, Ct.int IntKind.i64, Ct.sl false [Ct.sl true [Ct.int IntKind.i64, Ct.int IntKind.i64, Ct.int IntKind.i64, Ct.int IntKind.i64, Ct.int IntKind.u32]]] = [.str, .int .i64, Ct.sl false [.sl true [.int .i64, .int .i64, .int .i64, .int .i64, .int .u32]]] ∧ [Ct.str, Ct.bool, Ct.sl true [Ct.int IntKind.i64, Ct.int IntKind.i64]] = [.str, Ct.bool, Ct.sl true [.int .i64, .int .i64]]) ∧ S.list.length = S'.list.length ∧ (0 : Int) ≤ IntKind.wrap .i64 (i.int + (1 : Int)) ∧ IntKind.wrap .i64 (i.int + (1 : Int)) ≤ (S.list.length : Int)) ∧ bif shotsE (List.drop (Int.toNat (IntKind.wrap .i64 (i.int + (1 : Int)))) S.list) (List.drop (Int.toNat (IntKind.wrap .i64 (i.int + (1 : Int)))) S'.list) then k (Ex.exit (nat_lit 0)) (St.mk [(nat_lit 4, .unk)] []) else k Ex.ret (St.mk [(nat_lit 4, .val .bool (U.b false))] []) else False else False) else False) (Alt (bif decide ((0 : Int) ≤ i.int ∧ i.int < (S.list.length : Int)) then (fun T => Alt T T) (bif decide ((0 : Int) ≤ i.int ∧ i.int < (S'.list.length : Int)) then bif !ByteArray.toList (U.str (nth (U.i (0 : Int)) (U.list (nth (U.i (0 : Int)) S.list (Int.toNat i.int))) (0 : Nat))) == ByteArray.toList (U.str (nth (U.i (0 : Int)) (U.list (nth (U.i (0 : Int)) S'.list (Int.toNat i.int))) (0 : Nat))) then k Ex.ret (St.mk [(nat_lit 4, .val .bool (U.b false))] []) else bif U.int (nth (U.i (0 : Int)) (List.tail (U.list (nth (U.i (0 : Int)) S.list (Int.toNat i.int)))) (0 : Nat)) != U.int (nth (U.i (0 : Int)) (List.tail (U.list (nth (U.i (0 : Int)) S'.list (Int.toNat i.int)))) (0 : Nat)) then k Ex.ret (St.mk [(nat_lit 4, .val .bool (U.b false))] []) else bif !tabE (U.list (nth (U.i (0 : Int)) (List.tail (List.tail (U.list (nth (U.i (0 : Int)) S.list (Int.toNat i.int))))) (0 : Nat))) (U.list (nth (U.i (0 : Int)) (List.tail (List.tail (U.list (nth (U.i (0 : Int)) S'.list (Int.toNat i.int))))) (0 : Nat))) then k Ex.ret (St.mk [(nat_lit 4, .val .bool (U.b false))] []) else bif Nat.blt (μ [.val (.int IntKind.i64) (U.i (IntKind.wrap .i64 (i.int + (1 : Int)))), .ptr (nat_lit 256) (nat_lit 0), .ptr (nat_lit 384) (nat_lit 0)] [.box [.val (.int IntKind.i64) c, .val (.int IntKind.i64) sz, .val .str bk, .val (.sl false [.sl true [.int .i64, .int .i64, .int .i64, .int .i64, .int .u32]]) T, .val (.sl true [.str, .int .i64, Ct.sl false [.sl true [.int .i64, .int .i64, .int .i64, .int .i64, .int .u32]]]) S, .val (.sl true [.str, Ct.bool, Ct.sl true [.int .i64, .int .i64]]) M, .val (.sl false [.int .i64]) Q], .box [.val (.int IntKind.i64) c', .val (.int IntKind.i64) sz', .val .str bk', .val (.sl false [.sl true [.int .i64, .int .i64, .int .i64, .int .i64, .int .u32]]) T', .val (.sl true [.str, .int .i64, Ct.sl false [.sl true [.int .i64, .int .i64, .int .i64, .int .i64, .int .u32]]]) S', .val (.sl true [.str, Ct.bool, Ct.sl true [.int .i64, .int .i64]]) M', .val (.sl false [.int .i64]) Q']]) N then ((nat_lit 256 = nat_lit 256 ∧ nat_lit 0 = nat_lit 0 ∧ nat_lit 384 = nat_lit 384 ∧ nat_lit 0 = nat_lit 0) ∧ ([Ct.int IntKind.i64, Ct.int IntKind.i64, Ct.int IntKind.i64, Ct.int IntKind.i64, Ct.int IntKind.u32] = [.int .i64, .int .i64, .int .i64, .int .i64, .int .u32] ∧ [Ct.str, Ct.int IntKind.i64, Ct.sl false [Ct.sl true [Ct.int IntKind.i64, Ct.int IntKind.i64, Ct.int IntKind.i64, Ct.int IntKind.i64, Ct.int IntKind.u32]]] = [.str, .int .i64, Ct.sl false [.sl true [.int .i64, .int .i64, .int .i64, .int .i64, .int .u32]]] ∧ [Ct.str, Ct.bool, Ct.sl true [Ct.int IntKind.i64, Ct.int IntKind.i64]] = [.str, Ct.bool, Ct.sl true [.int .i64, .int .i64]]) ∧ ([Ct.int IntKind.i64, Ct.int IntKind.i64, Ct.int IntKind.i64, Ct.int IntKind.i64, Ct.int IntKind.u32] = [.int .i64, .int .i64, .int .i64, .int .i64, .int .u32] ∧ [Ct.str, Ct.int IntKind.i64, Ct.sl false [Ct.sl true [Ct.int IntKind.i64, Ct.int IntKind.i64, Ct.int IntKind.i64, Ct.int IntKind.i64, Ct.int IntKind.u32]]] = [.str, .int .i64, Ct.sl false [.sl true [.int .i64, .int .i64, .int .i64, .int .i64, .int .u32]]] ∧ [Ct.str, Ct.bool, Ct.sl true [Ct.int IntKind.i64, Ct.int IntKind.i64]] = [.str, Ct.bool, Ct.sl true [.int .i64, .int .i64]]) ∧ S.list.length = S'.list.length ∧ (0 : Int) ≤ IntKind.wrap .i64 (i.int + (1 : Int)) ∧ IntKind.wrap .i64 (i.int + (1 : Int)) ≤ (S.list.length : Int)) ∧ bif shotsE (List.drop (Int.toNat (IntKind.wrap .i64 (i.int + (1 : Int)))) S.list) (List.drop (Int.toNat (IntKind.wrap .i64 (i.int + (1 : Int)))) S'.list) then k (Ex.exit (nat_lit 0)) (St.mk [(nat_lit 4, .unk)] []) else k Ex.ret (St.mk [(nat_lit 4, .val .bool (U.b false))] []) else False else False) else False) (bif decide ((0 : Int) ≤ i.int ∧ i.int < (S'.list.length : Int)) then bif decide ((0 : Int) ≤ i.int ∧ i.int < (S.list.length : Int)) then bif !ByteArray.toList (U.str (nth (U.i (0 : Int)) (U.list (nth (U.i (0 : Int)) S.list (Int.toNat i.int))) (0 : Nat))) == ByteArray.toList (U.str (nth (U.i (0 : Int)) (U.list (nth (U.i (0 : Int)) S'.list (Int.toNat i.int))) (0 : Nat))) then k Ex.ret (St.mk [(nat_lit 4, .val .bool (U.b false))] []) else bif U.int (nth (U.i (0 : Int)) (List.tail (U.list (nth (U.i (0 : Int)) S.list (Int.toNat i.int)))) (0 : Nat)) != U.int (nth (U.i (0 : Int)) (List.tail (U.list (nth (U.i (0 : Int)) S'.list (Int.toNat i.int)))) (0 : Nat)) then k Ex.ret (St.mk [(nat_lit 4, .val .bool (U.b false))] []) else bif !tabE (U.list (nth (U.i (0 : Int)) (List.tail (List.tail (U.list (nth (U.i (0 : Int)) S.list (Int.toNat i.int))))) (0 : Nat))) (U.list (nth (U.i (0 : Int)) (List.tail (List.tail (U.list (nth (U.i (0 : Int)) S'.list (Int.toNat i.int))))) (0 : Nat))) then k Ex.ret (St.mk [(nat_lit 4, .val .bool (U.b false))] []) else bif Nat.blt (μ [.val (.int IntKind.i64) (U.i (IntKind.wrap .i64 (i.int + (1 : Int)))), .ptr (nat_lit 256) (nat_lit 0), .ptr (nat_lit 384) (nat_lit 0)] [.box [.val (.int IntKind.i64) c, .val (.int IntKind.i64) sz, .val .str bk, .val (.sl false [.sl true [.int .i64, .int .i64, .int .i64, .int .i64, .int .u32]]) T, .val (.sl true [.str, .int .i64, Ct.sl false [.sl true [.int .i64, .int .i64, .int .i64, .int .i64, .int .u32]]]) S, .val (.sl true [.str, Ct.bool, Ct.sl true [.int .i64, .int .i64]]) M, .val (.sl false [.int .i64]) Q], .box [.val (.int IntKind.i64) c', .val (.int IntKind.i64) sz', .val .str bk', .val (.sl false [.sl true [.int .i64, .int .i64, .int .i64, .int .i64, .int .u32]]) T', .val (.sl true [.str, .int .i64, Ct.sl false [.sl true [.int .i64, .int .i64, .int .i64, .int .i64, .int .u32]]]) S', .val (.sl true [.str, Ct.bool, Ct.sl true [.int .i64, .int .i64]]) M', .val (.sl false [.int .i64]) Q']]) N then ((nat_lit 256 = nat_lit 256 ∧ nat_lit 0 = nat_lit 0 ∧ nat_lit 384 = nat_lit 384 ∧ nat_lit 0 = nat_lit 0) ∧ ([Ct.int IntKind.i64, Ct.int IntKind.i64, Ct.int IntKind.i64, Ct.int IntKind.i64, Ct.int IntKind.u32] = [.int .i64, .int .i64, .int .i64, .int .i64, .int .u32] ∧ [Ct.str, Ct.int IntKind.i64, Ct.sl false [Ct.sl true [Ct.int IntKind.i64, Ct.int IntKind.i64, Ct.int IntKind.i64, Ct.int IntKind.i64, Ct.int IntKind.u32]]] = [.str, .int .i64, Ct.sl false [.sl true [.int .i64, .int .i64, .int .i64, .int .i64, .int .u32]]] ∧ [Ct.str, Ct.bool, Ct.sl true [Ct.int IntKind.i64, Ct.int IntKind.i64]] = [.str, Ct.bool, Ct.sl true [.int .i64, .int .i64]]) ∧ ([Ct.int IntKind.i64, Ct.int IntKind.i64, Ct.int IntKind.i64, Ct.int IntKind.i64, Ct.int IntKind.u32] = [.int .i64, .int .i64, .int .i64, .int .i64, .int .u32] ∧ [Ct.str, Ct.int IntKind.i64, Ct.sl false [Ct.sl true [Ct.int IntKind.i64, Ct.int IntKind.i64, Ct.int IntKind.i64, Ct.int IntKind.i64, Ct.int IntKind.u32]]] = [.str, .int .i64, Ct.sl false [.sl true [.int .i64, .int .i64, .int .i64, .int .i64, .int .u32]]] ∧ [Ct.str, Ct.bool, Ct.sl true [Ct.int IntKind.i64, Ct.int IntKind.i64]] = [.str, Ct.bool, Ct.sl true [.int .i64, .int .i64]]) ∧ S.list.length = S'.list.length ∧ (0 : Int) ≤ IntKind.wrap .i64 (i.int + (1 : Int)) ∧ IntKind.wrap .i64 (i.int + (1 : Int)) ≤ (S.list.length : Int)) ∧ bif shotsE (List.drop (Int.toNat (IntKind.wrap .i64 (i.int + (1 : Int)))) S.list) (List.drop (Int.toNat (IntKind.wrap .i64 (i.int + (1 : Int)))) S'.list) then k (Ex.exit (nat_lit 0)) (St.mk [(nat_lit 4, .unk)] []) else k Ex.ret (St.mk [(nat_lit 4, .val .bool (U.b false))] []) else False else False else False)))) (Alt (bif decide ((0 : Int) ≤ i.int ∧ i.int < (S.list.length : Int)) then (fun T => Alt T (Alt T T)) (bif decide ((0 : Int) ≤ i.int ∧ i.int < (S'.list.length : Int)) then bif !ByteArray.toList (U.str (nth (U.i (0 : Int)) (U.list (nth (U.i (0 : Int)) S.list (Int.toNat i.int))) (0 : Nat))) == ByteArray.toList (U.str (nth (U.i (0 : Int)) (U.list (nth (U.i (0 : Int)) S'.list (Int.toNat i.int))) (0 : Nat))) then k Ex.ret (St.mk [(nat_lit 4, .val .bool (U.b false))] []) else bif U.int (nth (U.i (0 : Int)) (List.tail (U.list (nth (U.i (0 : Int)) S.list (Int.toNat i.int)))) (0 : Nat)) != U.int (nth (U.i (0 : Int)) (List.tail (U.list (nth (U.i (0 : Int)) S'.list (Int.toNat i.int)))) (0 : Nat)) then k Ex.ret (St.mk [(nat_lit 4, .val .bool (U.b false))] []) else bif !tabE (U.list (nth (U.i (0 : Int)) (List.tail (List.tail (U.list (nth (U.i (0 : Int)) S.list (Int.toNat i.int))))) (0 : Nat))) (U.list (nth (U.i (0 : Int)) (List.tail (List.tail (U.list (nth (U.i (0 : Int)) S'.list (Int.toNat i.int))))) (0 : Nat))) then k Ex.ret (St.mk [(nat_lit 4, .val .bool (U.b false))] []) else bif Nat.blt (μ [.val (.int IntKind.i64) (U.i (IntKind.wrap .i64 (i.int + (1 : Int)))), .ptr (nat_lit 256) (nat_lit 0), .ptr (nat_lit 384) (nat_lit 0)] [.box [.val (.int IntKind.i64) c, .val (.int IntKind.i64) sz, .val .str bk, .val (.sl false [.sl true [.int .i64, .int .i64, .int .i64, .int .i64, .int .u32]]) T, .val (.sl true [.str, .int .i64, Ct.sl false [.sl true [.int .i64, .int .i64, .int .i64, .int .i64, .int .u32]]]) S, .val (.sl true [.str, Ct.bool, Ct.sl true [.int .i64, .int .i64]]) M, .val (.sl false [.int .i64]) Q], .box [.val (.int IntKind.i64) c', .val (.int IntKind.i64) sz', .val .str bk', .val (.sl false [.sl true [.int .i64, .int .i64, .int .i64, .int .i64, .int .u32]]) T', .val (.sl true [.str, .int .i64, Ct.sl false [.sl true [.int .i64, .int .i64, .int .i64, .int .i64, .int .u32]]]) S', .val (.sl true [.str, Ct.bool, Ct.sl true [.int .i64, .int .i64]]) M', .val (.sl false [.int .i64]) Q']]) N then ((nat_lit 256 = nat_lit 256 ∧ nat_lit 0 = nat_lit 0 ∧ nat_lit 384 = nat_lit 384 ∧ nat_lit 0 = nat_lit 0) ∧ ([Ct.int IntKind.i64, Ct.int IntKind.i64, Ct.int IntKind.i64, Ct.int IntKind.i64, Ct.int IntKind.u32] = [.int .i64, .int .i64, .int .i64, .int .i64, .int .u32] ∧ [Ct.str, Ct.int IntKind.i64, Ct.sl false [Ct.sl true [Ct.int IntKind.i64, Ct.int IntKind.i64, Ct.int IntKind.i64, Ct.int IntKind.i64, Ct.int IntKind.u32]]] = [.str, .int .i64, Ct.sl false [.sl true [.int .i64, .int .i64, .int .i64, .int .i64, .int .u32]]] ∧ [Ct.str, Ct.bool, Ct.sl true [Ct.int IntKind.i64, Ct.int IntKind.i64]] = [.str, Ct.bool, Ct.sl true [.int .i64, .int .i64]]) ∧ ([Ct.int IntKind.i64, Ct.int IntKind.i64, Ct.int IntKind.i64, Ct.int IntKind.i64, Ct.int IntKind.u32] = [.int .i64, .int .i64, .int .i64, .int .i64, .int .u32] ∧ [Ct.str, Ct.int IntKind.i64, Ct.sl false [Ct.sl true [Ct.int IntKind.i64, Ct.int IntKind.i64, Ct.int IntKind.i64, Ct.int IntKind.i64, Ct.int IntKind.u32]]] = [.str, .int .i64, Ct.sl false [.sl true [.int .i64, .int .i64, .int .i64, .int .i64, .int .u32]]] ∧ [Ct.str, Ct.bool, Ct.sl true [Ct.int IntKind.i64, Ct.int IntKind.i64]] = [.str, Ct.bool, Ct.sl true [.int .i64, .int .i64]]) ∧ S.list.length = S'.list.length ∧ (0 : Int) ≤ IntKind.wrap .i64 (i.int + (1 : Int)) ∧ IntKind.wrap .i64 (i.int + (1 : Int)) ≤ (S.list.length : Int)) ∧ bif shotsE (List.drop (Int.toNat (IntKind.wrap .i64 (i.int + (1 : Int)))) S.list) (List.drop (Int.toNat (IntKind.wrap .i64 (i.int + (1 : Int)))) S'.list) then k (Ex.exit (nat_lit 0)) (St.mk [(nat_lit 4, .unk)] []) else k Ex.ret (St.mk [(nat_lit 4, .val .bool (U.b false))] []) else False else False) else False) (Alt (bif decide ((0 : Int) ≤ i.int ∧ i.int < (S'.list.length : Int)) then (fun T => Alt T T) (bif decide ((0 : Int) ≤ i.int ∧ i.int < (S.list.length : Int)) then bif !ByteArray.toList (U.str (nth (U.i (0 : Int)) (U.list (nth (U.i (0 : Int)) S.list (Int.toNat i.int))) (0 : Nat))) == ByteArray.toList (U.str (nth (U.i (0 : Int)) (U.list (nth (U.i (0 : Int)) S'.list (Int.toNat i.int))) (0 : Nat))) then k Ex.ret (St.mk [(nat_lit 4, .val .bool (U.b false))] []) else bif U.int (nth (U.i (0 : Int)) (List.tail (U.list (nth (U.i (0 : Int)) S.list (Int.toNat i.int)))) (0 : Nat)) != U.int (nth (U.i (0 : Int)) (List.tail (U.list (nth (U.i (0 : Int)) S'.list (Int.toNat i.int)))) (0 : Nat)) then k Ex.ret (St.mk [(nat_lit 4, .val .bool (U.b false))] []) else bif !tabE (U.list (nth (U.i (0 : Int)) (List.tail (List.tail (U.list (nth (U.i (0 : Int)) S.list (Int.toNat i.int))))) (0 : Nat))) (U.list (nth (U.i (0 : Int)) (List.tail (List.tail (U.list (nth (U.i (0 : Int)) S'.list (Int.toNat i.int))))) (0 : Nat))) then k Ex.ret (St.mk [(nat_lit 4, .val .bool (U.b false))] []) else bif Nat.blt (μ [.val (.int IntKind.i64) (U.i (IntKind.wrap .i64 (i.int + (1 : Int)))), .ptr (nat_lit 256) (nat_lit 0), .ptr (nat_lit 384) (nat_lit 0)] [.box [.val (.int IntKind.i64) c, .val (.int IntKind.i64) sz, .val .str bk, .val (.sl false [.sl true [.int .i64, .int .i64, .int .i64, .int .i64, .int .u32]]) T, .val (.sl true [.str, .int .i64, Ct.sl false [.sl true [.int .i64, .int .i64, .int .i64, .int .i64, .int .u32]]]) S, .val (.sl true [.str, Ct.bool, Ct.sl true [.int .i64, .int .i64]]) M, .val (.sl false [.int .i64]) Q], .box [.val (.int IntKind.i64) c', .val (.int IntKind.i64) sz', .val .str bk', .val (.sl false [.sl true [.int .i64, .int .i64, .int .i64, .int .i64, .int .u32]]) T', .val (.sl true [.str, .int .i64, Ct.sl false [.sl true [.int .i64, .int .i64, .int .i64, .int .i64, .int .u32]]]) S', .val (.sl true [.str, Ct.bool, Ct.sl true [.int .i64, .int .i64]]) M', .val (.sl false [.int .i64]) Q']]) N then ((nat_lit 256 = nat_lit 256 ∧ nat_lit 0 = nat_lit 0 ∧ nat_lit 384 = nat_lit 384 ∧ nat_lit 0 = nat_lit 0) ∧ ([Ct.int IntKind.i64, Ct.int IntKind.i64, Ct.int IntKind.i64, Ct.int IntKind.i64, Ct.int IntKind.u32] = [.int .i64, .int .i64, .int .i64, .int .i64, .int .u32] ∧ [Ct.str, Ct.int IntKind.i64, Ct.sl false [Ct.sl true [Ct.int IntKind.i64, Ct.int IntKind.i64, Ct.int IntKind.i64, Ct.int IntKind.i64, Ct.int IntKind.u32]]] = [.str, .int .i64, Ct.sl false [.sl true [.int .i64, .int .i64, .int .i64, .int .i64, .int .u32]]] ∧ [Ct.str, Ct.bool, Ct.sl true [Ct.int IntKind.i64, Ct.int IntKind.i64]] = [.str, Ct.bool, Ct.sl true [.int .i64, .int .i64]]) ∧ ([Ct.int IntKind.i64, Ct.int IntKind.i64, Ct.int IntKind.i64, Ct.int IntKind.i64, Ct.int IntKind.u32] = [.int .i64, .int .i64, .int .i64, .int .i64, .int .u32] ∧ [Ct.str, Ct.int IntKind.i64, Ct.sl false [Ct.sl true [Ct.int IntKind.i64, Ct.int IntKind.i64, Ct.int IntKind.i64, Ct.int IntKind.i64, Ct.int IntKind.u32]]] = [.str, .int .i64, Ct.sl false [.sl true [.int .i64, .int .i64, .int .i64, .int .i64, .int .u32]]] ∧ [Ct.str, Ct.bool, Ct.sl true [Ct.int IntKind.i64, Ct.int IntKind.i64]] = [.str, Ct.bool, Ct.sl true [.int .i64, .int .i64]]) ∧ S.list.length = S'.list.length ∧ (0 : Int) ≤ IntKind.wrap .i64 (i.int + (1 : Int)) ∧ IntKind.wrap .i64 (i.int + (1 : Int)) ≤ (S.list.length : Int)) ∧ bif shotsE (List.drop (Int.toNat (IntKind.wrap .i64 (i.int + (1 : Int)))) S.list) (List.drop (Int.toNat (IntKind.wrap .i64 (i.int + (1 : Int)))) S'.list) then k (Ex.exit (nat_lit 0)) (St.mk [(nat_lit 4, .unk)] []) else k Ex.ret (St.mk [(nat_lit 4, .val .bool (U.b false))] []) else False else False) else False) (Alt (bif decide ((0 : Int) ≤ i.int ∧ i.int < (S.list.length : Int)) then (fun T => Alt T T) (bif decide ((0 : Int) ≤ i.int ∧ i.int < (S'.list.length : Int)) then bif !ByteArray.toList (U.str (nth (U.i (0 : Int)) (U.list (nth (U.i (0 : Int)) S.list (Int.toNat i.int))) (0 : Nat))) == ByteArray.toList (U.str (nth (U.i (0 : Int)) (U.list (nth (U.i (0 : Int)) S'.list (Int.toNat i.int))) (0 : Nat))) then k Ex.ret (St.mk [(nat_lit 4, .val .bool (U.b false))] []) else bif U.int (nth (U.i (0 : Int)) (List.tail (U.list (nth (U.i (0 : Int)) S.list (Int.toNat i.int)))) (0 : Nat)) != U.int (nth (U.i (0 : Int)) (List.tail (U.list (nth (U.i (0 : Int)) S'.list (Int.toNat i.int)))) (0 : Nat)) then k Ex.ret (St.mk [(nat_lit 4, .val .bool (U.b false))] []) else bif !tabE (U.list (nth (U.i (0 : Int)) (List.tail (List.tail (U.list (nth (U.i (0 : Int)) S.list (Int.toNat i.int))))) (0 : Nat))) (U.list (nth (U.i (0 : Int)) (List.tail (List.tail (U.list (nth (U.i (0 : Int)) S'.list (Int.toNat i.int))))) (0 : Nat))) then k Ex.ret (St.mk [(nat_lit 4, .val .bool (U.b false))] []) else bif Nat.blt (μ [.val (.int IntKind.i64) (U.i (IntKind.wrap .i64 (i.int + (1 : Int)))), .ptr (nat_lit 256) (nat_lit 0), .ptr (nat_lit 384) (nat_lit 0)] [.box [.val (.int IntKind.i64) c, .val (.int IntKind.i64) sz, .val .str bk, .val (.sl false [.sl true [.int .i64, .int .i64, .int .i64, .int .i64, .int .u32]]) T, .val (.sl true [.str, .int .i64, Ct.sl false [.sl true [.int .i64, .int .i64, .int .i64, .int .i64, .int .u32]]]) S, .val (.sl true [.str, Ct.bool, Ct.sl true [.int .i64, .int .i64]]) M, .val (.sl false [.int .i64]) Q], .box [.val (.int IntKind.i64) c', .val (.int IntKind.i64) sz', .val .str bk', .val (.sl false [.sl true [.int .i64, .int .i64, .int .i64, .int .i64, .int .u32]]) T', .val (.sl true [.str, .int .i64, Ct.sl false [.sl true [.int .i64, .int .i64, .int .i64, .int .i64, .int .u32]]]) S', .val (.sl true [.str, Ct.bool, Ct.sl true [.int .i64, .int .i64]]) M', .val (.sl false [.int .i64]) Q']]) N then ((nat_lit 256 = nat_lit 256 ∧ nat_lit 0 = nat_lit 0 ∧ nat_lit 384 = nat_lit 384 ∧ nat_lit 0 = nat_lit 0) ∧ ([Ct.int IntKind.i64, Ct.int IntKind.i64, Ct.int IntKind.i64, Ct.int IntKind.i64, Ct.int IntKind.u32] = [.int .i64, .int .i64, .int .i64, .int .i64, .int .u32] ∧ [Ct.str, Ct.int IntKind.i64, Ct.sl false [Ct.sl true [Ct.int IntKind.i64, Ct.int IntKind.i64, Ct.int IntKind.i64, Ct.int IntKind.i64, Ct.int IntKind.u32]]] = [.str, .int .i64, Ct.sl false [.sl true [.int .i64, .int .i64, .int .i64, .int .i64, .int .u32]]] ∧ [Ct.str, Ct.bool, Ct.sl true [Ct.int IntKind.i64, Ct.int IntKind.i64]] = [.str, Ct.bool, Ct.sl true [.int .i64, .int .i64]]) ∧ ([Ct.int IntKind.i64, Ct.int IntKind.i64, Ct.int IntKind.i64, Ct.int IntKind.i64, Ct.int IntKind.u32] = [.int .i64, .int .i64, .int .i64, .int .i64, .int .u32] ∧ [Ct.str, Ct.int IntKind.i64, Ct.sl false [Ct.sl true [Ct.int IntKind.i64, Ct.int IntKind.i64, Ct.int IntKind.i64, Ct.int IntKind.i64, Ct.int IntKind.u32]]] = [.str, .int .i64, Ct.sl false [.sl true [.int .i64, .int .i64, .int .i64, .int .i64, .int .u32]]] ∧ [Ct.str, Ct.bool, Ct.sl true [Ct.int IntKind.i64, Ct.int IntKind.i64]] = [.str, Ct.bool, Ct.sl true [.int .i64, .int .i64]]) ∧ S.list.length = S'.list.length ∧ (0 : Int) ≤ IntKind.wrap .i64 (i.int + (1 : Int)) ∧ IntKind.wrap .i64 (i.int + (1 : Int)) ≤ (S.list.length : Int)) ∧ bif shotsE (List.drop (Int.toNat (IntKind.wrap .i64 (i.int + (1 : Int)))) S.list) (List.drop (Int.toNat (IntKind.wrap .i64 (i.int + (1 : Int)))) S'.list) then k (Ex.exit (nat_lit 0)) (St.mk [(nat_lit 4, .unk)] []) else k Ex.ret (St.mk [(nat_lit 4, .val .bool (U.b false))] []) else False else False) else False) (bif decide ((0 : Int) ≤ i.int ∧ i.int < (S'.list.length : Int)) then bif decide ((0 : Int) ≤ i.int ∧ i.int < (S.list.length : Int)) then bif !ByteArray.toList (U.str (nth (U.i (0 : Int)) (U.list (nth (U.i (0 : Int)) S.list (Int.toNat i.int))) (0 : Nat))) == ByteArray.toList (U.str (nth (U.i (0 : Int)) (U.list (nth (U.i (0 : Int)) S'.list (Int.toNat i.int))) (0 : Nat))) then k Ex.ret (St.mk [(nat_lit 4, .val .bool (U.b false))] []) else bif U.int (nth (U.i (0 : Int)) (List.tail (U.list (nth (U.i (0 : Int)) S.list (Int.toNat i.int)))) (0 : Nat)) != U.int (nth (U.i (0 : Int)) (List.tail (U.list (nth (U.i (0 : Int)) S'.list (Int.toNat i.int)))) (0 : Nat)) then k Ex.ret (St.mk [(nat_lit 4, .val .bool (U.b false))] []) else bif !tabE (U.list (nth (U.i (0 : Int)) (List.tail (List.tail (U.list (nth (U.i (0 : Int)) S.list (Int.toNat i.int))))) (0 : Nat))) (U.list (nth (U.i (0 : Int)) (List.tail (List.tail (U.list (nth (U.i (0 : Int)) S'.list (Int.toNat i.int))))) (0 : Nat))) then k Ex.ret (St.mk [(nat_lit 4, .val .bool (U.b false))] []) else bif Nat.blt (μ [.val (.int IntKind.i64) (U.i (IntKind.wrap .i64 (i.int + (1 : Int)))), .ptr (nat_lit 256) (nat_lit 0), .ptr (nat_lit 384) (nat_lit 0)] [.box [.val (.int IntKind.i64) c, .val (.int IntKind.i64) sz, .val .str bk, .val (.sl false [.sl true [.int .i64, .int .i64, .int .i64, .int .i64, .int .u32]]) T, .val (.sl true [.str, .int .i64, Ct.sl false [.sl true [.int .i64, .int .i64, .int .i64, .int .i64, .int .u32]]]) S, .val (.sl true [.str, Ct.bool, Ct.sl true [.int .i64, .int .i64]]) M, .val (.sl false [.int .i64]) Q], .box [.val (.int IntKind.i64) c', .val (.int IntKind.i64) sz', .val .str bk', .val (.sl false [.sl true [.int .i64, .int .i64, .int .i64, .int .i64, .int .u32]]) T', .val (.sl true [.str, .int .i64, Ct.sl false [.sl true [.int .i64, .int .i64, .int .i64, .int .i64, .int .u32]]]) S', .val (.sl true [.str, Ct.bool, Ct.sl true [.int .i64, .int .i64]]) M', .val (.sl false [.int .i64]) Q']]) N then ((nat_lit 256 = nat_lit 256 ∧ nat_lit 0 = nat_lit 0 ∧ nat_lit 384 = nat_lit 384 ∧ nat_lit 0 = nat_lit 0) ∧ ([Ct.int IntKind.i64, Ct.int IntKind.i64, Ct.int IntKind.i64, Ct.int IntKind.i64, Ct.int IntKind.u32] = [.int .i64, .int .i64, .int .i64, .int .i64, .int .u32] ∧ [Ct.str, Ct.int IntKind.i64, Ct.sl false [Ct.sl true [Ct.int IntKind.i64, Ct.int IntKind.i64, Ct.int IntKind.i64, Ct.int IntKind.i64, Ct.int IntKind.u32]]] = [.str, .int .i64, Ct.sl false [.sl true [.int .i64, .int .i64, .int .i64, .int .i64, .int .u32]]] ∧ [Ct.str, Ct.bool, Ct.sl true [Ct.int IntKind.i64, Ct.int IntKind.i64]] = [.str, Ct.bool, Ct.sl true [.int .i64, .int .i64]]) ∧ ([Ct.int IntKind.i64, Ct.int IntKind.i64, Ct.int IntKind.i64, Ct.int IntKind.i64, Ct.int IntKind.u32] = [.int .i64, .int .i64, .int .i64, .int .i64, .int .u32] ∧ [Ct.str, Ct.int IntKind.i64, Ct.sl false [Ct.sl true [Ct.int IntKind.i64, Ct.int IntKind.i64, Ct.int IntKind.i64, Ct.int IntKind.i64, Ct.int IntKind.u32]]] = [.str, .int .i64, Ct.sl false [.sl true [.int .i64, .int .i64, .int .i64, .int .i64, .int .u32]]] ∧ [Ct.str, Ct.bool, Ct.sl true [Ct.int IntKind.i64, Ct.int IntKind.i64]] = [.str, Ct.bool, Ct.sl true [.int .i64, .int .i64]]) ∧ S.list.length = S'.list.length ∧ (0 : Int) ≤ IntKind.wrap .i64 (i.int + (1 : Int)) ∧ IntKind.wrap .i64 (i.int + (1 : Int)) ≤ (S.list.length : Int)) ∧ bif shotsE (List.drop (Int.toNat (IntKind.wrap .i64 (i.int + (1 : Int)))) S.list) (List.drop (Int.toNat (IntKind.wrap .i64 (i.int + (1 : Int)))) S'.list) then k (Ex.exit (nat_lit 0)) (St.mk [(nat_lit 4, .unk)] []) else k Ex.ret (St.mk [(nat_lit 4, .val .bool (U.b false))] []) else False else False else False)))))) else k (Ex.exit (nat_lit 0)) (St.mk [(nat_lit 4, .unk)] [])) := by kernel_rfl
theorem same_tree (R : RF) (c sz bk T S M Q c' sz' bk' T' S' M' Q' : U) : (run sameC Try.f17 [[c, sz, bk, T, S, M, Q], [c', sz', bk', T', S', M', Q']] R) = (bif c.int != c'.int then R [[U.b false]] else bif sz.int != sz'.int then R [[U.b false]] else bif !ByteArray.toList bk.str == ByteArray.toList bk'.str then R [[U.b false]] else bif (S.list.length : Int) != (S'.list.length : Int) then R [[U.b false]] else bif !tabE T.list T'.list then R [[U.b false]] else bif !mapsE M.list M'.list then R [[U.b false]] else bif !intsE Q.list Q'.list then R [[U.b false]] else ((nat_lit 256 = nat_lit 256 ∧ nat_lit 0 = nat_lit 0 ∧ nat_lit 384 = nat_lit 384 ∧ nat_lit 0 = nat_lit 0) ∧ ([Ct.int IntKind.i64, Ct.int IntKind.i64, Ct.int IntKind.i64, Ct.int IntKind.i64, Ct.int IntKind.u32] = [.int .i64, .int .i64, .int .i64, .int .i64, .int .u32] ∧ [Ct.str, Ct.int IntKind.i64, Ct.sl false [Ct.sl true [Ct.int IntKind.i64, Ct.int IntKind.i64, Ct.int IntKind.i64, Ct.int IntKind.i64, Ct.int IntKind.u32]]] = [.str, .int .i64, Ct.sl false [.sl true [.int .i64, .int .i64, .int .i64, .int .i64, .int .u32]]] ∧ [Ct.str, Ct.bool, Ct.sl true [Ct.int IntKind.i64, Ct.int IntKind.i64]] = [.str, Ct.bool, Ct.sl true [.int .i64, .int .i64]]) ∧ ([Ct.int IntKind.i64, Ct.int IntKind.i64, Ct.int IntKind.i64, Ct.int IntKind.i64, Ct.int IntKind.u32] = [.int .i64, .int .i64, .int .i64, .int .i64, .int .u32] ∧ [Ct.str, Ct.int IntKind.i64, Ct.sl false [Ct.sl true [Ct.int IntKind.i64, Ct.int IntKind.i64, Ct.int IntKind.i64, Ct.int IntKind.i64, Ct.int IntKind.u32]]] = [.str, .int .i64, Ct.sl false [.sl true [.int .i64, .int .i64, .int .i64, .int .i64, .int .u32]]] ∧ [Ct.str, Ct.bool, Ct.sl true [Ct.int IntKind.i64, Ct.int IntKind.i64]] = [.str, Ct.bool, Ct.sl true [.int .i64, .int .i64]]) ∧ S.list.length = S'.list.length ∧ (0 : Int) ≤ (0 : Int) ∧ (0 : Int) ≤ (S.list.length : Int)) ∧ bif shotsE (List.drop (Int.toNat (0 : Int)) S.list) (List.drop (Int.toNat (0 : Int)) S'.list) then R [[U.b true]] else R [[U.b false]]) := by kernel_rfl
end Go.Mat

namespace Go.Mat
open Go Go.Den Go.Proofs
theorem shotsE_len : ∀ {a b : List U}, shotsE a b = true → a.length = b.length
  | [], [], _ => rfl
  | [], _ :: _, h => by cases h
  | _ :: _, [], h => by cases h
  | x :: r, y :: s, h => by
    rw [shotsE, Bool.and_eq_true] at h
    rw [List.length_cons, List.length_cons, shotsE_len h.2]
theorem shotsE_ne {a b : List U} (h : a.length ≠ b.length) : shotsE a b = false := Bool.eq_false_iff.2 fun h' => h (shotsE_len h')
theorem same_loop : LoopOk sameC 0 (loopBody Try.f17 0) := by
  refine loopOk_of (F := sameLoop) (ts := [5, 2, 3]) (os := [256, 384]) rfl (fun svs os => match svs, os with | .val _ i :: _, .box [_, _, _, _, .val _ S, _, _] :: _ => ((S.list.length : Int) - i.int).toNat | _, _ => 0) ?_
  intro pan svs os k ho1 ho2 h
  unfold sameLoop at h
  split at h
  · rename_i i p o p' o'
    split at h
    · rename_i c sz bk x1 T x2 S x3 M Q c' sz' bk' y1 T' y2 S' y3 M' Q'
      obtain ⟨⟨⟨rfl, rfl, rfl, rfl⟩, ⟨rfl, rfl, rfl⟩, ⟨rfl, rfl, rfl⟩, hl, h0, hi⟩, hk⟩ := h
      have hL : S.list.length ≤ maxLen := ho2.1.2.2.2.2.1.1
      unfold maxLen at hL
      refine .eq (same_round pan _ _ k i c sz bk T S M Q c' sz' bk' T' S' M' Q') ?_
      refine bd (fun hlt => ?_) (fun hlt => ?_)
      · rw [drop_at (by omega), drop_at (L := S'.list) (by omega), shotsE] at hk
        simp only [U.at, shotE, e0, e1, e2] at hk
        have hw : IntKind.wrap .i64 (i.int + 1) = i.int + 1 := i64_in (by omega) (by omega)
        have hc : (i.int + 1).toNat = i.int.toNat + 1 := by omega
        have hlt' : ((S.list.length : Int) - (i.int + 1)).toNat < ((S.list.length : Int) - i.int).toNat := by omega
        have hb1 : decide (0 ≤ i.int ∧ i.int < (S.list.length : Int)) = true := decide_eq_true ⟨h0, hlt⟩
        have hb2 : decide (0 ≤ i.int ∧ i.int < (S'.list.length : Int)) = true := decide_eq_true ⟨h0, by omega⟩
        simp only [hb1, hb2, cond_true, Alt_self, nth_tail, nth_drop, Nat.zero_add, Nat.add_zero, Nat.reduceAdd, hw, hc]
        refine bi (fun h1 => ?_) (fun h1 => bi (fun h2 => ?_) (fun h2 => bi (fun h3 => ?_) (fun h3 => ?_)))
        · rw [nt h1, Bool.false_and, Bool.false_and, Bool.false_and] at hk; exact hk
        · rw [nf h1, nt h2, Bool.true_and, Bool.false_and, Bool.false_and] at hk; exact hk
        · rw [nf h1, nf h2, nt h3, Bool.true_and, Bool.true_and, Bool.false_and] at hk; exact hk
        · rw [nf h1, nf h2, nf h3, Bool.true_and, Bool.true_and, Bool.true_and] at hk
          exact blt hlt' ⟨⟨⟨by trivial, by trivial, by trivial, by trivial⟩, ⟨by trivial, by trivial, by trivial⟩, ⟨by trivial, by trivial, by trivial⟩, hl, by omega, by omega⟩, hk⟩
      · rw [List.drop_of_length_le (by omega), List.drop_of_length_le (by omega), shotsE] at hk
        exact hk
    · exact h.elim
  · exact h.elim
theorem same_ok : SpecF PR 17 sameS := fun fn us hfn => by
  have hf : PR.funcs[(17 : Nat)]? = some Try.f17 := by kernel_rfl
  rw [hf] at hfn; cases hfn
  refine fn_okH (C := sameC) (mkC_ok eqs1_ok mixed_ok (.cons tabE_ok (.cons mps_ok (.cons ints_ok .nil))) .nil) hf (by kernel_rfl) (loops_one (by kernel_rfl) same_loop) fun hok => ?_
  have hp : Try.f17.params.toList = [29, 29] := by kernel_rfl
  rw [hp] at hok
  obtain ⟨c, sz, bk, T, S, M, Q, c', sz', bk', T', S', M', Q', hus⟩ : ∃ c sz bk T S M Q c' sz' bk' T' S' M' Q', us = [[c, sz, bk, T, S, M, Q], [c', sz', bk', T', S', M', Q']] := by
    obtain ⟨u, u2, rfl, h1, h2⟩ := shape2 (by kernel_rfl : Cs PR 29 = some (true, [.int .i64, .int .i64, .str, .sl false [.sl true EC], .sl true SC, .sl true BC, .sl false [.int .i64]])) (by kernel_rfl : Cs PR 29 = some (true, [.int .i64, .int .i64, .str, .sl false [.sl true EC], .sl true SC, .sl true BC, .sl false [.int .i64]])) hok.1
    obtain ⟨c, sz, bk, T, S, M, Q, rfl⟩ := len7 h1
    obtain ⟨c', sz', bk', T', S', M', Q', rfl⟩ := len7 h2
    exact ⟨c, sz, bk, T, S, M, Q, c', sz', bk', T', S', M', Q', rfl⟩
  subst hus
  refine .eq (same_tree _ c sz bk T S M Q c' sz' bk' T' S' M' Q') ?_
  have hS : sameS [[c, sz, bk, T, S, M, Q], [c', sz', bk', T', S', M', Q']] = [[.b (metaEq c sz bk T S M Q c' sz' bk' T' S' M' Q')]] := rfl
  rw [hS]
  unfold metaEq
  simp only [Int.toNat_zero, List.drop_zero]
  refine bi (fun h => by rw [nt h]; rfl) (fun h1 => bi (fun h => by rw [nf h1, nt h]; rfl) (fun h2 => bi (fun h => by rw [nf h1, nf h2, nt h]; rfl) (fun h3 => bi (fun h => ?_) (fun h4 => ?_))))
  · have h := nt h
    rw [shotsE_ne (by intro h2; rw [h2] at h; simp at h), Bool.and_false]
  have h4 := nf h4
  simp only [beq_iff_eq] at h4
  refine bi (fun h => by rw [nf h1, nf h2, nf h3, nt h]; rfl) (fun h5 => bi (fun h => by rw [nf h1, nf h2, nf h3, nf h5, nt h]; rfl) (fun h6 => bi (fun h => by rw [nf h1, nf h2, nf h3, nf h5, nf h6, nt h]; rfl) (fun h7 => ⟨⟨⟨by trivial, by trivial, by trivial, by trivial⟩, ⟨by trivial, by trivial, by trivial⟩, ⟨by trivial, by trivial, by trivial⟩, by omega, by omega, by omega⟩, ?_⟩)))
  rw [nf h1, nf h2, nf h3, nf h5, nf h6, nf h7]
  exact bi (fun h => by rw [h]; rfl) (fun h => by rw [h]; rfl)
end Go.Mat

namespace Go.Mat
open Go Go.Den Go.Proofs
theorem num_list1 {v : Int} (h0 : 0 ≤ v) (h : v ≤ 255) : num [] 1 v = [.i (v % 256)] := by
  unfold num putX
  rw [good1 h0 h, if_pos rfl, u64_in h0 (by omega)]
  show [U.i (byteAt v 0)] = _
  unfold byteAt
  simp
theorem num_list2 {v : Int} (h0 : 0 ≤ v) (h : v ≤ 65535) : num [] 2 v = [.i (v % 256), .i (v / 256 % 256)] := by
  unfold num putX
  rw [good2 h0 h, if_pos rfl, u64_in h0 (by omega)]
  show [U.i (byteAt v 0), U.i (byteAt v 1)] = _
  unfold byteAt
  simp
theorem num_list4 {v : Int} (h0 : 0 ≤ v) (h : v ≤ 4294967295) : num [] 4 v = [.i (v % 256), .i (v / 256 % 256), .i (v / 65536 % 256), .i (v / 16777216 % 256)] := by
  unfold num putX
  rw [good4 h0 h, if_pos rfl, u64_in h0 (by omega)]
  show [U.i (byteAt v 0), U.i (byteAt v 1), U.i (byteAt v 2), U.i (byteAt v 3)] = _
  unfold byteAt
  simp
theorem entB_list {a b c d e k : Int} (h : mayR a b c d e k = true) (he : 0 ≤ e ∧ e ≤ 4294967295) : entB a b c d e = .i a :: .i 0 :: (num [] 2 c ++ (num [] 4 b ++ (num [] 4 d ++ num [] 4 e))) := by
  obtain ⟨ha0, ha, hb0, hb, hc0, hc, hd0, hd⟩ := may_low h
  have hw : IntKind.wrap .i64 e = e := i64_in (by omega) (by omega)
  have hw8 : IntKind.wrap .u8 a = a := by rw [u8_wrap]; omega
  unfold entB
  rw [hw, hw8, num_app (v := e) (good4 he.1 he.2), num_app (v := d) (good4 (by omega) (by omega)), num_app (v := b) (good4 (by omega) (by omega)), num_app (v := c) (good2 (by omega) (by omega))]
  simp
theorem tableR_parts {L : List U} {n c : Int} (h : tableR L n c = true) : leavesR n c 0 L = true ∧ lastOk L = true := by
  unfold tableR at h
  split at h
  · cases h
  · refine ⟨h, ?_⟩
    rw [leavesR_eq, Bool.and_eq_true] at h
    exact h.1
theorem tabX_is {L : List U} {n c : Int} (hl : L.length ≤ 1099511627776) (h : tableR L n c = true) (hs : tabOk L) : tabX L c = tputB L c := by
  have h1 := (tabX_eq hl h hs).1
  have h2 := countB_le L
  unfold tabX at h1 ⊢
  cases hb : tableR L 4096 c with
  | true => rfl
  | false => rw [hb] at h1; simp at h1; omega
def shotGood (c : Int) (s : U) : Prop := shotOk s ∧ tabOk (e2 s).list ∧ ∃ n, tableR (e2 s).list n c = true
theorem intsE_iff : ∀ {a b : List U}, intsE a b = true ↔ a.map U.int = b.map U.int
  | [], [] => by simp [intsE]
  | [], _ :: _ => by simp [intsE]
  | _ :: _, [] => by simp [intsE]
  | x :: r, y :: s => by
    rw [intsE, Bool.and_eq_true, intsE_iff, List.map_cons, List.map_cons, List.cons.injEq, beq_iff_eq]
theorem lead_take (x : Int) : ∀ (l : List U) (n : Int), (l.take (lead x n l - n).toNat).map U.int = List.replicate (lead x n l - n).toNat x
  | [], n => by simp [lead]
  | y :: r, n => by
    unfold lead
    cases h : decide (n < 65535) && (y.int == x) with
    | false => simp
    | true =>
      rw [Bool.and_eq_true, beq_iff_eq] at h
      have h1 := lead_ge x r (n + 1)
      have h2 := lead_take x r (n + 1)
      rw [cond_true, show (lead x (n + 1) r - n).toNat = (lead x (n + 1) r - (n + 1)).toNat + 1 by omega, List.take_succ_cons, List.map_cons, h2, h.2]
      rfl
def isByte (u : U) : Prop := ∃ n : Nat, n < 256 ∧ u = .i n
structure allBytes (l : List U) : Prop where
  all : ∀ u ∈ l, isByte u
theorem allBytes.app {l m : List U} (h : allBytes l) (k : allBytes m) : allBytes (l ++ m) := ⟨fun u hu => (List.mem_append.1 hu).elim (h.all u) (k.all u)⟩
theorem allBytes.nil : allBytes [] := ⟨fun u hu => by cases hu⟩
theorem putFrom_bytes (g : Bool) (m v : Int) : ∀ (n : Nat) (i : Int), allBytes (putFrom g m v i n)
  | 0, _ => allBytes.nil
  | n + 1, i => ⟨fun u hu => by
    rw [putFrom] at hu
    rcases List.mem_cons.1 hu with rfl | hu
    · unfold byteAt
      generalize v / 2 ^ (8 * (if g = true then m - 1 - i else i)).toNat = y
      exact ⟨(y % 256).toNat, by omega, by rw [Int.toNat_of_nonneg (by omega)]⟩
    · exact (putFrom_bytes g m v n (i + 1)).all u hu⟩
theorem num_bytes (n v : Int) : allBytes (num [] n v) := by
  unfold num putX
  split
  · rw [List.nil_append]; exact putFrom_bytes ..
  · exact allBytes.nil
theorem strU_bytes (s : ByteArray) : allBytes (strU s) := ⟨fun u hu => by
  obtain ⟨b, _, rfl⟩ := List.mem_map.1 hu
  exact ⟨b.toNat, b.toNat_lt, rfl⟩⟩
theorem text_bytes (s : ByteArray) : allBytes (textB [] s) := by
  unfold textB
  cases longB s with
  | true => exact allBytes.nil
  | false => exact (num_bytes ..).app (strU_bytes s)
theorem leaf_bytes {n c i : Int} : ∀ {l : List U} {k : Int}, entsR n c i k l = true → (∀ e ∈ l, sumOk e) → allBytes (leafB c l)
  | [], _, _, _ => allBytes.nil
  | e :: r, k, h, hs => by
    rw [entsR, Bool.and_eq_true] at h
    have h1 := h.1
    unfold entOk at h1
    rw [Bool.and_eq_true] at h1
    obtain ⟨ha0, ha, _⟩ := may_low h1.1
    rw [leafB, entX, h1.1, cond_true, entB_list h1.1 (hs e (List.mem_cons_self ..))]
    refine allBytes.app ⟨fun u hu => ?_⟩ (leaf_bytes h.2 fun e he => hs e (List.mem_cons_of_mem _ he))
    rcases List.mem_cons.1 hu with rfl | hu
    · exact ⟨(e0 e).int.toNat, by omega, by rw [Int.toNat_of_nonneg ha0]⟩
    rcases List.mem_cons.1 hu with rfl | hu
    · exact ⟨0, by omega, rfl⟩
    · exact ((num_bytes ..).app ((num_bytes ..).app ((num_bytes ..).app (num_bytes ..)))).all u hu
theorem leaves_bytes {n c : Int} : ∀ {L : List U} {i : Int}, leavesR n c i L = true → tabOk L → allBytes (leavesB c i L)
  | [], _, _, _ => allBytes.nil
  | l :: t, i, h, hs => by
    rw [leavesR] at h
    have key : leavesR n c (i + 1) t = true ∧ (l.list = [] ∨ entsR n c i 0 l.list = true) := by
      split at h
      · rename_i hh; exact ⟨h, .inl hh.1⟩
      · rw [Bool.and_eq_true] at h
        have h1 := h.1
        unfold leafR at h1
        simp only [Bool.and_eq_true, decide_eq_true_eq] at h1
        exact ⟨h.2, .inr h1.1.2⟩
    rw [leavesB]
    refine allBytes.app ?_ (leaves_bytes key.1 fun l hl => hs l (List.mem_cons_of_mem _ hl))
    rcases key.2 with hl | he
    · rw [hl]; exact allBytes.nil
    · cases decide (l.list = []) with
      | true => exact allBytes.nil
      | false => exact (num_bytes ..).app (leaf_bytes he (hs l (List.mem_cons_self ..)))
theorem tab_bytes {L : List U} {n c : Int} (hl : L.length ≤ 1099511627776) (h : tableR L n c = true) (hs : tabOk L) : allBytes (tabX L c) := by
  rw [tabX_is hl h hs]
  exact (num_bytes ..).app (leaves_bytes (tableR_parts h).1 hs)
theorem spans_bytes : ∀ L : List U, allBytes (spansB L)
  | [] => allBytes.nil
  | _ :: r => ((num_bytes ..).app (num_bytes ..)).app (spans_bytes r)
theorem maps_bytes : ∀ L : List U, allBytes (mapsB L)
  | [] => allBytes.nil
  | b :: r => by
    rw [mapsB, mapB]
    exact ((((text_bytes _).app (num_bytes ..)).app (num_bytes ..)).app (spans_bytes _)).app (maps_bytes r)
theorem shots_bytes {c : Int} : ∀ {L : List U}, (∀ x ∈ L, shotGood c x) → allBytes (shotsB c L)
  | [], _ => allBytes.nil
  | s :: r, h => by
    obtain ⟨⟨_, _, _, x4⟩, x5, n, x6⟩ := h s (List.mem_cons_self ..)
    rw [shotsB]
    exact (((text_bytes _).app (num_bytes ..)).app (tab_bytes x4 x6 x5)).app (shots_bytes fun x hx => h x (List.mem_cons_of_mem _ hx))
theorem runs_bytes : ∀ (l : List U) (x n : Int), allBytes (runsB x n l)
  | [], _, _ => (num_bytes ..).app (num_bytes ..)
  | y :: r, x, n => by
    rw [runsB]
    cases decide (n < 65535) && (y.int == x) with
    | true => exact runs_bytes r ..
    | false => exact ((num_bytes ..).app (num_bytes ..)).app (runs_bytes r ..)
theorem counts_bytes (L : List U) : allBytes (countsB L) := by
  cases L with
  | nil => exact allBytes.nil
  | cons x r => exact runs_bytes ..
structure Good (c sz bk T S M Q : U) : Prop extends RightFacts c sz bk T S M Q where
  tl : T.list.length ≤ 1099511627776
  ts : tabOk T.list
  sg : ∀ s ∈ S.list, shotGood c.int s
  ql : Q.list.length ≤ 65536
theorem good_bytes {c sz bk T S M Q : U} (g : Good c sz bk T S M Q) : allBytes (metaB c.int sz.int bk.str T.list S.list M.list Q.list) := by
  unfold metaB
  exact (((((((((num_bytes ..).app (num_bytes ..)).app (text_bytes _)).app (tab_bytes g.tl g.t g.ts)).app (num_bytes ..)).app (shots_bytes g.sg)).app (num_bytes ..)).app (maps_bytes _)).app (num_bytes ..)).app (counts_bytes _)
theorem str_of_list {s t : ByteArray} (h : s.toList = t.toList) : s = t := by
  rw [ByteArray.toList_eq, ByteArray.toList_eq] at h
  exact ByteArray.ext (Array.ext' h)
theorem ent_same {x y : U} (h : entE x y = true) : (e0 x).int = (e0 y).int ∧ (e1 x).int = (e1 y).int ∧ (e2 x).int = (e2 y).int ∧ (e3 x).int = (e3 y).int ∧ (e4 x).int = (e4 y).int := by
  unfold entE at h
  simpa using h
theorem leaf_same {c : Int} : ∀ {l m : List U}, entsE l m = true → leafB c l = leafB c m
  | [], [], _ => rfl
  | [], _ :: _, h => by cases h
  | _ :: _, [], h => by cases h
  | x :: l, y :: m, h => by
    rw [entsE, Bool.and_eq_true] at h
    obtain ⟨h0, h1, h2, h3, h4⟩ := ent_same h.1
    rw [leafB, leafB, entX, entX, h0, h1, h2, h3, h4, leaf_same h.2]
theorem nil_same {l m : List U} (h : entsE l m = true) : decide (l = []) = decide (m = []) := by
  have := entsE_len h
  cases l <;> cases m <;> first | rfl | simp at this
theorem leaves_same {c : Int} : ∀ {L M : List U} {i : Int}, tabE L M = true → leavesB c i L = leavesB c i M ∧ countB L = countB M
  | [], [], _, _ => ⟨rfl, rfl⟩
  | [], _ :: _, _, h => by cases h
  | _ :: _, [], _, h => by cases h
  | x :: l, y :: m, i, h => by
    rw [tabE, Bool.and_eq_true] at h
    obtain ⟨h1, h2⟩ := leaves_same (c := c) (i := i + 1) h.2
    rw [leavesB, leavesB, countB, countB, nil_same h.1, leaf_same h.1, h1, h2]
    exact ⟨rfl, rfl⟩
theorem spans_same : ∀ {L M : List U}, spansE L M = true → spansB L = spansB M
  | [], [], _ => rfl
  | [], _ :: _, h => by cases h
  | _ :: _, [], h => by cases h
  | x :: l, y :: m, h => by
    rw [spansE, Bool.and_eq_true, spanE] at h
    simp only [Bool.and_true, Bool.and_eq_true, beq_iff_eq] at h
    rw [spansB, spansB, h.1.1, h.1.2, spans_same h.2]
theorem maps_same : ∀ {L M : List U}, mapsE L M = true → mapsB L = mapsB M
  | [], [], _ => rfl
  | [], _ :: _, h => by cases h
  | _ :: _, [], h => by cases h
  | x :: l, y :: m, h => by
    rw [mapsE, Bool.and_eq_true, mapE] at h
    simp only [Bool.and_eq_true, beq_iff_eq] at h
    obtain ⟨⟨⟨h1, h2⟩, h3⟩, h4⟩ := h
    rw [mapsB, mapsB, mapB, mapB, str_of_list h1, h2, spansE_len h3, spans_same h3, maps_same h4]
theorem counts_same {L M : List U} (h : L.map U.int = M.map U.int) : countsB L = countsB M := by
  have key : ∀ (L M : List U) (x n : Int), L.map U.int = M.map U.int → runsB x n L = runsB x n M := by
    intro L
    induction L with
    | nil => intro M x n h; cases M with
      | nil => rfl
      | cons y m => simp at h
    | cons a l ih => intro M x n h; cases M with
      | nil => simp at h
      | cons y m =>
        rw [List.map_cons, List.map_cons, List.cons.injEq] at h
        rw [runsB, runsB, h.1, ih m _ _ h.2, ih m _ _ h.2]
  cases L with
  | nil => cases M with
    | nil => rfl
    | cons y m => simp at h
  | cons x l => cases M with
    | nil => simp at h
    | cons y m =>
      rw [List.map_cons, List.map_cons, List.cons.injEq] at h
      rw [countsB, countsB, h.1]
      exact key _ _ _ _ h.2
theorem tab_same {L M : List U} {n n' c : Int} (hl : L.length ≤ 1099511627776) (hm : M.length ≤ 1099511627776) (hx : tableR L n c = true) (hy : tableR M n' c = true) (sx : tabOk L) (sy : tabOk M) (h : tabE L M = true) : tabX L c = tabX M c := by
  rw [tabX_is hl hx sx, tabX_is hm hy sy, tputB, tputB, (leaves_same h).1, (leaves_same (c := c) (i := 0) h).2]
theorem shots_same {c : Int} : ∀ {L M : List U}, (∀ x ∈ L, shotGood c x) → (∀ x ∈ M, shotGood c x) → shotsE L M = true → shotsB c L = shotsB c M
  | [], [], _, _, _ => rfl
  | [], _ :: _, _, _, h => by cases h
  | _ :: _, [], _, _, h => by cases h
  | x :: l, y :: m, hx, hy, h => by
    obtain ⟨⟨_, _, _, x4⟩, x5, n, x6⟩ := hx x (List.mem_cons_self ..)
    obtain ⟨⟨_, _, _, y4⟩, y5, n', y6⟩ := hy y (List.mem_cons_self ..)
    rw [shotsE, Bool.and_eq_true, shotE] at h
    simp only [Bool.and_eq_true, beq_iff_eq] at h
    obtain ⟨⟨⟨h1, h2⟩, h3⟩, h4⟩ := h
    rw [shotsB, shotsB, str_of_list h1, h2, tab_same x4 y4 x6 y6 x5 y5 h3, shots_same (fun e he => hx e (List.mem_cons_of_mem _ he)) (fun e he => hy e (List.mem_cons_of_mem _ he)) h4]
theorem metaB_same {c sz bk T S M Q c' sz' bk' T' S' M' Q' : U} (g : Good c sz bk T S M Q) (g' : Good c' sz' bk' T' S' M' Q') (h : metaEq c sz bk T S M Q c' sz' bk' T' S' M' Q' = true) :
    metaB c.int sz.int bk.str T.list S.list M.list Q.list = metaB c'.int sz'.int bk'.str T'.list S'.list M'.list Q'.list := by
  unfold metaEq at h
  simp only [Bool.and_eq_true, beq_iff_eq] at h
  obtain ⟨⟨⟨⟨⟨⟨h1, h2⟩, h3⟩, h4⟩, h5⟩, h6⟩, h7⟩ := h
  have ht' := g'.t
  have hs' := g'.sg
  rw [← h1] at ht' hs'
  unfold metaB
  rw [← h1, h2, str_of_list h3, tab_same g.tl g'.tl g.t ht' g.ts g'.ts h4, shotsE_len h7, shots_same g.sg hs' h7, mapsE_len h5, maps_same h5, intsE_len h6, counts_same (intsE_iff.1 h6)]
end Go.Mat

namespace Go.Mat
open Go Go.Den Go.Proofs
theorem good_of {c sz bk T S M Q : U} (hg : metaG bk T S M Q = false) (hr : rmetaR c sz bk T S M Q = true) (hT : okC (.sl false [.sl true EC]) T) (hS : okC (.sl true SC) S) :
    Good c sz bk T S M Q ∧ metaE c sz bk T S M Q = 0 ∧ metaX c sz bk T S M Q = metaB c.int sz.int bk.str T.list S.list M.list Q.list := by
  have hsz := metaG_low hg
  have hR := right_facts hsz.1 hsz.2.1 hr
  obtain ⟨_, hL, _⟩ := metaB_len hg hR (tab_sums hT) (shot_sums hS)
  rw [rmetaR_eq hsz.1 hsz.2.1] at hr
  refine ⟨{ hR with tl := hsz.1, ts := tab_sums hT, ql := hR.q, sg := fun s hs => ?_ }, ?_, ?_⟩
  · obtain ⟨h1, h2, h3, h4⟩ := hR.shots s hs
    exact ⟨⟨by omega, h2, by omega, hsz.2.1 s hs⟩, shot_sums hS s hs, h4⟩
  · unfold metaE; rw [hr, hL]; rfl
  · unfold metaX; rw [hr, hL]; rfl
end Go.Mat

namespace Go.Mat
open Go Go.Den Go.Proofs
def thereR (b : List U) (at_ n : Int) : Bool := decide (0 ≤ at_) && decide (at_ ≤ b.length) && decide (n ≤ b.length - at_)
def sub (b : List U) (at_ n : Int) : List U := (b.take (at_ + n).toNat).drop at_.toNat
def thereP : List (List U) → Prop := fun us => 0 ≤ (nth (.i 0) (nth [] us 2) 0).int ∧ (nth (.i 0) (nth [] us 2) 0).int ≤ 1099511627776 ∧ (nth (.i 0) (nth [] us 0) 0).list.length ≤ 1099511627776
def thereS : List (List U) → List (List U) := fun us => [[.l (bif thereR (nth (.i 0) (nth [] us 0) 0).list (nth (.i 0) (nth [] us 1) 0).int (nth (.i 0) (nth [] us 2) 0).int then sub (nth (.i 0) (nth [] us 0) 0).list (nth (.i 0) (nth [] us 1) 0).int (nth (.i 0) (nth [] us 2) 0).int else [])],
  [.b (thereR (nth (.i 0) (nth [] us 0) 0).list (nth (.i 0) (nth [] us 1) 0).int (nth (.i 0) (nth [] us 2) 0).int)]]
theorem there_tree (R : RF) (b a n : U) : (run K0 Try.f80 [[b], [a], [n]] R) = (bif decide (U.int a < (0 : Int)) then R [[U.l []], [U.b false]] else bif decide (U.int a > (↑(List.length (U.list b)) : Int)) then R [[U.l []], [U.b false]] else bif decide (U.int n > IntKind.wrap IntKind.i64
  ((↑(List.length (U.list b)) : Int) - U.int a)) then R [[U.l []], [U.b false]] else bif decide ((0 : Int) ≤ U.int a ∧ U.int a ≤ IntKind.wrap IntKind.i64 (U.int a + U.int n) ∧ IntKind.wrap IntKind.i64 (U.int
  a + U.int n) ≤ IntKind.wrap IntKind.i64 (U.int a + U.int n) ∧ IntKind.wrap IntKind.i64 (U.int a + U.int n) ≤ (↑(List.length (U.list b)) : Int)) && true then R [[U.l (List.drop (Int.toNat (U.int a)) (List.take
  (Int.toNat (IntKind.wrap IntKind.i64 (U.int a + U.int n))) (U.list b)))], [U.b true]] else False) := by kernel_rfl
def leV : List U → Int
  | [] => 0
  | u :: r => u.int + 256 * leV r
def byteOk (b : List U) : Prop := ∀ u ∈ b, 0 ≤ u.int ∧ u.int ≤ 255
def getN (b : List U) (at_ n : Int) : Int := bif thereR b at_ n then leV (sub b at_ n) else 0
def getE (b : List U) (at_ n : Int) : Int := bif thereR b at_ n then 0 else 6
def getP : List (List U) → Prop := fun us => 1 ≤ (nth (.i 0) (nth [] us 2) 0).int ∧ (nth (.i 0) (nth [] us 2) 0).int ≤ 4 ∧ (nth (.i 0) (nth [] us 3) 0).bool = false ∧ (nth (.i 0) (nth [] us 0) 0).list.length ≤ 1099511627776
def getS : List (List U) → List (List U) := fun us => [[.i (getN (nth (.i 0) (nth [] us 0) 0).list (nth (.i 0) (nth [] us 1) 0).int (nth (.i 0) (nth [] us 2) 0).int)], [.i (getE (nth (.i 0) (nth [] us 0) 0).list (nth (.i 0) (nth [] us 1) 0).int (nth (.i 0) (nth [] us 2) 0).int)]]
noncomputable def getLoop : LoopF := fun _ svs _ k => match svs with
  | .val (.int .i64) i :: .val (.int .i64) m :: .val (.int .u64) v :: rest => match rest with
    | [.val (.sl false [.int .u8]) l, .val (.int .i64) n, .val .bool g] =>
      (n = m ∧ g.bool = false ∧ byteOk l.list ∧ (l.list.length : Int) = m.int ∧ m.int ≤ 4 ∧ 0 ≤ i.int ∧ i.int ≤ m.int ∧ v = .i v.int ∧ 0 ≤ v.int ∧ v.int < 256 ^ i.int.toNat) ∧
      k (.exit 0) ⟨[(12, vu (.i (v.int * 256 ^ (m.int - i.int).toNat + leV (l.list.take (m.int - i.int).toNat))))], []⟩
    | _ => False
  | _ => False
noncomputable def getC : Ctx := mkC PR eqs0 (fnsConsP 80 thereP thereS fnsNil) trsNil (loopCons 0 [31, 30, 12, 10, 2, 3] [] getLoop noLoops) (outCons 0 [12] [] noOut) noOut
theorem get_round (pan : KP) (μ : Mu) (N : Nat) (k : KE) (i n v l g : U) : (exec (getC.panics pan) (loopBody Try.f72 0) 0 ⟨[(31, vi i), (30, vi n), (12, vu v), (10, vl (.int .u8) l), (2, vi n), (3, vb g)], []⟩ (again PR (some ([12], [])) none pan [31, 30, 12, 10, 2, 3] [] getLoop μ N k)) = (bif decide (i.int < n.int) then bif g.bool then bif decide ((0 : Int) ≤ i.int ∧ i.int < (l.list.length : Int)) then bif Nat.blt (μ [.val (.int IntKind.i64) (U.i (IntKind.wrap .i64 (i.int + (1 : Int)))), .val (.int IntKind.i64) n, .val (.int IntKind.u64) (U.i (IntKind.wrap .u64 (↑(BitVec.toNat (BitVec.ofInt (IntKind.bits IntKind.u64) (IntKind.wrap .u64 (v.int * (2 : Int) ^ min (Int.toNat (8 : Int)) (IntKind.bits IntKind.u64))) ||| BitVec.ofInt (IntKind.bits IntKind.u64) (IntKind.wrap .u64 (U.int (nth (U.i (0 : Int)) l.list (Int.toNat i.int)))))) : Int))), .val (.sl false [.int .u8]) l, .val (.int IntKind.i64) n, .val .bool g] []) N then (n = n ∧ g.bool = false ∧ byteOk l.list ∧ (l.list.length : Int) = n.int ∧ n.int ≤ (4 : Int) ∧ (0 : Int) ≤ IntKind.wrap .i64 (i.int + (1 : Int)) ∧ IntKind.wrap .i64 (i.int + (1 : Int)) ≤ n.int ∧ U.i (IntKind.wrap .u64 (↑(BitVec.toNat (BitVec.ofInt (IntKind.bits IntKind.u64) (IntKind.wrap .u64 (v.int * (2 : Int) ^ min (Int.toNat (8 : Int)) (IntKind.bits IntKind.u64))) ||| BitVec.ofInt (IntKind.bits IntKind.u64) (IntKind.wrap .u64 (U.int (nth (U.i (0 : Int)) l.list (Int.toNat i.int)))))) : Int)) = U.i (IntKind.wrap .u64 (↑(BitVec.toNat (BitVec.ofInt (IntKind.bits IntKind.u64) (IntKind.wrap .u64 (v.int * (2 : Int) ^ min (Int.toNat (8 : Int)) (IntKind.bits IntKind.u64))) ||| BitVec.ofInt (IntKind.bits IntKind.u64) (IntKind.wrap .u64 (U.int (nth (U.i (0 : Int)) l.list (Int.toNat i.int)))))) : Int)) ∧ (0 : Int) ≤ IntKind.wrap .u64 (↑(BitVec.toNat (BitVec.ofInt (IntKind.bits IntKind.u64) (IntKind.wrap .u64 (v.int * (2 : Int) ^ min (Int.toNat (8 : Int)) (IntKind.bits IntKind.u64))) ||| BitVec.ofInt (IntKind.bits IntKind.u64) (IntKind.wrap .u64 (U.int (nth (U.i (0 : Int)) l.list (Int.toNat i.int)))))) : Int) ∧ IntKind.wrap .u64 (↑(BitVec.toNat (BitVec.ofInt (IntKind.bits IntKind.u64) (IntKind.wrap .u64 (v.int * (2 : Int) ^ min (Int.toNat (8 : Int)) (IntKind.bits IntKind.u64))) ||| BitVec.ofInt (IntKind.bits IntKind.u64) (IntKind.wrap .u64 (U.int (nth (U.i (0 : Int)) l.list (Int.toNat i.int)))))) : Int) < (256 : Int) ^ Int.toNat (IntKind.wrap .i64 (i.int + (1 : Int)))) ∧ k (Ex.exit (nat_lit 0)) (St.mk [(nat_lit 12, .val (.int IntKind.u64) (U.i (IntKind.wrap .u64 (↑(BitVec.toNat (BitVec.ofInt (IntKind.bits IntKind.u64) (IntKind.wrap .u64 (v.int * (2 : Int) ^ min (Int.toNat (8 : Int)) (IntKind.bits IntKind.u64))) ||| BitVec.ofInt (IntKind.bits IntKind.u64) (IntKind.wrap .u64 (U.int (nth (U.i (0 : Int)) l.list (Int.toNat i.int)))))) : Int) * (256 : Int) ^ Int.toNat (n.int - IntKind.wrap .i64 (i.int + (1 : Int))) + leV (List.take (Int.toNat (n.int - IntKind.wrap .i64 (i.int + (1 : Int)))) l.list))))] []) else False else False else bif decide ((0 : Int) ≤ IntKind.wrap .i64 (IntKind.wrap .i64 (n.int - (1 : Int)) - i.int) ∧ IntKind.wrap .i64 (IntKind.wrap .i64 (n.int - (1 : Int)) - i.int) < (l.list.length : Int)) then bif Nat.blt (μ [.val (.int IntKind.i64) (U.i (IntKind.wrap .i64 (i.int + (1 : Int)))), .val (.int IntKind.i64) n, .val (.int IntKind.u64) (U.i (IntKind.wrap .u64 (↑(BitVec.toNat (BitVec.ofInt (IntKind.bits IntKind.u64) (IntKind.wrap .u64 (v.int * (2 : Int) ^ min (Int.toNat (8 : Int)) (IntKind.bits IntKind.u64))) ||| BitVec.ofInt (IntKind.bits IntKind.u64) (IntKind.wrap .u64 (U.int (nth (U.i (0 : Int)) l.list (Int.toNat (IntKind.wrap .i64 (IntKind.wrap .i64 (n.int - (1 : Int)) - i.int)))))))) : Int))), .val (.sl false [.int .u8]) l, .val (.int IntKind.i64) n, .val .bool g] []) N then (n = n ∧ g.bool = false ∧ byteOk l.list ∧ (l.list.length : Int) = n.int ∧ n.int ≤ (4 : Int) ∧ (0 : Int) ≤ IntKind.wrap .i64 (i.int + (1 : Int)) ∧ IntKind.wrap .i64 (i.int + (1 : Int)) ≤ n.int ∧ U.i (IntKind.wrap .u64 (↑(BitVec.toNat (BitVec.ofInt (IntKind.bits IntKind.u64) (IntKind.wrap .u64 (v.int * (2 : Int) ^ min (Int.toNat (8 : Int)) (IntKind.bits IntKind.u64))) ||| BitVec.ofInt (IntKind.bits IntKind.u64) (IntKind.wrap .u64 (U.int (nth (U.i (0 : Int)) l.list (Int.toNat (IntKind.wrap .i64 (IntKind.wrap .i64 (n.int - (1 : Int)) - i.int)))))))) : Int)) = U.i (IntKind.wrap .u64 (↑(BitVec.toNat (BitVec.ofInt (IntKind.bits IntKind.u64) (IntKind.wrap .u64 (v.int * (2 : Int) ^ min (Int.toNat (8 : Int)) (IntKind.bits IntKind.u64))) ||| BitVec.ofInt (IntKind.bits IntKind.u64) (IntKind.wrap .u64 (U.int (nth (U.i (0 : Int)) l.list (Int.toNat (IntKind.wrap .i64 (IntKind.wrap .i64 (n.int - (1 : Int)) - i.int)))))))) : Int)) ∧ (0 : Int) ≤ IntKind.wrap .u64 (↑(BitVec.toNat (BitVec.ofInt (IntKind.bits IntKind.u64) (IntKind.wrap .u64 (v.int * (2 : Int) ^ min (Int.toNat (8 : Int)) (IntKind.bits IntKind.u64))) ||| BitVec.ofInt (IntKind.bits IntKind.u64) (IntKind.wrap .u64 (U.int (nth (U.i (0 : Int)) l.list (Int.toNat (IntKind.wrap .i64 (IntKind.wrap .i64 (n.int - (1 : Int)) - i.int)))))))) : Int) ∧ IntKind.wrap .u64 (↑(BitVec.toNat (BitVec.ofInt (IntKind.bits IntKind.u64) (IntKind.wrap .u64 (v.int * (2 : Int) ^ min (Int.toNat (8 : Int)) (IntKind.bits IntKind.u64))) ||| BitVec.ofInt (IntKind.bits IntKind.u64) (IntKind.wrap .u64 (U.int (nth (U.i (0 : Int)) l.list (Int.toNat (IntKind.wrap .i64 (IntKind.wrap .i64 (n.int - (1 : Int)) - i.int)))))))) : Int) < (256 : Int) ^ Int.toNat (IntKind.wrap .i64 (i.int + (1 : Int)))) ∧ k (Ex.exit (nat_lit 0)) (St.mk [(nat_lit 12, .val (.int IntKind.u64) (U.i (IntKind.wrap .u64 (↑(BitVec.toNat (BitVec.ofInt (IntKind.bits IntKind.u64) (IntKind.wrap .u64 (v.int * (2 : Int) ^ min (Int.toNat (8 : Int)) (IntKind.bits IntKind.u64))) ||| BitVec.ofInt (IntKind.bits IntKind.u64) (IntKind.wrap .u64 (U.int (nth (U.i (0 : Int)) l.list (Int.toNat (IntKind.wrap .i64 (IntKind.wrap .i64 (n.int - (1 : Int)) - i.int)))))))) : Int) * (256 : Int) ^ Int.toNat (n.int - IntKind.wrap .i64 (i.int + (1 : Int))) + leV (List.take (Int.toNat (n.int - IntKind.wrap .i64 (i.int + (1 : Int)))) l.list))))] []) else False else False else k (Ex.exit (nat_lit 0)) (St.mk [(nat_lit 12, .val (.int IntKind.u64) v)] [])) := by kernel_rfl
theorem get_tree (R : RF) (b a n g : U) : (run getC Try.f72 [[b], [a], [n], [g]] R) = (bif decide (U.int n < (1 : Int)) then R [[U.i (0 : Int)], [U.i (1 : Int)]] else bif decide (U.int n > (8 : Int)) then R [[U.i (0 : Int)], [U.i (1 : Int)]] else thereP [[b], [a], [n]] ∧ bif !thereR (U.list
  b) (U.int a) (U.int n) then R [[U.i (0 : Int)], [U.i (6 : Int)]] else (n = n ∧ U.bool g = false ∧ byteOk (bif thereR (U.list b) (U.int a) (U.int n) then sub (U.list b) (U.int a) (U.int n) else []) ∧ (↑(List.length
  (bif thereR (U.list b) (U.int a) (U.int n) then sub (U.list b) (U.int a) (U.int n) else [])) : Int) = U.int n ∧ U.int n ≤ (4 : Int) ∧ (0 : Int) ≤ (0 : Int) ∧ (0 : Int) ≤ U.int n ∧ U.i (0 : Int) = U.i (0
  : Int) ∧ (0 : Int) ≤ (0 : Int) ∧ (0 : Int) < (256 : Int) ^ Int.toNat (0 : Int)) ∧ R [[U.i ((0 : Int) * (256 : Int) ^ Int.toNat (U.int n - (0 : Int)) + leV (List.take (Int.toNat (U.int n - (0 : Int))) (bif
  thereR (U.list b) (U.int a) (U.int n) then sub (U.list b) (U.int a) (U.int n) else [])))], [U.i (0 : Int)]]) := by kernel_rfl
end Go.Mat

namespace Go.Mat
open Go Go.Den Go.Proofs
theorem or_byte {x y : Int} (hx : 0 ≤ x) (hx' : x ≤ 1099511627776) (hy : 0 ≤ y) (hy' : y ≤ 255) :
    IntKind.wrap .u64 (((BitVec.ofInt (IntKind.bits .u64) (IntKind.wrap .u64 (x * 2 ^ min (Int.toNat 8) (IntKind.bits .u64))) ||| BitVec.ofInt (IntKind.bits .u64) (IntKind.wrap .u64 y)).toNat : Nat) : Int) = x * 256 + y := by
  obtain ⟨a, rfl⟩ := Int.eq_ofNat_of_zero_le hx
  obtain ⟨b, rfl⟩ := Int.eq_ofNat_of_zero_le hy
  have e : ((a : Int) * (2 : Int) ^ min (Int.toNat 8) (IntKind.bits .u64)) = ((a <<< 8 : Nat) : Int) := by
    rw [Nat.shiftLeft_eq]; simp [IntKind.bits]
  have ha : a <<< 8 < 18446744073709551616 := by rw [Nat.shiftLeft_eq]; omega
  rw [e, u64_in (x := ((a <<< 8 : Nat) : Int)) (by omega) (by omega), u64_in (x := (b : Int)) (by omega) (by omega)]
  have h1 : (BitVec.ofInt (IntKind.bits .u64) ((a <<< 8 : Nat) : Int) ||| BitVec.ofInt (IntKind.bits .u64) (b : Int)).toNat = a <<< 8 + b := by
    rw [BitVec.toNat_or, BitVec.toNat_ofInt, BitVec.toNat_ofInt]
    have h2 : (((a <<< 8 : Nat) : Int) % ((2 ^ IntKind.bits .u64 : Nat) : Int)).toNat = a <<< 8 := by
      show (((a <<< 8 : Nat) : Int) % 18446744073709551616).toNat = _
      omega
    have h3 : ((b : Int) % ((2 ^ IntKind.bits .u64 : Nat) : Int)).toNat = b := by
      show ((b : Int) % 18446744073709551616).toNat = _
      omega
    rw [h2, h3, Nat.shiftLeft_add_eq_or_of_lt (by omega)]
  rw [h1, u64_in (by omega) (by rw [Nat.shiftLeft_eq]; omega), Nat.shiftLeft_eq]
  omega
theorem p256 {i : Nat} (h : i ≤ 3) : (1 : Int) ≤ 256 ^ i ∧ (256 : Int) ^ i ≤ 16777216 := by
  have : i = 0 ∨ i = 1 ∨ i = 2 ∨ i = 3 := by omega
  rcases this with rfl | rfl | rfl | rfl <;> decide
theorem leV_take : ∀ {l : List U} {m : Nat}, m < l.length → leV (l.take (m + 1)) = leV (l.take m) + (U.at l m).int * 256 ^ m
  | [], _, h => by simp at h
  | u :: r, 0, _ => by simp [leV]
  | u :: r, m + 1, h => by
    rw [List.take_succ_cons, List.take_succ_cons, leV, leV, leV_take (by simpa using h), show U.at (u :: r) (m + 1) = U.at r m from rfl, Int.pow_succ, Int.mul_add, ← Int.add_assoc, Int.mul_comm 256 ((U.at r m).int * 256 ^ m), Int.mul_assoc]
theorem le_step {v y : Int} {l : List U} {m : Nat} (h : m < l.length) (hy : (U.at l m).int = y) : (v * 256 + y) * 256 ^ m + leV (l.take m) = v * 256 ^ (m + 1) + leV (l.take (m + 1)) := by
  rw [leV_take h, hy, Int.pow_succ, Int.add_mul, Int.mul_assoc, Int.mul_comm 256]
  omega
theorem get_loop : LoopOk getC 0 (loopBody Try.f72 0) := by
  refine loopOk_of (F := getLoop) (ts := [31, 30, 12, 10, 2, 3]) (os := []) rfl (fun svs _ => match svs with | .val _ i :: .val _ m :: _ => (m.int - i.int).toNat | _ => 0) ?_
  intro pan svs os k ho1 ho2 h
  unfold getLoop at h
  split at h
  · rename_i i m v rest
    split at h
    · rename_i l n g
      obtain ⟨⟨rfl, hg, hbk, hl, hm4, h0, hi, hvv, hv0, hv⟩, hk⟩ := h
      refine .eq (get_round pan _ _ k i n v l g) ?_
      refine bd (fun hlt => bf hg ?_) (fun hlt => ?_)
      · have hp := p256 (i := i.int.toNat) (by omega)
        have hw : IntKind.wrap .i64 (i.int + 1) = i.int + 1 := i64_in (by omega) (by omega)
        have hw1 : IntKind.wrap .i64 (n.int - 1) = n.int - 1 := i64_in (by omega) (by omega)
        have hw2 : IntKind.wrap .i64 (n.int - 1 - i.int) = n.int - 1 - i.int := i64_in (by omega) (by omega)
        simp only [hw, hw1, hw2]
        have hb := hbk _ (mem_at (L := l.list) (i := (n.int - 1 - i.int).toNat) (by omega))
        simp only [U.at] at hb
        rw [or_byte hv0 (by omega) hb.1 hb.2]
        have hm : (n.int - i.int).toNat = (n.int - 1 - i.int).toNat + 1 := by omega
        have hm' : (n.int - (i.int + 1)).toNat = (n.int - 1 - i.int).toNat := by omega
        have hpw : (i.int + 1).toNat = i.int.toNat + 1 := by omega
        rw [hm, ← le_step (y := (nth (U.i 0) l.list (n.int - 1 - i.int).toNat).int) (by omega) rfl] at hk
        rw [hm', hpw, Int.pow_succ]
        have hlt' : (n.int - (i.int + 1)).toNat < (n.int - i.int).toNat := by omega
        refine dt ⟨by omega, by omega⟩ (blt hlt' ⟨⟨by trivial, hg, hbk, hl, hm4, by omega, by omega, by trivial, by omega, by omega⟩, hk⟩)
      · have hz : (n.int - i.int).toNat = 0 := by omega
        rw [hz] at hk
        simp only [Int.pow_zero, Int.mul_one, List.take_zero, leV, Int.add_zero, ← hvv] at hk
        exact hk
    · exact h.elim
  · exact h.elim
theorem thereR_iff {b : List U} {a n : Int} : thereR b a n = true ↔ 0 ≤ a ∧ a ≤ b.length ∧ n ≤ b.length - a := by
  unfold thereR
  simp only [Bool.and_eq_true, decide_eq_true_eq, and_assoc]
theorem there_ok : SpecFP PR 80 thereP thereS := fun fn us hfn hpre => by
  have hf : PR.funcs[(80 : Nat)]? = some Try.f80 := by kernel_rfl
  rw [hf] at hfn; cases hfn
  refine fn_okH (C := K0) (mkC_ok eqs0_ok mixed_ok .nil .nil) hf (by kernel_rfl) (loops_none (by kernel_rfl)) fun hok => ?_
  have hp : Try.f80.params.toList = [32, 3, 3] := by kernel_rfl
  rw [hp] at hok
  obtain ⟨b, a, n, hus⟩ : ∃ b a n, us = [[b], [a], [n]] := by
    obtain ⟨u, u2, u3, rfl, h1, h2, h3⟩ := shape3 (by kernel_rfl : Cs PR 32 = some (false, [.sl false [.int .u8]])) (by kernel_rfl : Cs PR 3 = some (false, [.int .i64])) (by kernel_rfl : Cs PR 3 = some (false, [.int .i64])) hok.1
    obtain ⟨b, rfl⟩ := len1 h1
    obtain ⟨a, rfl⟩ := len1 h2
    obtain ⟨n, rfl⟩ := len1 h3
    exact ⟨b, a, n, rfl⟩
  subst hus
  refine .eq (there_tree _ b a n) ?_
  unfold thereP at hpre
  unfold thereS
  simp only [nth_zero, nth_succ] at hpre ⊢
  obtain ⟨hn0, hn1, hb⟩ := hpre
  have bad : ¬ (0 ≤ a.int ∧ a.int ≤ b.list.length ∧ n.int ≤ b.list.length - a.int) → ([[U.l []], [U.b false]] : List (List U)) = [[.l (bif thereR b.list a.int n.int then sub b.list a.int n.int else [])], [.b (thereR b.list a.int n.int)]] := fun h => by
    rw [show thereR b.list a.int n.int = false from Bool.eq_false_iff.2 fun h' => h (thereR_iff.1 h')]; rfl
  refine bd (fun h => bad (by omega)) (fun h1 => bd (fun h => bad (by omega)) (fun h2 => ?_))
  rw [i64_in (x := (b.list.length : Int) - a.int) (by omega) (by omega)]
  refine bd (fun h => bad (by omega)) (fun h3 => ?_)
  rw [i64_in (x := a.int + n.int) (by omega) (by omega)]
  refine broom ⟨by omega, by omega, by omega, by omega⟩ rfl ?_
  rw [show thereR b.list a.int n.int = true from thereR_iff.2 ⟨by omega, by omega, by omega⟩]
  rfl
theorem sub_len {b : List U} {a n : Int} (h : thereR b a n = true) (hn : 0 ≤ n) : ((sub b a n).length : Int) = n := by
  rw [thereR_iff] at h
  unfold sub
  rw [List.length_drop, List.length_take]
  omega
theorem sub_eq {b : List U} {a n : Int} (h : thereR b a n = true) (hn : 0 ≤ n) : sub b a n = (b.drop a.toNat).take n.toNat := by
  rw [thereR_iff] at h
  unfold sub
  rw [List.drop_take]
  congr 1
  omega
theorem sub_bytes {b : List U} (a n : Int) (h : byteOk b) : byteOk (sub b a n) := fun u hu => h u (List.mem_of_mem_take (List.mem_of_mem_drop hu))
theorem bytes_ok {b : U} (h : okC (.sl false [.int .u8]) b) : byteOk b.list := fun u hu => by
  obtain ⟨i, hi, rfl⟩ := List.getElem_of_mem hu
  have h1 := (h.2 i hi).1
  simp only [elemU_false, U.at, nth_zero] at h1
  have e1 : nth (U.i 0) b.list i = b.list[i] := at_getElem _ _ hi
  rw [e1] at h1
  exact h1
theorem get_ok : SpecFP PR 72 getP getS := fun fn us hfn hpre => by
  have hf : PR.funcs[(72 : Nat)]? = some Try.f72 := by kernel_rfl
  rw [hf] at hfn; cases hfn
  refine fn_okH (C := getC) (mkC_ok eqs0_ok mixed_ok (.consP there_ok .nil) .nil) hf (by kernel_rfl) (loops_one (by kernel_rfl) get_loop) fun hok => ?_
  have hp : Try.f72.params.toList = [32, 3, 3, 4] := by kernel_rfl
  rw [hp] at hok
  obtain ⟨b, a, n, g, hus⟩ : ∃ b a n g, us = [[b], [a], [n], [g]] := by
    obtain ⟨u, u2, u3, u4, rfl, h1, h2, h3, h4⟩ := shape4 (by kernel_rfl : Cs PR 32 = some (false, [.sl false [.int .u8]])) (by kernel_rfl : Cs PR 3 = some (false, [.int .i64])) (by kernel_rfl : Cs PR 3 = some (false, [.int .i64])) (by kernel_rfl : Cs PR 4 = some (false, [.bool])) hok.1
    obtain ⟨b, rfl⟩ := len1 h1
    obtain ⟨a, rfl⟩ := len1 h2
    obtain ⟨n, rfl⟩ := len1 h3
    obtain ⟨g, rfl⟩ := len1 h4
    exact ⟨b, a, n, g, rfl⟩
  subst hus
  have hbk : byteOk b.list := bytes_ok (hok.2 [vl (.int .u8) b, vi a, vi n, vb g] (by kernel_rfl)).1
  refine .eq (get_tree _ b a n g) ?_
  unfold getP at hpre
  unfold getS getN getE
  simp only [nth_zero, nth_succ] at hpre ⊢
  obtain ⟨hn1, hn4, hg, hb⟩ := hpre
  refine df (by omega) (df (by omega) ⟨⟨by show 0 ≤ n.int; omega, by show n.int ≤ _; omega, hb⟩, bi (fun h => ?_) (fun h => ?_)⟩)
  · rw [nt h]; rfl
  · have h := nf h
    rw [h]
    have hl := sub_len h (by omega)
    refine ⟨⟨by trivial, hg, sub_bytes _ _ hbk, hl, by omega, by trivial, by omega, by trivial, by trivial, by simp⟩, ?_⟩
    rw [cond_true, cond_true, Int.zero_mul, Int.zero_add, Int.sub_zero, List.take_of_length_le (by omega)]
    rfl
end Go.Mat

namespace Go.Mat
open Go Go.Den Go.Proofs
abbrev toStr (l : List U) : ByteArray := ⟨(l.map fun x => UInt8.ofNat x.int.toNat).toArray⟩
def readR (b : List U) (a : Int) : Bool := thereR b a 2 && thereR b (a + 2) (getN b a 2)
def readV (b : List U) (a : Int) : ByteArray := bif readR b a then toStr (sub b (a + 2) (getN b a 2)) else ⟨#[]⟩
def readA (b : List U) (a : Int) : Int := bif readR b a then a + 2 + getN b a 2 else 0
def readE (b : List U) (a : Int) : Int := bif readR b a then 0 else 6
def readP : List (List U) → Prop := fun us => (nth (.i 0) (nth [] us 0) 0).list.length ≤ 1099511627776
def readS : List (List U) → List (List U) := fun us => [[.s (readV (nth (.i 0) (nth [] us 0) 0).list (nth (.i 0) (nth [] us 1) 0).int)], [.i (readA (nth (.i 0) (nth [] us 0) 0).list (nth (.i 0) (nth [] us 1) 0).int)], [.i (readE (nth (.i 0) (nth [] us 0) 0).list (nth (.i 0) (nth [] us 1) 0).int)]]
noncomputable def readC : Ctx := mkC PR eqs0 (fnsConsP 80 thereP thereS (fnsConsP 72 getP getS fnsNil)) trsNil noLoops noOut noOut
theorem read_tree (R : RF) (b a : U) : (run readC Try.f73 [[b], [a]] R) = (getP [[b], [a], [U.i (2 : Int)], [U.b false]] ∧ bif getE (U.list b) (U.int a) (2 : Int) != (0 : Int) then R [[U.s (ByteArray.mk #[])], [U.i (0 : Int)], [U.i (6 : Int)]] else thereP [[b], [U.i (IntKind.wrap
  IntKind.i64 (U.int a + (2 : Int)))], [U.i (IntKind.wrap IntKind.i64 (getN (U.list b) (U.int a) (2 : Int)))]] ∧ bif !thereR (U.list b) (IntKind.wrap IntKind.i64 (U.int a + (2 : Int))) (IntKind.wrap IntKind.i64
  (getN (U.list b) (U.int a) (2 : Int))) then R [[U.s (ByteArray.mk #[])], [U.i (0 : Int)], [U.i (6 : Int)]] else R [[U.s (ByteArray.mk (List.toArray (List.map (fun x => UInt8.ofNat (Int.toNat (U.int x)))
  (bif thereR (U.list b) (IntKind.wrap IntKind.i64 (U.int a + (2 : Int))) (IntKind.wrap IntKind.i64 (getN (U.list b) (U.int a) (2 : Int))) then sub (U.list b) (IntKind.wrap IntKind.i64 (U.int a + (2 : Int)))
  (IntKind.wrap IntKind.i64 (getN (U.list b) (U.int a) (2 : Int))) else []))))], [U.i (IntKind.wrap IntKind.i64 (IntKind.wrap IntKind.i64 (U.int a + (2 : Int)) + IntKind.wrap IntKind.i64 (getN (U.list b)
  (U.int a) (2 : Int))))], [U.i (0 : Int)]]) := by kernel_rfl
noncomputable def cloF : Tr := fun vs objs k => match vs, objs with
  | [.val (.int .i64) a, .val (.int .i64) n, .ptr p o], [(i, .box [.val (.sl false [.int .u8]) b])] =>
    (p = 2097153 ∧ o = 0 ∧ i = 2097153 ∧ 1 ≤ n.int ∧ n.int ≤ 4 ∧ b.list.length ≤ 1099511627776) ∧ k (.ret [vi (.i (IntKind.wrap .i64 (getN b.list a.int n.int)))]) [(2097153, .box [vl (.int .u8) b])]
  | _, _ => False
noncomputable def cloC : Ctx := mkC PR eqs0 (fnsConsP 72 getP getS fnsNil) trsNil noLoops noOut noOut
theorem clo_tree (R : RT) (a n b : U) : (runD cloC Try.f82 [vi a, vi n, .ptr 2097153 0] [(2097153, .box [vl (.int .u8) b])] R) = (getP [[b], [a], [n], [U.b false]] ∧ R (Out.ret [SV.val (Ct.int IntKind.i64) (U.i (IntKind.wrap IntKind.i64 (getN (U.list b) (U.int a) (U.int n))))]) [(nat_lit 2097153, Obj.box [SV.val (Ct.sl false [Ct.int
  IntKind.u8]) b])]) := by kernel_rfl
def eK (b : List U) : Int := (U.at b 0).int
def eC (b : List U) : Int := getN b 2 2
def eS (b : List U) : Int := getN b 4 4
def eZ (b : List U) : Int := getN b 8 4
def eM (b : List U) : Int := getN b 12 4
def egetR (b : List U) (k : Int) : Bool := decide (b.length = 16) && ((U.at b 1).int == 0) && mayR (eK b) (eS b) (eC b) (eZ b) (eM b) k
def egetS : List (List U) → List (List U) := fun us =>
  [[.i (bif egetR (nth (.i 0) (nth [] us 0) 0).list (nth (.i 0) (nth [] us 1) 0).int then eK (nth (.i 0) (nth [] us 0) 0).list else 0), .i (bif egetR (nth (.i 0) (nth [] us 0) 0).list (nth (.i 0) (nth [] us 1) 0).int then eS (nth (.i 0) (nth [] us 0) 0).list else 0),
    .i (bif egetR (nth (.i 0) (nth [] us 0) 0).list (nth (.i 0) (nth [] us 1) 0).int then eC (nth (.i 0) (nth [] us 0) 0).list else 0), .i (bif egetR (nth (.i 0) (nth [] us 0) 0).list (nth (.i 0) (nth [] us 1) 0).int then eZ (nth (.i 0) (nth [] us 0) 0).list else 0),
    .i (bif egetR (nth (.i 0) (nth [] us 0) 0).list (nth (.i 0) (nth [] us 1) 0).int then eM (nth (.i 0) (nth [] us 0) 0).list else 0)], [.i (bif egetR (nth (.i 0) (nth [] us 0) 0).list (nth (.i 0) (nth [] us 1) 0).int then 0 else 3)]]
noncomputable def egetC : Ctx := mkC PR eqs0 (fnsCons 65 mayS fnsNil) (trsCons 82 [false, false] cloF trsNil) noLoops noOut noOut
theorem eget_tree (R : RF) (b k : U) : (run egetC Try.f81 [[b], [k]] R) = (bif (b.list.length : Int) != (16 : Int) then R [[U.i (0 : Int), U.i (0 : Int), U.i (0 : Int), U.i (0 : Int), U.i (0 : Int)], [U.i (3 : Int)]] else bif decide ((0 : Int) ≤ (1 : Int) ∧ (1 : Int) < (b.list.length : Int)) then bif U.int (nth (U.i (0 : Int)) b.list (Int.toNat (1 : Int))) != (0 : Int) then R [[U.i (0 : Int), U.i (0 : Int), U.i (0 : Int), U.i (0 : Int), U.i (0 : Int)], [U.i (3 : Int)]] else Alt (bif decide ((0 : Int) ≤ (0 : Int) ∧ (0 : Int) < (b.list.length : Int)) then Alt ((nat_lit 2097153 = nat_lit 2097153 ∧ nat_lit 0 = nat_lit 0 ∧ nat_lit 2097153 = nat_lit 2097153 ∧ (1 : Int) ≤ (2 : Int) ∧ (2 : Int) ≤ (4 : Int) ∧ b.list.length ≤ (1099511627776 : Nat)) ∧ Alt ((nat_lit 2097153 = nat_lit 2097153 ∧ nat_lit 0 = nat_lit 0 ∧ nat_lit 2097153 = nat_lit 2097153 ∧ (1 : Int) ≤ (4 : Int) ∧ (4 : Int) ≤ (4 : Int) ∧ b.list.length ≤ (1099511627776 : Nat)) ∧ Alt ((nat_lit 2097153 = nat_lit 2097153 ∧ nat_lit 0 = nat_lit 0 ∧ nat_lit 2097153 = nat_lit 2097153 ∧ (1 : Int) ≤ (4 : Int) ∧ (4 : Int) ≤ (4 : Int) ∧ b.list.length ≤ (1099511627776 : Nat)) ∧ (fun T => Alt T T) ((nat_lit 2097153 = nat_lit 2097153 ∧ nat_lit 0 = nat_lit 0 ∧ nat_lit 2097153 = nat_lit 2097153 ∧ (1 : Int) ≤ (4 : Int) ∧ (4 : Int) ≤ (4 : Int) ∧ b.list.length ≤ (1099511627776 : Nat)) ∧ bif !mayR (IntKind.wrap .i64 (U.int (nth (U.i (0 : Int)) b.list (Int.toNat (0 : Int))))) (IntKind.wrap .i64 (getN b.list (4 : Int) (4 : Int))) (IntKind.wrap .i64 (getN b.list (2 : Int) (2 : Int))) (IntKind.wrap .i64 (getN b.list (8 : Int) (4 : Int))) (IntKind.wrap .u32 (IntKind.wrap .i64 (getN b.list (12 : Int) (4 : Int)))) k.int then R [[U.i (0 : Int), U.i (0 : Int), U.i (0 : Int), U.i (0 : Int), U.i (0 : Int)], [U.i (3 : Int)]] else R [[U.i (IntKind.wrap .i64 (U.int (nth (U.i (0 : Int)) b.list (Int.toNat (0 : Int))))), U.i (IntKind.wrap .i64 (getN b.list (4 : Int) (4 : Int))), U.i (IntKind.wrap .i64 (getN b.list (2 : Int) (2 : Int))), U.i (IntKind.wrap .i64 (getN b.list (8 : Int) (4 : Int))), U.i (IntKind.wrap .u32 (IntKind.wrap .i64 (getN b.list (12 : Int) (4 : Int))))], [U.i (0 : Int)]])) ((nat_lit 2097153 = nat_lit 2097153 ∧ nat_lit 0 = nat_lit 0 ∧ nat_lit 2097153 = nat_lit 2097153 ∧ (1 : Int) ≤ (4 : Int) ∧ (4 : Int) ≤ (4 : Int) ∧ b.list.length ≤ (1099511627776 : Nat)) ∧ (nat_lit 2097153 = nat_lit 2097153 ∧ nat_lit 0 = nat_lit 0 ∧ nat_lit 2097153 = nat_lit 2097153 ∧ (1 : Int) ≤ (4 : Int) ∧ (4 : Int) ≤ (4 : Int) ∧ b.list.length ≤ (1099511627776 : Nat)) ∧ bif !mayR (IntKind.wrap .i64 (U.int (nth (U.i (0 : Int)) b.list (Int.toNat (0 : Int))))) (IntKind.wrap .i64 (getN b.list (4 : Int) (4 : Int))) (IntKind.wrap .i64 (getN b.list (2 : Int) (2 : Int))) (IntKind.wrap .i64 (getN b.list (8 : Int) (4 : Int))) (IntKind.wrap .u32 (IntKind.wrap .i64 (getN b.list (12 : Int) (4 : Int)))) k.int then R [[U.i (0 : Int), U.i (0 : Int), U.i (0 : Int), U.i (0 : Int), U.i (0 : Int)], [U.i (3 : Int)]] else R [[U.i (IntKind.wrap .i64 (U.int (nth (U.i (0 : Int)) b.list (Int.toNat (0 : Int))))), U.i (IntKind.wrap .i64 (getN b.list (4 : Int) (4 : Int))), U.i (IntKind.wrap .i64 (getN b.list (2 : Int) (2 : Int))), U.i (IntKind.wrap .i64 (getN b.list (8 : Int) (4 : Int))), U.i (IntKind.wrap .u32 (IntKind.wrap .i64 (getN b.list (12 : Int) (4 : Int))))], [U.i (0 : Int)]])) ((nat_lit 2097153 = nat_lit 2097153 ∧ nat_lit 0 = nat_lit 0 ∧ nat_lit 2097153 = nat_lit 2097153 ∧ (1 : Int) ≤ (4 : Int) ∧ (4 : Int) ≤ (4 : Int) ∧ b.list.length ≤ (1099511627776 : Nat)) ∧ (nat_lit 2097153 = nat_lit 2097153 ∧ nat_lit 0 = nat_lit 0 ∧ nat_lit 2097153 = nat_lit 2097153 ∧ (1 : Int) ≤ (4 : Int) ∧ (4 : Int) ≤ (4 : Int) ∧ b.list.length ≤ (1099511627776 : Nat)) ∧ (nat_lit 2097153 = nat_lit 2097153 ∧ nat_lit 0 = nat_lit 0 ∧ nat_lit 2097153 = nat_lit 2097153 ∧ (1 : Int) ≤ (4 : Int) ∧ (4 : Int) ≤ (4 : Int) ∧ b.list.length ≤ (1099511627776 : Nat)) ∧ bif !mayR (IntKind.wrap .i64 (U.int (nth (U.i (0 : Int)) b.list (Int.toNat (0 : Int))))) (IntKind.wrap .i64 (getN b.list (4 : Int) (4 : Int))) (IntKind.wrap .i64 (getN b.list (2 : Int) (2 : Int))) (IntKind.wrap .i64 (getN b.list (8 : Int) (4 : Int))) (IntKind.wrap .u32 (IntKind.wrap .i64 (getN b.list (12 : Int) (4 : Int)))) k.int then R [[U.i (0 : Int), U.i (0 : Int), U.i (0 : Int), U.i (0 : Int), U.i (0 : Int)], [U.i (3 : Int)]] else R [[U.i (IntKind.wrap .i64 (U.int (nth (U.i (0 : Int)) b.list (Int.toNat (0 : Int))))), U.i (IntKind.wrap .i64 (getN b.list (4 : Int) (4 : Int))), U.i (IntKind.wrap .i64 (getN b.list (2 : Int) (2 : Int))), U.i (IntKind.wrap .i64 (getN b.list (8 : Int) (4 : Int))), U.i (IntKind.wrap .u32 (IntKind.wrap .i64 (getN b.list (12 : Int) (4 : Int))))], [U.i (0 : Int)]])) ((nat_lit 2097153 = nat_lit 2097153 ∧ nat_lit 0 = nat_lit 0 ∧ nat_lit 2097153 = nat_lit 2097153 ∧ (1 : Int) ≤ (2 : Int) ∧ (2 : Int) ≤ (4 : Int) ∧ b.list.length ≤ (1099511627776 : Nat)) ∧ (nat_lit 2097153 = nat_lit 2097153 ∧ nat_lit 0 = nat_lit 0 ∧ nat_lit 2097153 = nat_lit 2097153 ∧ (1 : Int) ≤ (4 : Int) ∧ (4 : Int) ≤ (4 : Int) ∧ b.list.length ≤ (1099511627776 : Nat)) ∧ (nat_lit 2097153 = nat_lit 2097153 ∧ nat_lit 0 = nat_lit 0 ∧ nat_lit 2097153 = nat_lit 2097153 ∧ (1 : Int) ≤ (4 : Int) ∧ (4 : Int) ≤ (4 : Int) ∧ b.list.length ≤ (1099511627776 : Nat)) ∧ (nat_lit 2097153 = nat_lit 2097153 ∧ nat_lit 0 = nat_lit 0 ∧ nat_lit 2097153 = nat_lit 2097153 ∧ (1 : Int) ≤ (4 : Int) ∧ (4 : Int) ≤ (4 : Int) ∧ b.list.length ≤ (1099511627776 : Nat)) ∧ bif !mayR (IntKind.wrap .i64 (U.int (nth (U.i (0 : Int)) b.list (Int.toNat (0 : Int))))) (IntKind.wrap .i64 (getN b.list (4 : Int) (4 : Int))) (IntKind.wrap .i64 (getN b.list (2 : Int) (2 : Int))) (IntKind.wrap .i64 (getN b.list (8 : Int) (4 : Int))) (IntKind.wrap .u32 (IntKind.wrap .i64 (getN b.list (12 : Int) (4 : Int)))) k.int then R [[U.i (0 : Int), U.i (0 : Int), U.i (0 : Int), U.i (0 : Int), U.i (0 : Int)], [U.i (3 : Int)]] else R [[U.i (IntKind.wrap .i64 (U.int (nth (U.i (0 : Int)) b.list (Int.toNat (0 : Int))))), U.i (IntKind.wrap .i64 (getN b.list (4 : Int) (4 : Int))), U.i (IntKind.wrap .i64 (getN b.list (2 : Int) (2 : Int))), U.i (IntKind.wrap .i64 (getN b.list (8 : Int) (4 : Int))), U.i (IntKind.wrap .u32 (IntKind.wrap .i64 (getN b.list (12 : Int) (4 : Int))))], [U.i (0 : Int)]]) else False) (Alt ((nat_lit 2097153 = nat_lit 2097153 ∧ nat_lit 0 = nat_lit 0 ∧ nat_lit 2097153 = nat_lit 2097153 ∧ (1 : Int) ≤ (2 : Int) ∧ (2 : Int) ≤ (4 : Int) ∧ b.list.length ≤ (1099511627776 : Nat)) ∧ Alt (bif decide ((0 : Int) ≤ (0 : Int) ∧ (0 : Int) < (b.list.length : Int)) then Alt ((nat_lit 2097153 = nat_lit 2097153 ∧ nat_lit 0 = nat_lit 0 ∧ nat_lit 2097153 = nat_lit 2097153 ∧ (1 : Int) ≤ (4 : Int) ∧ (4 : Int) ≤ (4 : Int) ∧ b.list.length ≤ (1099511627776 : Nat)) ∧ Alt ((nat_lit 2097153 = nat_lit 2097153 ∧ nat_lit 0 = nat_lit 0 ∧ nat_lit 2097153 = nat_lit 2097153 ∧ (1 : Int) ≤ (4 : Int) ∧ (4 : Int) ≤ (4 : Int) ∧ b.list.length ≤ (1099511627776 : Nat)) ∧ (fun T => Alt T T) ((nat_lit 2097153 = nat_lit 2097153 ∧ nat_lit 0 = nat_lit 0 ∧ nat_lit 2097153 = nat_lit 2097153 ∧ (1 : Int) ≤ (4 : Int) ∧ (4 : Int) ≤ (4 : Int) ∧ b.list.length ≤ (1099511627776 : Nat)) ∧ bif !mayR (IntKind.wrap .i64 (U.int (nth (U.i (0 : Int)) b.list (Int.toNat (0 : Int))))) (IntKind.wrap .i64 (getN b.list (4 : Int) (4 : Int))) (IntKind.wrap .i64 (getN b.list (2 : Int) (2 : Int))) (IntKind.wrap .i64 (getN b.list (8 : Int) (4 : Int))) (IntKind.wrap .u32 (IntKind.wrap .i64 (getN b.list (12 : Int) (4 : Int)))) k.int then R [[U.i (0 : Int), U.i (0 : Int), U.i (0 : Int), U.i (0 : Int), U.i (0 : Int)], [U.i (3 : Int)]] else R [[U.i (IntKind.wrap .i64 (U.int (nth (U.i (0 : Int)) b.list (Int.toNat (0 : Int))))), U.i (IntKind.wrap .i64 (getN b.list (4 : Int) (4 : Int))), U.i (IntKind.wrap .i64 (getN b.list (2 : Int) (2 : Int))), U.i (IntKind.wrap .i64 (getN b.list (8 : Int) (4 : Int))), U.i (IntKind.wrap .u32 (IntKind.wrap .i64 (getN b.list (12 : Int) (4 : Int))))], [U.i (0 : Int)]])) ((nat_lit 2097153 = nat_lit 2097153 ∧ nat_lit 0 = nat_lit 0 ∧ nat_lit 2097153 = nat_lit 2097153 ∧ (1 : Int) ≤ (4 : Int) ∧ (4 : Int) ≤ (4 : Int) ∧ b.list.length ≤ (1099511627776 : Nat)) ∧ (nat_lit 2097153 = nat_lit 2097153 ∧ nat_lit 0 = nat_lit 0 ∧ nat_lit 2097153 = nat_lit 2097153 ∧ (1 : Int) ≤ (4 : Int) ∧ (4 : Int) ≤ (4 : Int) ∧ b.list.length ≤ (1099511627776 : Nat)) ∧ bif !mayR (IntKind.wrap .i64 (U.int (nth (U.i (0 : Int)) b.list (Int.toNat (0 : Int))))) (IntKind.wrap .i64 (getN b.list (4 : Int) (4 : Int))) (IntKind.wrap .i64 (getN b.list (2 : Int) (2 : Int))) (IntKind.wrap .i64 (getN b.list (8 : Int) (4 : Int))) (IntKind.wrap .u32 (IntKind.wrap .i64 (getN b.list (12 : Int) (4 : Int)))) k.int then R [[U.i (0 : Int), U.i (0 : Int), U.i (0 : Int), U.i (0 : Int), U.i (0 : Int)], [U.i (3 : Int)]] else R [[U.i (IntKind.wrap .i64 (U.int (nth (U.i (0 : Int)) b.list (Int.toNat (0 : Int))))), U.i (IntKind.wrap .i64 (getN b.list (4 : Int) (4 : Int))), U.i (IntKind.wrap .i64 (getN b.list (2 : Int) (2 : Int))), U.i (IntKind.wrap .i64 (getN b.list (8 : Int) (4 : Int))), U.i (IntKind.wrap .u32 (IntKind.wrap .i64 (getN b.list (12 : Int) (4 : Int))))], [U.i (0 : Int)]])) ((nat_lit 2097153 = nat_lit 2097153 ∧ nat_lit 0 = nat_lit 0 ∧ nat_lit 2097153 = nat_lit 2097153 ∧ (1 : Int) ≤ (4 : Int) ∧ (4 : Int) ≤ (4 : Int) ∧ b.list.length ≤ (1099511627776 : Nat)) ∧ (nat_lit 2097153 = nat_lit 2097153 ∧ nat_lit 0 = nat_lit 0 ∧ nat_lit 2097153 = nat_lit 2097153 ∧ (1 : Int) ≤ (4 : Int) ∧ (4 : Int) ≤ (4 : Int) ∧ b.list.length ≤ (1099511627776 : Nat)) ∧ (nat_lit 2097153 = nat_lit 2097153 ∧ nat_lit 0 = nat_lit 0 ∧ nat_lit 2097153 = nat_lit 2097153 ∧ (1 : Int) ≤ (4 : Int) ∧ (4 : Int) ≤ (4 : Int) ∧ b.list.length ≤ (1099511627776 : Nat)) ∧ bif !mayR (IntKind.wrap .i64 (U.int (nth (U.i (0 : Int)) b.list (Int.toNat (0 : Int))))) (IntKind.wrap .i64 (getN b.list (4 : Int) (4 : Int))) (IntKind.wrap .i64 (getN b.list (2 : Int) (2 : Int))) (IntKind.wrap .i64 (getN b.list (8 : Int) (4 : Int))) (IntKind.wrap .u32 (IntKind.wrap .i64 (getN b.list (12 : Int) (4 : Int)))) k.int then R [[U.i (0 : Int), U.i (0 : Int), U.i (0 : Int), U.i (0 : Int), U.i (0 : Int)], [U.i (3 : Int)]] else R [[U.i (IntKind.wrap .i64 (U.int (nth (U.i (0 : Int)) b.list (Int.toNat (0 : Int))))), U.i (IntKind.wrap .i64 (getN b.list (4 : Int) (4 : Int))), U.i (IntKind.wrap .i64 (getN b.list (2 : Int) (2 : Int))), U.i (IntKind.wrap .i64 (getN b.list (8 : Int) (4 : Int))), U.i (IntKind.wrap .u32 (IntKind.wrap .i64 (getN b.list (12 : Int) (4 : Int))))], [U.i (0 : Int)]]) else False) (Alt ((nat_lit 2097153 = nat_lit 2097153 ∧ nat_lit 0 = nat_lit 0 ∧ nat_lit 2097153 = nat_lit 2097153 ∧ (1 : Int) ≤ (4 : Int) ∧ (4 : Int) ≤ (4 : Int) ∧ b.list.length ≤ (1099511627776 : Nat)) ∧ Alt (bif decide ((0 : Int) ≤ (0 : Int) ∧ (0 : Int) < (b.list.length : Int)) then Alt ((nat_lit 2097153 = nat_lit 2097153 ∧ nat_lit 0 = nat_lit 0 ∧ nat_lit 2097153 = nat_lit 2097153 ∧ (1 : Int) ≤ (4 : Int) ∧ (4 : Int) ≤ (4 : Int) ∧ b.list.length ≤ (1099511627776 : Nat)) ∧ (fun T => Alt T T) ((nat_lit 2097153 = nat_lit 2097153 ∧ nat_lit 0 = nat_lit 0 ∧ nat_lit 2097153 = nat_lit 2097153 ∧ (1 : Int) ≤ (4 : Int) ∧ (4 : Int) ≤ (4 : Int) ∧ b.list.length ≤ (1099511627776 : Nat)) ∧ bif !mayR (IntKind.wrap .i64 (U.int (nth (U.i (0 : Int)) b.list (Int.toNat (0 : Int))))) (IntKind.wrap .i64 (getN b.list (4 : Int) (4 : Int))) (IntKind.wrap .i64 (getN b.list (2 : Int) (2 : Int))) (IntKind.wrap .i64 (getN b.list (8 : Int) (4 : Int))) (IntKind.wrap .u32 (IntKind.wrap .i64 (getN b.list (12 : Int) (4 : Int)))) k.int then R [[U.i (0 : Int), U.i (0 : Int), U.i (0 : Int), U.i (0 : Int), U.i (0 : Int)], [U.i (3 : Int)]] else R [[U.i (IntKind.wrap .i64 (U.int (nth (U.i (0 : Int)) b.list (Int.toNat (0 : Int))))), U.i (IntKind.wrap .i64 (getN b.list (4 : Int) (4 : Int))), U.i (IntKind.wrap .i64 (getN b.list (2 : Int) (2 : Int))), U.i (IntKind.wrap .i64 (getN b.list (8 : Int) (4 : Int))), U.i (IntKind.wrap .u32 (IntKind.wrap .i64 (getN b.list (12 : Int) (4 : Int))))], [U.i (0 : Int)]])) ((nat_lit 2097153 = nat_lit 2097153 ∧ nat_lit 0 = nat_lit 0 ∧ nat_lit 2097153 = nat_lit 2097153 ∧ (1 : Int) ≤ (4 : Int) ∧ (4 : Int) ≤ (4 : Int) ∧ b.list.length ≤ (1099511627776 : Nat)) ∧ (nat_lit 2097153 = nat_lit 2097153 ∧ nat_lit 0 = nat_lit 0 ∧ nat_lit 2097153 = nat_lit 2097153 ∧ (1 : Int) ≤ (4 : Int) ∧ (4 : Int) ≤ (4 : Int) ∧ b.list.length ≤ (1099511627776 : Nat)) ∧ bif !mayR (IntKind.wrap .i64 (U.int (nth (U.i (0 : Int)) b.list (Int.toNat (0 : Int))))) (IntKind.wrap .i64 (getN b.list (4 : Int) (4 : Int))) (IntKind.wrap .i64 (getN b.list (2 : Int) (2 : Int))) (IntKind.wrap .i64 (getN b.list (8 : Int) (4 : Int))) (IntKind.wrap .u32 (IntKind.wrap .i64 (getN b.list (12 : Int) (4 : Int)))) k.int then R [[U.i (0 : Int), U.i (0 : Int), U.i (0 : Int), U.i (0 : Int), U.i (0 : Int)], [U.i (3 : Int)]] else R [[U.i (IntKind.wrap .i64 (U.int (nth (U.i (0 : Int)) b.list (Int.toNat (0 : Int))))), U.i (IntKind.wrap .i64 (getN b.list (4 : Int) (4 : Int))), U.i (IntKind.wrap .i64 (getN b.list (2 : Int) (2 : Int))), U.i (IntKind.wrap .i64 (getN b.list (8 : Int) (4 : Int))), U.i (IntKind.wrap .u32 (IntKind.wrap .i64 (getN b.list (12 : Int) (4 : Int))))], [U.i (0 : Int)]]) else False) (Alt ((nat_lit 2097153 = nat_lit 2097153 ∧ nat_lit 0 = nat_lit 0 ∧ nat_lit 2097153 = nat_lit 2097153 ∧ (1 : Int) ≤ (4 : Int) ∧ (4 : Int) ≤ (4 : Int) ∧ b.list.length ≤ (1099511627776 : Nat)) ∧ Alt (bif decide ((0 : Int) ≤ (0 : Int) ∧ (0 : Int) < (b.list.length : Int)) then (fun T => Alt T T) ((nat_lit 2097153 = nat_lit 2097153 ∧ nat_lit 0 = nat_lit 0 ∧ nat_lit 2097153 = nat_lit 2097153 ∧ (1 : Int) ≤ (4 : Int) ∧ (4 : Int) ≤ (4 : Int) ∧ b.list.length ≤ (1099511627776 : Nat)) ∧ bif !mayR (IntKind.wrap .i64 (U.int (nth (U.i (0 : Int)) b.list (Int.toNat (0 : Int))))) (IntKind.wrap .i64 (getN b.list (4 : Int) (4 : Int))) (IntKind.wrap .i64 (getN b.list (2 : Int) (2 : Int))) (IntKind.wrap .i64 (getN b.list (8 : Int) (4 : Int))) (IntKind.wrap .u32 (IntKind.wrap .i64 (getN b.list (12 : Int) (4 : Int)))) k.int then R [[U.i (0 : Int), U.i (0 : Int), U.i (0 : Int), U.i (0 : Int), U.i (0 : Int)], [U.i (3 : Int)]] else R [[U.i (IntKind.wrap .i64 (U.int (nth (U.i (0 : Int)) b.list (Int.toNat (0 : Int))))), U.i (IntKind.wrap .i64 (getN b.list (4 : Int) (4 : Int))), U.i (IntKind.wrap .i64 (getN b.list (2 : Int) (2 : Int))), U.i (IntKind.wrap .i64 (getN b.list (8 : Int) (4 : Int))), U.i (IntKind.wrap .u32 (IntKind.wrap .i64 (getN b.list (12 : Int) (4 : Int))))], [U.i (0 : Int)]]) else False) (Alt ((nat_lit 2097153 = nat_lit 2097153 ∧ nat_lit 0 = nat_lit 0 ∧ nat_lit 2097153 = nat_lit 2097153 ∧ (1 : Int) ≤ (4 : Int) ∧ (4 : Int) ≤ (4 : Int) ∧ b.list.length ≤ (1099511627776 : Nat)) ∧ (fun T => Alt T T) (bif decide ((0 : Int) ≤ (0 : Int) ∧ (0 : Int) < (b.list.length : Int)) then bif !mayR (IntKind.wrap .i64 (U.int (nth (U.i (0 : Int)) b.list (Int.toNat (0 : Int))))) (IntKind.wrap .i64 (getN b.list (4 : Int) (4 : Int))) (IntKind.wrap .i64 (getN b.list (2 : Int) (2 : Int))) (IntKind.wrap .i64 (getN b.list (8 : Int) (4 : Int))) (IntKind.wrap .u32 (IntKind.wrap .i64 (getN b.list (12 : Int) (4 : Int)))) k.int then R [[U.i (0 : Int), U.i (0 : Int), U.i (0 : Int), U.i (0 : Int), U.i (0 : Int)], [U.i (3 : Int)]] else R [[U.i (IntKind.wrap .i64 (U.int (nth (U.i (0 : Int)) b.list (Int.toNat (0 : Int))))), U.i (IntKind.wrap .i64 (getN b.list (4 : Int) (4 : Int))), U.i (IntKind.wrap .i64 (getN b.list (2 : Int) (2 : Int))), U.i (IntKind.wrap .i64 (getN b.list (8 : Int) (4 : Int))), U.i (IntKind.wrap .u32 (IntKind.wrap .i64 (getN b.list (12 : Int) (4 : Int))))], [U.i (0 : Int)]] else False)) (Alt (bif decide ((0 : Int) ≤ (0 : Int) ∧ (0 : Int) < (b.list.length : Int)) then (nat_lit 2097153 = nat_lit 2097153 ∧ nat_lit 0 = nat_lit 0 ∧ nat_lit 2097153 = nat_lit 2097153 ∧ (1 : Int) ≤ (4 : Int) ∧ (4 : Int) ≤ (4 : Int) ∧ b.list.length ≤ (1099511627776 : Nat)) ∧ bif !mayR (IntKind.wrap .i64 (U.int (nth (U.i (0 : Int)) b.list (Int.toNat (0 : Int))))) (IntKind.wrap .i64 (getN b.list (4 : Int) (4 : Int))) (IntKind.wrap .i64 (getN b.list (2 : Int) (2 : Int))) (IntKind.wrap .i64 (getN b.list (8 : Int) (4 : Int))) (IntKind.wrap .u32 (IntKind.wrap .i64 (getN b.list (12 : Int) (4 : Int)))) k.int then R [[U.i (0 : Int), U.i (0 : Int), U.i (0 : Int), U.i (0 : Int), U.i (0 : Int)], [U.i (3 : Int)]] else R [[U.i (IntKind.wrap .i64 (U.int (nth (U.i (0 : Int)) b.list (Int.toNat (0 : Int))))), U.i (IntKind.wrap .i64 (getN b.list (4 : Int) (4 : Int))), U.i (IntKind.wrap .i64 (getN b.list (2 : Int) (2 : Int))), U.i (IntKind.wrap .i64 (getN b.list (8 : Int) (4 : Int))), U.i (IntKind.wrap .u32 (IntKind.wrap .i64 (getN b.list (12 : Int) (4 : Int))))], [U.i (0 : Int)]] else False) ((nat_lit 2097153 = nat_lit 2097153 ∧ nat_lit 0 = nat_lit 0 ∧ nat_lit 2097153 = nat_lit 2097153 ∧ (1 : Int) ≤ (4 : Int) ∧ (4 : Int) ≤ (4 : Int) ∧ b.list.length ≤ (1099511627776 : Nat)) ∧ bif decide ((0 : Int) ≤ (0 : Int) ∧ (0 : Int) < (b.list.length : Int)) then bif !mayR (IntKind.wrap .i64 (U.int (nth (U.i (0 : Int)) b.list (Int.toNat (0 : Int))))) (IntKind.wrap .i64 (getN b.list (4 : Int) (4 : Int))) (IntKind.wrap .i64 (getN b.list (2 : Int) (2 : Int))) (IntKind.wrap .i64 (getN b.list (8 : Int) (4 : Int))) (IntKind.wrap .u32 (IntKind.wrap .i64 (getN b.list (12 : Int) (4 : Int)))) k.int then R [[U.i (0 : Int), U.i (0 : Int), U.i (0 : Int), U.i (0 : Int), U.i (0 : Int)], [U.i (3 : Int)]] else R [[U.i (IntKind.wrap .i64 (U.int (nth (U.i (0 : Int)) b.list (Int.toNat (0 : Int))))), U.i (IntKind.wrap .i64 (getN b.list (4 : Int) (4 : Int))), U.i (IntKind.wrap .i64 (getN b.list (2 : Int) (2 : Int))), U.i (IntKind.wrap .i64 (getN b.list (8 : Int) (4 : Int))), U.i (IntKind.wrap .u32 (IntKind.wrap .i64 (getN b.list (12 : Int) (4 : Int))))], [U.i (0 : Int)]] else False)))) (Alt (bif decide ((0 : Int) ≤ (0 : Int) ∧ (0 : Int) < (b.list.length : Int)) then (nat_lit 2097153 = nat_lit 2097153 ∧ nat_lit 0 = nat_lit 0 ∧ nat_lit 2097153 = nat_lit 2097153 ∧ (1 : Int) ≤ (4 : Int) ∧ (4 : Int) ≤ (4 : Int) ∧ b.list.length ≤ (1099511627776 : Nat)) ∧ (nat_lit 2097153 = nat_lit 2097153 ∧ nat_lit 0 = nat_lit 0 ∧ nat_lit 2097153 = nat_lit 2097153 ∧ (1 : Int) ≤ (4 : Int) ∧ (4 : Int) ≤ (4 : Int) ∧ b.list.length ≤ (1099511627776 : Nat)) ∧ bif !mayR (IntKind.wrap .i64 (U.int (nth (U.i (0 : Int)) b.list (Int.toNat (0 : Int))))) (IntKind.wrap .i64 (getN b.list (4 : Int) (4 : Int))) (IntKind.wrap .i64 (getN b.list (2 : Int) (2 : Int))) (IntKind.wrap .i64 (getN b.list (8 : Int) (4 : Int))) (IntKind.wrap .u32 (IntKind.wrap .i64 (getN b.list (12 : Int) (4 : Int)))) k.int then R [[U.i (0 : Int), U.i (0 : Int), U.i (0 : Int), U.i (0 : Int), U.i (0 : Int)], [U.i (3 : Int)]] else R [[U.i (IntKind.wrap .i64 (U.int (nth (U.i (0 : Int)) b.list (Int.toNat (0 : Int))))), U.i (IntKind.wrap .i64 (getN b.list (4 : Int) (4 : Int))), U.i (IntKind.wrap .i64 (getN b.list (2 : Int) (2 : Int))), U.i (IntKind.wrap .i64 (getN b.list (8 : Int) (4 : Int))), U.i (IntKind.wrap .u32 (IntKind.wrap .i64 (getN b.list (12 : Int) (4 : Int))))], [U.i (0 : Int)]] else False) ((nat_lit 2097153 = nat_lit 2097153 ∧ nat_lit 0 = nat_lit 0 ∧ nat_lit 2097153 = nat_lit 2097153 ∧ (1 : Int) ≤ (4 : Int) ∧ (4 : Int) ≤ (4 : Int) ∧ b.list.length ≤ (1099511627776 : Nat)) ∧ Alt (bif decide ((0 : Int) ≤ (0 : Int) ∧ (0 : Int) < (b.list.length : Int)) then (nat_lit 2097153 = nat_lit 2097153 ∧ nat_lit 0 = nat_lit 0 ∧ nat_lit 2097153 = nat_lit 2097153 ∧ (1 : Int) ≤ (4 : Int) ∧ (4 : Int) ≤ (4 : Int) ∧ b.list.length ≤ (1099511627776 : Nat)) ∧ bif !mayR (IntKind.wrap .i64 (U.int (nth (U.i (0 : Int)) b.list (Int.toNat (0 : Int))))) (IntKind.wrap .i64 (getN b.list (4 : Int) (4 : Int))) (IntKind.wrap .i64 (getN b.list (2 : Int) (2 : Int))) (IntKind.wrap .i64 (getN b.list (8 : Int) (4 : Int))) (IntKind.wrap .u32 (IntKind.wrap .i64 (getN b.list (12 : Int) (4 : Int)))) k.int then R [[U.i (0 : Int), U.i (0 : Int), U.i (0 : Int), U.i (0 : Int), U.i (0 : Int)], [U.i (3 : Int)]] else R [[U.i (IntKind.wrap .i64 (U.int (nth (U.i (0 : Int)) b.list (Int.toNat (0 : Int))))), U.i (IntKind.wrap .i64 (getN b.list (4 : Int) (4 : Int))), U.i (IntKind.wrap .i64 (getN b.list (2 : Int) (2 : Int))), U.i (IntKind.wrap .i64 (getN b.list (8 : Int) (4 : Int))), U.i (IntKind.wrap .u32 (IntKind.wrap .i64 (getN b.list (12 : Int) (4 : Int))))], [U.i (0 : Int)]] else False) ((nat_lit 2097153 = nat_lit 2097153 ∧ nat_lit 0 = nat_lit 0 ∧ nat_lit 2097153 = nat_lit 2097153 ∧ (1 : Int) ≤ (4 : Int) ∧ (4 : Int) ≤ (4 : Int) ∧ b.list.length ≤ (1099511627776 : Nat)) ∧ bif decide ((0 : Int) ≤ (0 : Int) ∧ (0 : Int) < (b.list.length : Int)) then bif !mayR (IntKind.wrap .i64 (U.int (nth (U.i (0 : Int)) b.list (Int.toNat (0 : Int))))) (IntKind.wrap .i64 (getN b.list (4 : Int) (4 : Int))) (IntKind.wrap .i64 (getN b.list (2 : Int) (2 : Int))) (IntKind.wrap .i64 (getN b.list (8 : Int) (4 : Int))) (IntKind.wrap .u32 (IntKind.wrap .i64 (getN b.list (12 : Int) (4 : Int)))) k.int then R [[U.i (0 : Int), U.i (0 : Int), U.i (0 : Int), U.i (0 : Int), U.i (0 : Int)], [U.i (3 : Int)]] else R [[U.i (IntKind.wrap .i64 (U.int (nth (U.i (0 : Int)) b.list (Int.toNat (0 : Int))))), U.i (IntKind.wrap .i64 (getN b.list (4 : Int) (4 : Int))), U.i (IntKind.wrap .i64 (getN b.list (2 : Int) (2 : Int))), U.i (IntKind.wrap .i64 (getN b.list (8 : Int) (4 : Int))), U.i (IntKind.wrap .u32 (IntKind.wrap .i64 (getN b.list (12 : Int) (4 : Int))))], [U.i (0 : Int)]] else False))))) (Alt (bif decide ((0 : Int) ≤ (0 : Int) ∧ (0 : Int) < (b.list.length : Int)) then (nat_lit 2097153 = nat_lit 2097153 ∧ nat_lit 0 = nat_lit 0 ∧ nat_lit 2097153 = nat_lit 2097153 ∧ (1 : Int) ≤ (4 : Int) ∧ (4 : Int) ≤ (4 : Int) ∧ b.list.length ≤ (1099511627776 : Nat)) ∧ (nat_lit 2097153 = nat_lit 2097153 ∧ nat_lit 0 = nat_lit 0 ∧ nat_lit 2097153 = nat_lit 2097153 ∧ (1 : Int) ≤ (4 : Int) ∧ (4 : Int) ≤ (4 : Int) ∧ b.list.length ≤ (1099511627776 : Nat)) ∧ (nat_lit 2097153 = nat_lit 2097153 ∧ nat_lit 0 = nat_lit 0 ∧ nat_lit 2097153 = nat_lit 2097153 ∧ (1 : Int) ≤ (4 : Int) ∧ (4 : Int) ≤ (4 : Int) ∧ b.list.length ≤ (1099511627776 : Nat)) ∧ bif !mayR (IntKind.wrap .i64 (U.int (nth (U.i (0 : Int)) b.list (Int.toNat (0 : Int))))) (IntKind.wrap .i64 (getN b.list (4 : Int) (4 : Int))) (IntKind.wrap .i64 (getN b.list (2 : Int) (2 : Int))) (IntKind.wrap .i64 (getN b.list (8 : Int) (4 : Int))) (IntKind.wrap .u32 (IntKind.wrap .i64 (getN b.list (12 : Int) (4 : Int)))) k.int then R [[U.i (0 : Int), U.i (0 : Int), U.i (0 : Int), U.i (0 : Int), U.i (0 : Int)], [U.i (3 : Int)]] else R [[U.i (IntKind.wrap .i64 (U.int (nth (U.i (0 : Int)) b.list (Int.toNat (0 : Int))))), U.i (IntKind.wrap .i64 (getN b.list (4 : Int) (4 : Int))), U.i (IntKind.wrap .i64 (getN b.list (2 : Int) (2 : Int))), U.i (IntKind.wrap .i64 (getN b.list (8 : Int) (4 : Int))), U.i (IntKind.wrap .u32 (IntKind.wrap .i64 (getN b.list (12 : Int) (4 : Int))))], [U.i (0 : Int)]] else False) ((nat_lit 2097153 = nat_lit 2097153 ∧ nat_lit 0 = nat_lit 0 ∧ nat_lit 2097153 = nat_lit 2097153 ∧ (1 : Int) ≤ (4 : Int) ∧ (4 : Int) ≤ (4 : Int) ∧ b.list.length ≤ (1099511627776 : Nat)) ∧ Alt (bif decide ((0 : Int) ≤ (0 : Int) ∧ (0 : Int) < (b.list.length : Int)) then (nat_lit 2097153 = nat_lit 2097153 ∧ nat_lit 0 = nat_lit 0 ∧ nat_lit 2097153 = nat_lit 2097153 ∧ (1 : Int) ≤ (4 : Int) ∧ (4 : Int) ≤ (4 : Int) ∧ b.list.length ≤ (1099511627776 : Nat)) ∧ (nat_lit 2097153 = nat_lit 2097153 ∧ nat_lit 0 = nat_lit 0 ∧ nat_lit 2097153 = nat_lit 2097153 ∧ (1 : Int) ≤ (4 : Int) ∧ (4 : Int) ≤ (4 : Int) ∧ b.list.length ≤ (1099511627776 : Nat)) ∧ bif !mayR (IntKind.wrap .i64 (U.int (nth (U.i (0 : Int)) b.list (Int.toNat (0 : Int))))) (IntKind.wrap .i64 (getN b.list (4 : Int) (4 : Int))) (IntKind.wrap .i64 (getN b.list (2 : Int) (2 : Int))) (IntKind.wrap .i64 (getN b.list (8 : Int) (4 : Int))) (IntKind.wrap .u32 (IntKind.wrap .i64 (getN b.list (12 : Int) (4 : Int)))) k.int then R [[U.i (0 : Int), U.i (0 : Int), U.i (0 : Int), U.i (0 : Int), U.i (0 : Int)], [U.i (3 : Int)]] else R [[U.i (IntKind.wrap .i64 (U.int (nth (U.i (0 : Int)) b.list (Int.toNat (0 : Int))))), U.i (IntKind.wrap .i64 (getN b.list (4 : Int) (4 : Int))), U.i (IntKind.wrap .i64 (getN b.list (2 : Int) (2 : Int))), U.i (IntKind.wrap .i64 (getN b.list (8 : Int) (4 : Int))), U.i (IntKind.wrap .u32 (IntKind.wrap .i64 (getN b.list (12 : Int) (4 : Int))))], [U.i (0 : Int)]] else False) ((nat_lit 2097153 = nat_lit 2097153 ∧ nat_lit 0 = nat_lit 0 ∧ nat_lit 2097153 = nat_lit 2097153 ∧ (1 : Int) ≤ (4 : Int) ∧ (4 : Int) ≤ (4 : Int) ∧ b.list.length ≤ (1099511627776 : Nat)) ∧ Alt (bif decide ((0 : Int) ≤ (0 : Int) ∧ (0 : Int) < (b.list.length : Int)) then (nat_lit 2097153 = nat_lit 2097153 ∧ nat_lit 0 = nat_lit 0 ∧ nat_lit 2097153 = nat_lit 2097153 ∧ (1 : Int) ≤ (4 : Int) ∧ (4 : Int) ≤ (4 : Int) ∧ b.list.length ≤ (1099511627776 : Nat)) ∧ bif !mayR (IntKind.wrap .i64 (U.int (nth (U.i (0 : Int)) b.list (Int.toNat (0 : Int))))) (IntKind.wrap .i64 (getN b.list (4 : Int) (4 : Int))) (IntKind.wrap .i64 (getN b.list (2 : Int) (2 : Int))) (IntKind.wrap .i64 (getN b.list (8 : Int) (4 : Int))) (IntKind.wrap .u32 (IntKind.wrap .i64 (getN b.list (12 : Int) (4 : Int)))) k.int then R [[U.i (0 : Int), U.i (0 : Int), U.i (0 : Int), U.i (0 : Int), U.i (0 : Int)], [U.i (3 : Int)]] else R [[U.i (IntKind.wrap .i64 (U.int (nth (U.i (0 : Int)) b.list (Int.toNat (0 : Int))))), U.i (IntKind.wrap .i64 (getN b.list (4 : Int) (4 : Int))), U.i (IntKind.wrap .i64 (getN b.list (2 : Int) (2 : Int))), U.i (IntKind.wrap .i64 (getN b.list (8 : Int) (4 : Int))), U.i (IntKind.wrap .u32 (IntKind.wrap .i64 (getN b.list (12 : Int) (4 : Int))))], [U.i (0 : Int)]] else False) ((nat_lit 2097153 = nat_lit 2097153 ∧ nat_lit 0 = nat_lit 0 ∧ nat_lit 2097153 = nat_lit 2097153 ∧ (1 : Int) ≤ (4 : Int) ∧ (4 : Int) ≤ (4 : Int) ∧ b.list.length ≤ (1099511627776 : Nat)) ∧ bif decide ((0 : Int) ≤ (0 : Int) ∧ (0 : Int) < (b.list.length : Int)) then bif !mayR (IntKind.wrap .i64 (U.int (nth (U.i (0 : Int)) b.list (Int.toNat (0 : Int))))) (IntKind.wrap .i64 (getN b.list (4 : Int) (4 : Int))) (IntKind.wrap .i64 (getN b.list (2 : Int) (2 : Int))) (IntKind.wrap .i64 (getN b.list (8 : Int) (4 : Int))) (IntKind.wrap .u32 (IntKind.wrap .i64 (getN b.list (12 : Int) (4 : Int)))) k.int then R [[U.i (0 : Int), U.i (0 : Int), U.i (0 : Int), U.i (0 : Int), U.i (0 : Int)], [U.i (3 : Int)]] else R [[U.i (IntKind.wrap .i64 (U.int (nth (U.i (0 : Int)) b.list (Int.toNat (0 : Int))))), U.i (IntKind.wrap .i64 (getN b.list (4 : Int) (4 : Int))), U.i (IntKind.wrap .i64 (getN b.list (2 : Int) (2 : Int))), U.i (IntKind.wrap .i64 (getN b.list (8 : Int) (4 : Int))), U.i (IntKind.wrap .u32 (IntKind.wrap .i64 (getN b.list (12 : Int) (4 : Int))))], [U.i (0 : Int)]] else False)))))) (Alt (bif decide ((0 : Int) ≤ (0 : Int) ∧ (0 : Int) < (b.list.length : Int)) then (nat_lit 2097153 = nat_lit 2097153 ∧ nat_lit 0 = nat_lit 0 ∧ nat_lit 2097153 = nat_lit 2097153 ∧ (1 : Int) ≤ (2 : Int) ∧ (2 : Int) ≤ (4 : Int) ∧ b.list.length ≤ (1099511627776 : Nat)) ∧ (nat_lit 2097153 = nat_lit 2097153 ∧ nat_lit 0 = nat_lit 0 ∧ nat_lit 2097153 = nat_lit 2097153 ∧ (1 : Int) ≤ (4 : Int) ∧ (4 : Int) ≤ (4 : Int) ∧ b.list.length ≤ (1099511627776 : Nat)) ∧ (nat_lit 2097153 = nat_lit 2097153 ∧ nat_lit 0 = nat_lit 0 ∧ nat_lit 2097153 = nat_lit 2097153 ∧ (1 : Int) ≤ (4 : Int) ∧ (4 : Int) ≤ (4 : Int) ∧ b.list.length ≤ (1099511627776 : Nat)) ∧ (nat_lit 2097153 = nat_lit 2097153 ∧ nat_lit 0 = nat_lit 0 ∧ nat_lit 2097153 = nat_lit 2097153 ∧ (1 : Int) ≤ (4 : Int) ∧ (4 : Int) ≤ (4 : Int) ∧ b.list.length ≤ (1099511627776 : Nat)) ∧ bif !mayR (IntKind.wrap .i64 (U.int (nth (U.i (0 : Int)) b.list (Int.toNat (0 : Int))))) (IntKind.wrap .i64 (getN b.list (4 : Int) (4 : Int))) (IntKind.wrap .i64 (getN b.list (2 : Int) (2 : Int))) (IntKind.wrap .i64 (getN b.list (8 : Int) (4 : Int))) (IntKind.wrap .u32 (IntKind.wrap .i64 (getN b.list (12 : Int) (4 : Int)))) k.int then R [[U.i (0 : Int), U.i (0 : Int), U.i (0 : Int), U.i (0 : Int), U.i (0 : Int)], [U.i (3 : Int)]] else R [[U.i (IntKind.wrap .i64 (U.int (nth (U.i (0 : Int)) b.list (Int.toNat (0 : Int))))), U.i (IntKind.wrap .i64 (getN b.list (4 : Int) (4 : Int))), U.i (IntKind.wrap .i64 (getN b.list (2 : Int) (2 : Int))), U.i (IntKind.wrap .i64 (getN b.list (8 : Int) (4 : Int))), U.i (IntKind.wrap .u32 (IntKind.wrap .i64 (getN b.list (12 : Int) (4 : Int))))], [U.i (0 : Int)]] else False) ((nat_lit 2097153 = nat_lit 2097153 ∧ nat_lit 0 = nat_lit 0 ∧ nat_lit 2097153 = nat_lit 2097153 ∧ (1 : Int) ≤ (2 : Int) ∧ (2 : Int) ≤ (4 : Int) ∧ b.list.length ≤ (1099511627776 : Nat)) ∧ Alt (bif decide ((0 : Int) ≤ (0 : Int) ∧ (0 : Int) < (b.list.length : Int)) then (nat_lit 2097153 = nat_lit 2097153 ∧ nat_lit 0 = nat_lit 0 ∧ nat_lit 2097153 = nat_lit 2097153 ∧ (1 : Int) ≤ (4 : Int) ∧ (4 : Int) ≤ (4 : Int) ∧ b.list.length ≤ (1099511627776 : Nat)) ∧ (nat_lit 2097153 = nat_lit 2097153 ∧ nat_lit 0 = nat_lit 0 ∧ nat_lit 2097153 = nat_lit 2097153 ∧ (1 : Int) ≤ (4 : Int) ∧ (4 : Int) ≤ (4 : Int) ∧ b.list.length ≤ (1099511627776 : Nat)) ∧ (nat_lit 2097153 = nat_lit 2097153 ∧ nat_lit 0 = nat_lit 0 ∧ nat_lit 2097153 = nat_lit 2097153 ∧ (1 : Int) ≤ (4 : Int) ∧ (4 : Int) ≤ (4 : Int) ∧ b.list.length ≤ (1099511627776 : Nat)) ∧ bif !mayR (IntKind.wrap .i64 (U.int (nth (U.i (0 : Int)) b.list (Int.toNat (0 : Int))))) (IntKind.wrap .i64 (getN b.list (4 : Int) (4 : Int))) (IntKind.wrap .i64 (getN b.list (2 : Int) (2 : Int))) (IntKind.wrap .i64 (getN b.list (8 : Int) (4 : Int))) (IntKind.wrap .u32 (IntKind.wrap .i64 (getN b.list (12 : Int) (4 : Int)))) k.int then R [[U.i (0 : Int), U.i (0 : Int), U.i (0 : Int), U.i (0 : Int), U.i (0 : Int)], [U.i (3 : Int)]] else R [[U.i (IntKind.wrap .i64 (U.int (nth (U.i (0 : Int)) b.list (Int.toNat (0 : Int))))), U.i (IntKind.wrap .i64 (getN b.list (4 : Int) (4 : Int))), U.i (IntKind.wrap .i64 (getN b.list (2 : Int) (2 : Int))), U.i (IntKind.wrap .i64 (getN b.list (8 : Int) (4 : Int))), U.i (IntKind.wrap .u32 (IntKind.wrap .i64 (getN b.list (12 : Int) (4 : Int))))], [U.i (0 : Int)]] else False) ((nat_lit 2097153 = nat_lit 2097153 ∧ nat_lit 0 = nat_lit 0 ∧ nat_lit 2097153 = nat_lit 2097153 ∧ (1 : Int) ≤ (4 : Int) ∧ (4 : Int) ≤ (4 : Int) ∧ b.list.length ≤ (1099511627776 : Nat)) ∧ Alt (bif decide ((0 : Int) ≤ (0 : Int) ∧ (0 : Int) < (b.list.length : Int)) then (nat_lit 2097153 = nat_lit 2097153 ∧ nat_lit 0 = nat_lit 0 ∧ nat_lit 2097153 = nat_lit 2097153 ∧ (1 : Int) ≤ (4 : Int) ∧ (4 : Int) ≤ (4 : Int) ∧ b.list.length ≤ (1099511627776 : Nat)) ∧ (nat_lit 2097153 = nat_lit 2097153 ∧ nat_lit 0 = nat_lit 0 ∧ nat_lit 2097153 = nat_lit 2097153 ∧ (1 : Int) ≤ (4 : Int) ∧ (4 : Int) ≤ (4 : Int) ∧ b.list.length ≤ (1099511627776 : Nat)) ∧ bif !mayR (IntKind.wrap .i64 (U.int (nth (U.i (0 : Int)) b.list (Int.toNat (0 : Int))))) (IntKind.wrap .i64 (getN b.list (4 : Int) (4 : Int))) (IntKind.wrap .i64 (getN b.list (2 : Int) (2 : Int))) (IntKind.wrap .i64 (getN b.list (8 : Int) (4 : Int))) (IntKind.wrap .u32 (IntKind.wrap .i64 (getN b.list (12 : Int) (4 : Int)))) k.int then R [[U.i (0 : Int), U.i (0 : Int), U.i (0 : Int), U.i (0 : Int), U.i (0 : Int)], [U.i (3 : Int)]] else R [[U.i (IntKind.wrap .i64 (U.int (nth (U.i (0 : Int)) b.list (Int.toNat (0 : Int))))), U.i (IntKind.wrap .i64 (getN b.list (4 : Int) (4 : Int))), U.i (IntKind.wrap .i64 (getN b.list (2 : Int) (2 : Int))), U.i (IntKind.wrap .i64 (getN b.list (8 : Int) (4 : Int))), U.i (IntKind.wrap .u32 (IntKind.wrap .i64 (getN b.list (12 : Int) (4 : Int))))], [U.i (0 : Int)]] else False) ((nat_lit 2097153 = nat_lit 2097153 ∧ nat_lit 0 = nat_lit 0 ∧ nat_lit 2097153 = nat_lit 2097153 ∧ (1 : Int) ≤ (4 : Int) ∧ (4 : Int) ≤ (4 : Int) ∧ b.list.length ≤ (1099511627776 : Nat)) ∧ Alt (bif decide ((0 : Int) ≤ (0 : Int) ∧ (0 : Int) < (b.list.length : Int)) then (nat_lit 2097153 = nat_lit 2097153 ∧ nat_lit 0 = nat_lit 0 ∧ nat_lit 2097153 = nat_lit 2097153 ∧ (1 : Int) ≤ (4 : Int) ∧ (4 : Int) ≤ (4 : Int) ∧ b.list.length ≤ (1099511627776 : Nat)) ∧ bif !mayR (IntKind.wrap .i64 (U.int (nth (U.i (0 : Int)) b.list (Int.toNat (0 : Int))))) (IntKind.wrap .i64 (getN b.list (4 : Int) (4 : Int))) (IntKind.wrap .i64 (getN b.list (2 : Int) (2 : Int))) (IntKind.wrap .i64 (getN b.list (8 : Int) (4 : Int))) (IntKind.wrap .u32 (IntKind.wrap .i64 (getN b.list (12 : Int) (4 : Int)))) k.int then R [[U.i (0 : Int), U.i (0 : Int), U.i (0 : Int), U.i (0 : Int), U.i (0 : Int)], [U.i (3 : Int)]] else R [[U.i (IntKind.wrap .i64 (U.int (nth (U.i (0 : Int)) b.list (Int.toNat (0 : Int))))), U.i (IntKind.wrap .i64 (getN b.list (4 : Int) (4 : Int))), U.i (IntKind.wrap .i64 (getN b.list (2 : Int) (2 : Int))), U.i (IntKind.wrap .i64 (getN b.list (8 : Int) (4 : Int))), U.i (IntKind.wrap .u32 (IntKind.wrap .i64 (getN b.list (12 : Int) (4 : Int))))], [U.i (0 : Int)]] else False) ((nat_lit 2097153 = nat_lit 2097153 ∧ nat_lit 0 = nat_lit 0 ∧ nat_lit 2097153 = nat_lit 2097153 ∧ (1 : Int) ≤ (4 : Int) ∧ (4 : Int) ≤ (4 : Int) ∧ b.list.length ≤ (1099511627776 : Nat)) ∧ bif decide ((0 : Int) ≤ (0 : Int) ∧ (0 : Int) < (b.list.length : Int)) then bif !mayR (IntKind.wrap .i64 (U.int (nth (U.i (0 : Int)) b.list (Int.toNat (0 : Int))))) (IntKind.wrap .i64 (getN b.list (4 : Int) (4 : Int))) (IntKind.wrap .i64 (getN b.list (2 : Int) (2 : Int))) (IntKind.wrap .i64 (getN b.list (8 : Int) (4 : Int))) (IntKind.wrap .u32 (IntKind.wrap .i64 (getN b.list (12 : Int) (4 : Int)))) k.int then R [[U.i (0 : Int), U.i (0 : Int), U.i (0 : Int), U.i (0 : Int), U.i (0 : Int)], [U.i (3 : Int)]] else R [[U.i (IntKind.wrap .i64 (U.int (nth (U.i (0 : Int)) b.list (Int.toNat (0 : Int))))), U.i (IntKind.wrap .i64 (getN b.list (4 : Int) (4 : Int))), U.i (IntKind.wrap .i64 (getN b.list (2 : Int) (2 : Int))), U.i (IntKind.wrap .i64 (getN b.list (8 : Int) (4 : Int))), U.i (IntKind.wrap .u32 (IntKind.wrap .i64 (getN b.list (12 : Int) (4 : Int))))], [U.i (0 : Int)]] else False)))))) else False) := by kernel_rfl
end Go.Mat

namespace Go.Mat
open Go Go.Den Go.Proofs
theorem leV_bd : ∀ {l : List U}, byteOk l → 0 ≤ leV l ∧ leV l < 256 ^ l.length
  | [], _ => by simp [leV]
  | u :: r, h => by
    have h1 := h u (List.mem_cons_self ..)
    have h2 := leV_bd (l := r) fun x hx => h x (List.mem_cons_of_mem _ hx)
    rw [leV, List.length_cons, Int.pow_succ]
    omega
theorem getN_bd {b : List U} {a n : Int} (h : byteOk b) (hn : 0 ≤ n) : 0 ≤ getN b a n ∧ getN b a n < 256 ^ n.toNat := by
  unfold getN
  cases ht : thereR b a n with
  | false =>
    have : (0 : Int) < 256 ^ n.toNat := Int.pow_pos (by omega)
    exact ⟨by simp, this⟩
  | true =>
    have h1 := leV_bd (sub_bytes a n h)
    have h2 := sub_len ht hn
    rw [show (sub b a n).length = n.toNat by omega] at h1
    exact h1
theorem getN1 {b : List U} {a : Int} (h : byteOk b) : 0 ≤ getN b a 1 ∧ getN b a 1 ≤ 255 := by
  have := getN_bd (a := a) (n := 1) h (by omega)
  simp only [Int.reduceToNat, Int.reducePow] at this
  omega
theorem getN2 {b : List U} {a : Int} (h : byteOk b) : 0 ≤ getN b a 2 ∧ getN b a 2 ≤ 65535 := by
  have := getN_bd (a := a) (n := 2) h (by omega)
  simp only [Int.reduceToNat, Int.reducePow] at this
  omega
theorem getN4 {b : List U} {a : Int} (h : byteOk b) : 0 ≤ getN b a 4 ∧ getN b a 4 ≤ 4294967295 := by
  have := getN_bd (a := a) (n := 4) h (by omega)
  simp only [Int.reduceToNat, Int.reducePow] at this
  omega
theorem getE_iff {b : List U} {a n : Int} : (getE b a n != 0) = !thereR b a n := by
  unfold getE
  cases thereR b a n <;> rfl
theorem read_ok : SpecFP PR 73 readP readS := fun fn us hfn hpre => by
  have hf : PR.funcs[(73 : Nat)]? = some Try.f73 := by kernel_rfl
  rw [hf] at hfn; cases hfn
  refine fn_okH (C := readC) (mkC_ok eqs0_ok mixed_ok (.consP there_ok (.consP get_ok .nil)) .nil) hf (by kernel_rfl) (loops_none (by kernel_rfl)) fun hok => ?_
  have hp : Try.f73.params.toList = [32, 3] := by kernel_rfl
  rw [hp] at hok
  obtain ⟨b, a, hus⟩ : ∃ b a, us = [[b], [a]] := by
    obtain ⟨u, u2, rfl, h1, h2⟩ := shape2 (by kernel_rfl : Cs PR 32 = some (false, [.sl false [.int .u8]])) (by kernel_rfl : Cs PR 3 = some (false, [.int .i64])) hok.1
    obtain ⟨b, rfl⟩ := len1 h1
    obtain ⟨a, rfl⟩ := len1 h2
    exact ⟨b, a, rfl⟩
  subst hus
  have hbk : byteOk b.list := bytes_ok (hok.2 [vl (.int .u8) b, vi a] (by kernel_rfl)).1
  refine .eq (read_tree _ b a) ?_
  have hb : b.list.length ≤ 1099511627776 := hpre
  have hn := getN2 (a := a.int) hbk
  unfold readS readV readA readE readR
  simp only [nth_zero, nth_succ]
  refine ⟨⟨by show (1 : Int) ≤ 2; omega, by show (2 : Int) ≤ 4; omega, rfl, hb⟩, ?_⟩
  rw [getE_iff]
  refine bi (fun h => by rw [nt h]; rfl) (fun h => ?_)
  have h := nf h
  rw [h]
  have hi := thereR_iff.1 h
  rw [i64_in (x := a.int + 2) (by omega) (by omega), i64_in (x := getN b.list a.int 2) (by omega) (by omega), i64_in (x := a.int + 2 + getN b.list a.int 2) (by omega) (by omega), Bool.true_and]
  refine ⟨⟨by show 0 ≤ getN b.list a.int 2; omega, by show getN b.list a.int 2 ≤ _; omega, hb⟩, bi (fun h1 => by rw [nt h1]; rfl) (fun h1 => ?_)⟩
  rw [nf h1]
  rfl
theorem clo_ok : SpecT PR 82 cloF := fun fn hfn => by
  have hf : PR.funcs[(82 : Nat)]? = some Try.f82 := by kernel_rfl
  rw [hf] at hfn; cases hfn
  refine fnT_okH (C := cloC) (mkC_ok eqs0_ok mixed_ok (.consP get_ok .nil) .nil) hf (by kernel_rfl) (loops_none (by kernel_rfl)) fun vs objs R h1 h2 h => ?_
  clear h1 h2
  unfold cloF at h
  split at h
  · rename_i a n p o i b
    obtain ⟨⟨rfl, rfl, rfl, h1, h4, hb⟩, h⟩ := h
    refine .eq (clo_tree R a n b) ?_
    exact ⟨⟨h1, h4, rfl, hb⟩, h⟩
  · exact h.elim
theorem egetR_no {b : List U} {k : Int} (h : ¬ (b.length = 16 ∧ (U.at b 1).int = 0)) : egetR b k = false := by
  unfold egetR
  refine Bool.eq_false_iff.2 fun h' => h ?_
  simp only [Bool.and_eq_true, decide_eq_true_eq, beq_iff_eq] at h'
  exact ⟨h'.1.1, h'.1.2⟩
theorem u32_in {x : Int} (h : 0 ≤ x) (h' : x ≤ 4294967295) : IntKind.wrap .u32 x = x := by
  simp only [IntKind.wrap, IntKind.bits, IntKind.signed]; simp; omega
theorem eget_ok : SpecF PR 81 egetS := fun fn us hfn => by
  have hf : PR.funcs[(81 : Nat)]? = some Try.f81 := by kernel_rfl
  rw [hf] at hfn; cases hfn
  refine fn_okH (C := egetC) (mkC_ok eqs0_ok mixed_ok (.cons may_ok .nil) (.cons clo_ok .nil)) hf (by kernel_rfl) (loops_none (by kernel_rfl)) fun hok => ?_
  have hp : Try.f81.params.toList = [32, 3] := by kernel_rfl
  rw [hp] at hok
  obtain ⟨b, k, hus⟩ : ∃ b k, us = [[b], [k]] := by
    obtain ⟨u, u2, rfl, h1, h2⟩ := shape2 (by kernel_rfl : Cs PR 32 = some (false, [.sl false [.int .u8]])) (by kernel_rfl : Cs PR 3 = some (false, [.int .i64])) hok.1
    obtain ⟨b, rfl⟩ := len1 h1
    obtain ⟨k, rfl⟩ := len1 h2
    exact ⟨b, k, rfl⟩
  subst hus
  have hbk : byteOk b.list := bytes_ok (hok.2 [vl (.int .u8) b, vi k] (by kernel_rfl)).1
  refine .eq (eget_tree _ b k) ?_
  have hS : egetS [[b], [k]] = [[.i (bif egetR b.list k.int then eK b.list else 0), .i (bif egetR b.list k.int then eS b.list else 0), .i (bif egetR b.list k.int then eC b.list else 0), .i (bif egetR b.list k.int then eZ b.list else 0), .i (bif egetR b.list k.int then eM b.list else 0)], [.i (bif egetR b.list k.int then 0 else 3)]] := rfl
  rw [hS]
  refine bi (fun h => ?_) (fun h => ?_)
  · have h := nt h
    rw [egetR_no (fun h' => by rw [h'.1] at h; simp at h)]; rfl
  have h := nf h
  simp only [beq_iff_eq] at h
  have hl : b.list.length = 16 := by omega
  refine dt ⟨by omega, by omega⟩ (bi (fun h1 => ?_) (fun h1 => ?_))
  · have h1 := nt h1
    rw [egetR_no (fun h' => by have h2 := h'.2; simp only [U.at] at h2; rw [show Int.toNat 1 = 1 from rfl, h2] at h1; simp at h1)]; rfl
  have h1 := nf h1
  have hb40 : b.list.length ≤ 1099511627776 := by omega
  have d0 : decide ((0 : Int) ≤ 0 ∧ (0 : Int) < (b.list.length : Int)) = true := decide_eq_true ⟨by omega, by omega⟩
  have g2 := getN2 (a := 2) hbk
  have g4 := getN4 (a := 4) hbk
  have g8 := getN4 (a := 8) hbk
  have g12 := getN4 (a := 12) hbk
  have gk := hbk _ (mem_at (L := b.list) (i := 0) (by omega))
  simp only [U.at] at gk
  have w0 : IntKind.wrap .i64 (nth (U.i 0) b.list 0).int = (nth (U.i 0) b.list 0).int := i64_in (by omega) (by omega)
  have w2 : IntKind.wrap .i64 (getN b.list 2 2) = getN b.list 2 2 := i64_in (by omega) (by omega)
  have w4 : IntKind.wrap .i64 (getN b.list 4 4) = getN b.list 4 4 := i64_in (by omega) (by omega)
  have w8 : IntKind.wrap .i64 (getN b.list 8 4) = getN b.list 8 4 := i64_in (by omega) (by omega)
  have w12 : IntKind.wrap .u32 (IntKind.wrap .i64 (getN b.list 12 4)) = getN b.list 12 4 := by rw [i64_in (by omega) (by omega), u32_in (by omega) (by omega)]
  have hR : egetR b.list k.int = mayR (nth (U.i 0) b.list 0).int (getN b.list 4 4) (getN b.list 2 2) (getN b.list 8 4) (getN b.list 12 4) k.int := by
    unfold egetR
    rw [decide_eq_true hl, show ((U.at b.list 1).int == 0) = true from h1]
    rfl
  have d1 : decide ((0 : Int) < (b.list.length : Int)) = true := decide_eq_true (by omega)
  simp only [d0, d1, cond_true, hb40, Int.toNat_zero, w0, w2, w4, w8, w12, Int.reduceLE, and_self, true_and, Alt_self, ← hR]
  exact bi (fun h2 => by rw [nt h2]; rfl) (fun h2 => by rw [nf h2]; rfl)
end Go.Mat

namespace Go.Mat
open Go Go.Den Go.Proofs
abbrev entT : TypeId := 54
abbrev leafT : TypeId := 51
def entU (b : List U) : U := .l [.i (eK b), .i (eS b), .i (eC b), .i (eZ b), .i (eM b)]
def entsK (b : List U) (k : Int) : Nat → Int → Bool
  | 0, _ => true
  | m + 1, a => decide (a + 16 ≤ (b.length : Int)) && egetR (sub b a 16) k && entsK b k m (a + 16)
def entsG (b : List U) : Nat → Int → List U
  | 0, _ => []
  | m + 1, a => entU (sub b a 16) :: entsG b m (a + 16)
def padU (L : List U) (i : Int) : List U := L ++ List.replicate (i - L.length).toNat (.l [])
def leavesK (b : List U) (k : Int) : Nat → Int → List U → Bool
  | 0, _, _ => true
  | m + 1, a, L => thereR b a 2 && decide ((L.length : Int) ≤ getN b a 2) && decide (getN b a 2 < 512) && entsK b k 8 (a + 2) && leavesK b k m (a + 130) (padU L (getN b a 2) ++ [.l (entsG b 8 (a + 2))])
def leavesG (b : List U) : Nat → Int → List U → List U
  | 0, _, L => L
  | m + 1, a, L => leavesG b m (a + 130) (padU L (getN b a 2) ++ [.l (entsG b 8 (a + 2))])
abbrev tgL (b : List U) (a : Int) : List U := leavesG b (getN b a 2).toNat (a + 2) []
def tgR (b : List U) (a n k : Int) : Bool := thereR b a 2 && leavesK b k (getN b a 2).toNat (a + 2) [] && tableR (tgL b a) n k
def tgP : List (List U) → Prop := fun us => (nth (.i 0) (nth [] us 0) 0).list.length ≤ 1099511627776
def tgS : List (List U) → List (List U) := fun us => [[.l (bif tgR (nth (.i 0) (nth [] us 0) 0).list (nth (.i 0) (nth [] us 1) 0).int (nth (.i 0) (nth [] us 2) 0).int (nth (.i 0) (nth [] us 3) 0).int then tgL (nth (.i 0) (nth [] us 0) 0).list (nth (.i 0) (nth [] us 1) 0).int else [])],
  [.i (bif tgR (nth (.i 0) (nth [] us 0) 0).list (nth (.i 0) (nth [] us 1) 0).int (nth (.i 0) (nth [] us 2) 0).int (nth (.i 0) (nth [] us 3) 0).int then (nth (.i 0) (nth [] us 1) 0).int + 2 + 130 * getN (nth (.i 0) (nth [] us 0) 0).list (nth (.i 0) (nth [] us 1) 0).int 2 else 0)],
  [.i (bif tgR (nth (.i 0) (nth [] us 0) 0).list (nth (.i 0) (nth [] us 1) 0).int (nth (.i 0) (nth [] us 2) 0).int (nth (.i 0) (nth [] us 3) 0).int then 0 else 3)]]
abbrev tgO (L : List U) : List (Nat × Den.Obj) := [(1024, .box [.own 1026]), (1026, .arr leafT []), (1664, .box [.own 1666]), (1666, .arr leafT L)]
abbrev tgBad : St := ⟨[(8, .ptr 1024 0), (9, vi (.i 0)), (10, vi (.i 3))], [(1024, .box [.own 8519682]), (8519682, .arr leafT [])]⟩
def tgIs (o1 o2 : Nat) (t1 t2 : TypeId) (z : List U) (p8 p13 o8 o13 : Nat) : Prop := o1 = 1026 ∧ o2 = 1666 ∧ t1 = leafT ∧ t2 = leafT ∧ z = [] ∧ p8 = 1024 ∧ p13 = 1664 ∧ o8 = 0 ∧ o13 = 0
noncomputable def tgLoop2 : LoopF := fun _ svs os k => match svs, os with
  | [.val (.int .u64) v, .ptr p13 o13, .ptr p8 o8, .val (.sl false [.int .u8]) b, .val (.int .i64) a, .val (.int .i64) n, .val (.int .i64) kk, .val (.int .u64) m, .val (.int .u64) i], [.box [.own o1], .arr t1 z, .box [.own o2], .arr t2 L] =>
    (tgIs o1 o2 t1 t2 z p8 p13 o8 o13 ∧ 0 ≤ v.int ∧ v.int < 512 ∧ L.length ≤ 512) ∧
    k (.exit 2) ⟨[(13, .ptr 1664 0), (8, .ptr 1024 0), (0, vl (.int .u8) b), (1, vi a), (2, vi n), (3, vi kk), (30, vu m), (31, vu i)], tgO (padU L v.int)⟩
  | _, _ => False
noncomputable def tgLoop4 : LoopF := fun _ svs os k => match svs, os with
  | [.val (.int .i64) j, .own o16, .ptr p13 o13, .ptr p8 o8, .val (.sl false [.int .u8]) b, .val (.int .i64) a, .val (.int .i64) n, .val (.int .i64) kk, .val (.int .u64) m, .val (.int .u64) i], [.arr t16 xs, .box [.own o1], .arr t1 z, .box [.own o2], .arr t2 L] =>
    (tgIs o1 o2 t1 t2 z p8 p13 o8 o13 ∧ o16 = 2172 ∧ t16 = entT ∧ a = .i a.int ∧ b.list.length ≤ 1099511627776 ∧ 0 ≤ a.int ∧ a.int ≤ b.list.length ∧ 0 ≤ j.int ∧ j.int ≤ 8 ∧ (xs.length : Int) = j.int ∧ byteOk b.list) ∧
    (bif entsK b.list kk.int (8 - j.int).toNat a.int then
      k (.exit 4) ⟨[(16, .own 2172), (13, .ptr 1664 0), (8, .ptr 1024 0), (0, vl (.int .u8) b), (1, vi (.i (a.int + 16 * (8 - j.int)))), (2, vi n), (3, vi kk), (30, vu m), (31, vu i)], (2172, .arr entT (xs ++ entsG b.list (8 - j.int).toNat a.int)) :: tgO L⟩
      else k .ret tgBad)
  | _, _ => False
noncomputable def tgLoop0 : LoopF := fun _ svs os k => match svs, os with
  | [.val (.int .u64) i, .val (.int .u64) m, .ptr p13 o13, .ptr p8 o8, .val (.sl false [.int .u8]) b, .val (.int .i64) a, .val (.int .i64) n, .val (.int .i64) kk], [.box [.own o1], .arr t1 z, .box [.own o2], .arr t2 L] =>
    (tgIs o1 o2 t1 t2 z p8 p13 o8 o13 ∧ a = .i a.int ∧ b.list.length ≤ 1099511627776 ∧ 0 ≤ a.int ∧ a.int ≤ b.list.length ∧ 0 ≤ i.int ∧ i.int ≤ m.int ∧ m.int ≤ 65535 ∧ L.length ≤ 512 ∧ byteOk b.list) ∧
    (bif leavesK b.list kk.int (m.int - i.int).toNat a.int L then
      k (.exit 0) ⟨[(13, .ptr 1664 0), (8, .ptr 1024 0), (1, vi (.i (a.int + 130 * (m.int - i.int)))), (2, vi n), (3, vi kk)], tgO (leavesG b.list (m.int - i.int).toNat a.int L)⟩
      else k .ret tgBad)
  | _, _ => False
noncomputable def tgC : Ctx := mkC PR eqs0 (fnsConsP 72 getP getS (fnsCons 81 egetS (fnsCons 46 tableS fnsNil))) trsNil
  (loopCons 4 [67, 16, 13, 8, 0, 1, 2, 3, 30, 31] [2172, 1024, 1026, 1664, 1666] tgLoop4 (loopCons 2 [14, 13, 8, 0, 1, 2, 3, 30, 31] [1024, 1026, 1664, 1666] tgLoop2 (loopCons 0 [31, 30, 13, 8, 0, 1, 2, 3] [1024, 1026, 1664, 1666] tgLoop0 noLoops)))
  (outCons 4 [16, 13, 8, 0, 1, 2, 3, 30, 31] [2172, 1024, 1026, 1664, 1666] (outCons 1048580 [8, 9, 10] [1024, 8519682] (outCons 2 [13, 8, 0, 1, 2, 3, 30, 31] [1024, 1026, 1664, 1666] (outCons 0 [13, 8, 1, 2, 3] [1024, 1026, 1664, 1666] (outCons 1048576 [8, 9, 10] [1024, 8519682] noOut))))) noOut
theorem tg_round2 (pan : KP) (μ : Mu) (N : Nat) (k : KE) (v b a n kk m i : U) (L : List U) : (exec (tgC.panics pan) (loopBody Try.f74 1) 2 ⟨[(14, vu v), (13, .ptr 1664 0), (8, .ptr 1024 0), (0, vl (.int .u8) b), (1, vi a), (2, vi n), (3, vi kk), (30, vu m), (31, vu i)], tgO L⟩ (again PR (some ([13, 8, 0, 1, 2, 3, 30, 31], [1024, 1026, 1664, 1666])) none pan [14, 13, 8, 0, 1, 2, 3, 30, 31] [1024, 1026, 1664, 1666] tgLoop2 μ N k)) = (bif decide ((L.length : Int) < IntKind.wrap .i64 v.int) then bif decide (List.length L + ((0 : Nat) + (1 : Nat)) ≤ room) && !oddB (1666 : Nat) then bif Nat.blt (μ [.val (.int IntKind.u64) v, .ptr (nat_lit 1664) (nat_lit 0), .ptr (nat_lit 1024) (nat_lit 0), .val (.sl false [.int .u8]) b, .val (.int IntKind.i64) a, .val (.int IntKind.i64) n, .val (.int IntKind.i64) kk, .val (.int IntKind.u64) m, .val (.int IntKind.u64) i] [.box [.own (nat_lit 1026)], .arr (nat_lit 51) [], .box [.own (nat_lit 1666)], .arr (nat_lit 51) (L ++ [U.l []])]) N then (tgIs (1026 : Nat) (1666 : Nat) leafT (51 : Nat) [] (1024 : Nat) (1664 : Nat) (0 : Nat) (0 : Nat) ∧ (0 : Int) ≤ v.int ∧ v.int < (512 : Int) ∧ List.length (L ++ [U.l []]) ≤ (512 : Nat)) ∧ k (Ex.exit (nat_lit 2)) (St.mk [(nat_lit 13, .ptr (nat_lit 1664) (nat_lit 0)), (nat_lit 8, .ptr (nat_lit 1024) (nat_lit 0)), (nat_lit 0, .val (.sl false [.int .u8]) b), (nat_lit 1, .val (.int IntKind.i64) a), (nat_lit 2, .val (.int IntKind.i64) n), (nat_lit 3, .val (.int IntKind.i64) kk), (nat_lit 30, .val (.int IntKind.u64) m), (nat_lit 31, .val (.int IntKind.u64) i)] [(nat_lit 1024, .box [.own (nat_lit 1026)]), (nat_lit 1026, .arr (nat_lit 51) []), (nat_lit 1664, .box [.own (nat_lit 1666)]), (nat_lit 1666, .arr (nat_lit 51) (padU (L ++ [U.l []]) v.int))]) else False else False else k (Ex.exit (nat_lit 2)) (St.mk [(nat_lit 13, .ptr (nat_lit 1664) (nat_lit 0)), (nat_lit 8, .ptr (nat_lit 1024) (nat_lit 0)), (nat_lit 0, .val (.sl false [.int .u8]) b), (nat_lit 1, .val (.int IntKind.i64) a), (nat_lit 2, .val (.int IntKind.i64) n), (nat_lit 3, .val (.int IntKind.i64) kk), (nat_lit 30, .val (.int IntKind.u64) m), (nat_lit 31, .val (.int IntKind.u64) i)] [(nat_lit 1024, .box [.own (nat_lit 1026)]), (nat_lit 1026, .arr (nat_lit 51) []), (nat_lit 1664, .box [.own (nat_lit 1666)]), (nat_lit 1666, .arr (nat_lit 51) L)])) := by kernel_rfl
theorem tg_round4 (pan : KP) (μ : Mu) (N : Nat) (k : KE) (j b a n kk m i : U) (xs L : List U) : (exec (tgC.panics pan) (loopBody Try.f74 2) 4 ⟨[(67, vi j), (16, .own 2172), (13, .ptr 1664 0), (8, .ptr 1024 0), (0, vl (.int .u8) b), (1, vi a), (2, vi n), (3, vi kk), (30, vu m), (31, vu i)], (2172, .arr entT xs) :: tgO L⟩ (again PR (some ([16, 13, 8, 0, 1, 2, 3, 30, 31], [2172, 1024, 1026, 1664, 1666])) (some ([8, 9, 10], [1024, 8519682])) pan [67, 16, 13, 8, 0, 1, 2, 3, 30, 31] [2172, 1024, 1026, 1664, 1666] tgLoop4 μ N k)) = (bif decide (j.int < (8 : Int)) then bif decide (IntKind.wrap .i64 ((b.list.length : Int) - a.int) < (16 : Int)) then k Ex.ret (St.mk [(nat_lit 8, .ptr (nat_lit 1024) (nat_lit 0)), (nat_lit 9, .val (.int IntKind.i64) (U.i (0 : Int))), (nat_lit 10, .val (.int IntKind.i64) (U.i (3 : Int)))] [(nat_lit 1024, .box [.own (nat_lit 8519682)]), (nat_lit 8519682, .arr (nat_lit 51) [])]) else bif decide ((0 : Int) ≤ a.int ∧ a.int ≤ IntKind.wrap .i64 (a.int + (16 : Int)) ∧ IntKind.wrap .i64 (a.int + (16 : Int)) ≤ IntKind.wrap .i64 (a.int + (16 : Int)) ∧ IntKind.wrap .i64 (a.int + (16 : Int)) ≤ (b.list.length : Int)) && true then bif (bif egetR (List.drop (Int.toNat a.int) (List.take (Int.toNat (IntKind.wrap .i64 (a.int + (16 : Int)))) b.list)) kk.int then (0 : Int) else (3 : Int)) != (0 : Int) then k Ex.ret (St.mk [(nat_lit 8, .ptr (nat_lit 1024) (nat_lit 0)), (nat_lit 9, .val (.int IntKind.i64) (U.i (0 : Int))), (nat_lit 10, .val (.int IntKind.i64) (U.i (3 : Int)))] [(nat_lit 1024, .box [.own (nat_lit 8519682)]), (nat_lit 8519682, .arr (nat_lit 51) [])]) else bif decide (List.length xs + ((0 : Nat) + (1 : Nat)) ≤ room) && !oddB (2172 : Nat) then bif Nat.blt (μ [.val (.int IntKind.i64) (U.i (IntKind.wrap .i64 (j.int + (1 : Int)))), .own (nat_lit 2172), .ptr (nat_lit 1664) (nat_lit 0), .ptr (nat_lit 1024) (nat_lit 0), .val (.sl false [.int .u8]) b, .val (.int IntKind.i64) (U.i (IntKind.wrap .i64 (a.int + (16 : Int)))), .val (.int IntKind.i64) n, .val (.int IntKind.i64) kk, .val (.int IntKind.u64) m, .val (.int IntKind.u64) i] [.arr (nat_lit 54) (xs ++ [U.l [U.i (bif egetR (List.drop (Int.toNat a.int) (List.take (Int.toNat (IntKind.wrap .i64 (a.int + (16 : Int)))) b.list)) kk.int then eK (List.drop (Int.toNat a.int) (List.take (Int.toNat (IntKind.wrap .i64 (a.int + (16 : Int)))) b.list)) else (0 : Int)), U.i (bif egetR (List.drop (Int.toNat a.int) (List.take (Int.toNat (IntKind.wrap .i64 (a.int + (16 : Int)))) b.list)) kk.int then eS (List.drop (Int.toNat a.int) (List.take (Int.toNat (IntKind.wrap .i64 (a.int + (16 : Int)))) b.list)) else (0 : Int)), U.i (bif egetR (List.drop (Int.toNat a.int) (List.take (Int.toNat (IntKind.wrap .i64 (a.int + (16 : Int)))) b.list)) kk.int then eC (List.drop (Int.toNat a.int) (List.take (Int.toNat (IntKind.wrap .i64 (a.int + (16 : Int)))) b.list)) else (0 : Int)), U.i (bif egetR (List.drop (Int.toNat a.int) (List.take (Int.toNat (IntKind.wrap .i64 (a.int + (16 : Int)))) b.list)) kk.int then eZ (List.drop (Int.toNat a.int) (List.take (Int.toNat (IntKind.wrap .i64 (a.int + (16 : Int)))) b.list)) else (0 : Int)), U.i (bif egetR (List.drop (Int.toNat a.int) (List.take (Int.toNat (IntKind.wrap .i64 (a.int + (16 : Int)))) b.list)) kk.int then eM (List.drop (Int.toNat a.int) (List.take (Int.toNat (IntKind.wrap .i64 (a.int + (16 : Int)))) b.list)) else (0 : Int))]]), .box [.own (nat_lit 1026)], .arr (nat_lit 51) [], .box [.own (nat_lit 1666)], .arr (nat_lit 51) L]) N then (tgIs (1026 : Nat) (1666 : Nat) leafT leafT [] (1024 : Nat) (1664 : Nat) (0 : Nat) (0 : Nat) ∧ nat_lit 2172 = nat_lit 2172 ∧ nat_lit 54 = nat_lit 54 ∧ U.i (IntKind.wrap .i64 (a.int + (16 : Int))) = U.i (IntKind.wrap .i64 (a.int + (16 : Int))) ∧ b.list.length ≤ (1099511627776 : Nat) ∧ (0 : Int) ≤ IntKind.wrap .i64 (a.int + (16 : Int)) ∧ IntKind.wrap .i64 (a.int + (16 : Int)) ≤ (b.list.length : Int) ∧ (0 : Int) ≤ IntKind.wrap .i64 (j.int + (1 : Int)) ∧ IntKind.wrap .i64 (j.int + (1 : Int)) ≤ (8 : Int) ∧ (↑(List.length (xs ++ [U.l [U.i (bif egetR (List.drop (Int.toNat a.int) (List.take (Int.toNat (IntKind.wrap .i64 (a.int + (16 : Int)))) b.list)) kk.int then eK (List.drop (Int.toNat a.int) (List.take (Int.toNat (IntKind.wrap .i64 (a.int + (16 : Int)))) b.list)) else (0 : Int)), U.i (bif egetR (List.drop (Int.toNat a.int) (List.take (Int.toNat (IntKind.wrap .i64 (a.int + (16 : Int)))) b.list)) kk.int then eS (List.drop (Int.toNat a.int) (List.take (Int.toNat (IntKind.wrap .i64 (a.int + (16 : Int)))) b.list)) else (0 : Int)), U.i (bif egetR (List.drop (Int.toNat a.int) (List.take (Int.toNat (IntKind.wrap .i64 (a.int + (16 : Int)))) b.list)) kk.int then eC (List.drop (Int.toNat a.int) (List.take (Int.toNat (IntKind.wrap .i64 (a.int + (16 : Int)))) b.list)) else (0 : Int)), U.i (bif egetR (List.drop (Int.toNat a.int) (List.take (Int.toNat (IntKind.wrap .i64 (a.int + (16 : Int)))) b.list)) kk.int then eZ (List.drop (Int.toNat a.int) (List.take (Int.toNat (IntKind.wrap .i64 (a.int + (16 : Int)))) b.list)) else (0 : Int)), U.i (bif egetR (List.drop (Int.toNat a.int) (List.take (Int.toNat (IntKind.wrap .i64 (a.int + (16 : Int)))) b.list)) kk.int then eM (List.drop (Int.toNat a.int) (List.take (Int.toNat (IntKind.wrap .i64 (a.int + (16 : Int)))) b.list)) else (0 : Int))]])) : Int) = IntKind.wrap .i64 (j.int + (1 : Int)) ∧ byteOk b.list) ∧ bif entsK b.list kk.int (Int.toNat ((8 : Int) - IntKind.wrap .i64 (j.int + (1 : Int)))) (IntKind.wrap .i64 (a.int + (16 : Int))) then k (Ex.exit (nat_lit 4)) (St.mk [(nat_lit 16, .own (nat_lit 2172)), (nat_lit 13, .ptr (nat_lit 1664) (nat_lit 0)), (nat_lit 8, .ptr (nat_lit 1024) (nat_lit 0)), (nat_lit 0, .val (.sl false [.int .u8]) b), (nat_lit 1, .val (.int IntKind.i64) (U.i (IntKind.wrap .i64 (a.int + (16 : Int)) + (16 : Int) * ((8 : Int) - IntKind.wrap .i64 (j.int + (1 : Int)))))), (nat_lit 2, .val (.int IntKind.i64) n), (nat_lit 3, .val (.int IntKind.i64) kk), (nat_lit 30, .val (.int IntKind.u64) m), (nat_lit 31, .val (.int IntKind.u64) i)] [(nat_lit 2172, .arr (nat_lit 54) (xs ++ [U.l [U.i (bif egetR (List.drop (Int.toNat a.int) (List.take (Int.toNat (IntKind.wrap .i64 (a.int + (16 : Int)))) b.list)) kk.int then eK (List.drop (Int.toNat a.int) (List.take (Int.toNat (IntKind.wrap .i64 (a.int + (16 : Int)))) b.list)) else (0 : Int)), U.i (bif egetR (List.drop (Int.toNat a.int) (List.take (Int.toNat (IntKind.wrap .i64 (a.int + (16 : Int)))) b.list)) kk.int then eS (List.drop (Int.toNat a.int) (List.take (Int.toNat (IntKind.wrap .i64 (a.int + (16 : Int)))) b.list)) else (0 : Int)), U.i (bif egetR (List.drop (Int.toNat a.int) (List.take (Int.toNat (IntKind.wrap .i64 (a.int + (16 : Int)))) b.list)) kk.int then eC (List.drop (Int.toNat a.int) (List.take (Int.toNat (IntKind.wrap .i64 (a.int + (16 : Int)))) b.list)) else (0 : Int)), U.i (bif egetR (List.drop (Int.toNat a.int) (List.take (Int.toNat (IntKind.wrap .i64 (a.int + (16 : Int)))) b.list)) kk.int then eZ (List.drop (Int.toNat a.int) (List.take (Int.toNat (IntKind.wrap .i64 (a.int + (16 : Int)))) b.list)) else (0 : Int)), U.i (bif egetR (List.drop (Int.toNat a.int) (List.take (Int.toNat (IntKind.wrap .i64 (a.int + (16 : Int)))) b.list)) kk.int then eM (List.drop (Int.toNat a.int) (List.take (Int.toNat (IntKind.wrap .i64 (a.int + (16 : Int)))) b.list)) else (0 : Int))]] ++ entsG b.list (Int.toNat ((8 : Int) - IntKind.wrap .i64 (j.int + (1 : Int)))) (IntKind.wrap .i64 (a.int + (16 : Int))))), (nat_lit 1024, .box [.own (nat_lit 1026)]), (nat_lit 1026, .arr (nat_lit 51) []), (nat_lit 1664, .box [.own (nat_lit 1666)]), (nat_lit 1666, .arr (nat_lit 51) L)]) else k Ex.ret (St.mk [(nat_lit 8, .ptr (nat_lit 1024) (nat_lit 0)), (nat_lit 9, .val (.int IntKind.i64) (U.i (0 : Int))), (nat_lit 10, .val (.int IntKind.i64) (U.i (3 : Int)))] [(nat_lit 1024, .box [.own (nat_lit 8519682)]), (nat_lit 8519682, .arr (nat_lit 51) [])]) else False else False else False else k (Ex.exit (nat_lit 4)) (St.mk [(nat_lit 16, .own (nat_lit 2172)), (nat_lit 13, .ptr (nat_lit 1664) (nat_lit 0)), (nat_lit 8, .ptr (nat_lit 1024) (nat_lit 0)), (nat_lit 0, .val (.sl false [.int .u8]) b), (nat_lit 1, .val (.int IntKind.i64) a), (nat_lit 2, .val (.int IntKind.i64) n), (nat_lit 3, .val (.int IntKind.i64) kk), (nat_lit 30, .val (.int IntKind.u64) m), (nat_lit 31, .val (.int IntKind.u64) i)] [(nat_lit 2172, .arr (nat_lit 54) xs), (nat_lit 1024, .box [.own (nat_lit 1026)]), (nat_lit 1026, .arr (nat_lit 51) []), (nat_lit 1664, .box [.own (nat_lit 1666)]), (nat_lit 1666, .arr (nat_lit 51) L)])) := by kernel_rfl
theorem tg_round0 (pan : KP) (μ : Mu) (N : Nat) (k : KE) (i m b a n kk : U) (L : List U) : (exec (tgC.panics pan) (loopBody Try.f74 0) 0 ⟨[(31, vu i), (30, vu m), (13, .ptr 1664 0), (8, .ptr 1024 0), (0, vl (.int .u8) b), (1, vi a), (2, vi n), (3, vi kk)], tgO L⟩ (again PR (some ([13, 8, 1, 2, 3], [1024, 1026, 1664, 1666])) (some ([8, 9, 10], [1024, 8519682])) pan [31, 30, 13, 8, 0, 1, 2, 3] [1024, 1026, 1664, 1666] tgLoop0 μ N k)) = (bif decide (i.int < m.int) then getP [[b], [a], [U.i (2 : Int)], [U.b false]] ∧ bif getE b.list a.int (2 : Int) != (0 : Int) then k Ex.ret (St.mk [(nat_lit 8, .ptr (nat_lit 1024) (nat_lit 0)), (nat_lit 9, .val (.int IntKind.i64) (U.i (0 : Int))), (nat_lit 10, .val (.int IntKind.i64) (U.i (3 : Int)))] [(nat_lit 1024, .box [.own (nat_lit 8519682)]), (nat_lit 8519682, .arr (nat_lit 51) [])]) else bif decide (IntKind.wrap .i64 (getN b.list a.int (2 : Int)) < (L.length : Int)) then k Ex.ret (St.mk [(nat_lit 8, .ptr (nat_lit 1024) (nat_lit 0)), (nat_lit 9, .val (.int IntKind.i64) (U.i (0 : Int))), (nat_lit 10, .val (.int IntKind.i64) (U.i (3 : Int)))] [(nat_lit 1024, .box [.own (nat_lit 8519682)]), (nat_lit 8519682, .arr (nat_lit 51) [])]) else bif decide (getN b.list a.int (2 : Int) ≥ (512 : Int)) then k Ex.ret (St.mk [(nat_lit 8, .ptr (nat_lit 1024) (nat_lit 0)), (nat_lit 9, .val (.int IntKind.i64) (U.i (0 : Int))), (nat_lit 10, .val (.int IntKind.i64) (U.i (3 : Int)))] [(nat_lit 1024, .box [.own (nat_lit 8519682)]), (nat_lit 8519682, .arr (nat_lit 51) [])]) else (tgIs (1026 : Nat) (1666 : Nat) leafT leafT [] (1024 : Nat) (1664 : Nat) (0 : Nat) (0 : Nat) ∧ (0 : Int) ≤ getN b.list a.int (2 : Int) ∧ getN b.list a.int (2 : Int) < (512 : Int) ∧ List.length L ≤ (512 : Nat)) ∧ (tgIs (1026 : Nat) (1666 : Nat) leafT leafT [] (1024 : Nat) (1664 : Nat) (0 : Nat) (0 : Nat) ∧ nat_lit 2172 = nat_lit 2172 ∧ nat_lit 54 = nat_lit 54 ∧ U.i (IntKind.wrap .i64 (a.int + (2 : Int))) = U.i (IntKind.wrap .i64 (a.int + (2 : Int))) ∧ b.list.length ≤ (1099511627776 : Nat) ∧ (0 : Int) ≤ IntKind.wrap .i64 (a.int + (2 : Int)) ∧ IntKind.wrap .i64 (a.int + (2 : Int)) ≤ (b.list.length : Int) ∧ (0 : Int) ≤ (0 : Int) ∧ (0 : Int) ≤ (8 : Int) ∧ (↑(0 : Nat) : Int) = (0 : Int) ∧ byteOk b.list) ∧ bif entsK b.list kk.int (Int.toNat ((8 : Int) - (0 : Int))) (IntKind.wrap .i64 (a.int + (2 : Int))) then bif decide (List.length (padU L (getN b.list a.int (2 : Int))) + ((0 : Nat) + (1 : Nat)) ≤ room) && !oddB (1666 : Nat) then bif Nat.blt (μ [.val (.int IntKind.u64) (U.i (IntKind.wrap .u64 (i.int + (1 : Int)))), .val (.int IntKind.u64) m, .ptr (nat_lit 1664) (nat_lit 0), .ptr (nat_lit 1024) (nat_lit 0), .val (.sl false [.int .u8]) b, .val (.int IntKind.i64) (U.i (IntKind.wrap .i64 (a.int + (2 : Int)) + (16 : Int) * ((8 : Int) - (0 : Int)))), .val (.int IntKind.i64) n, .val (.int IntKind.i64) kk] [.box [.own (nat_lit 1026)], .arr (nat_lit 51) [], .box [.own (nat_lit 1666)], .arr (nat_lit 51) (padU L (getN b.list a.int (2 : Int)) ++ [U.l ([] ++ entsG b.list (Int.toNat ((8 : Int) - (0 : Int))) (IntKind.wrap .i64 (a.int + (2 : Int))))])]) N then (tgIs (1026 : Nat) (1666 : Nat) leafT (51 : Nat) [] (1024 : Nat) (1664 : Nat) (0 : Nat) (0 : Nat) ∧ U.i (IntKind.wrap .i64 (a.int + (2 : Int)) + (16 : Int) * ((8 : Int) - (0 : Int))) = U.i (IntKind.wrap .i64 (a.int + (2 : Int)) + (16 : Int) * ((8 : Int) - (0 : Int))) ∧ b.list.length ≤ (1099511627776 : Nat) ∧ (0 : Int) ≤ IntKind.wrap .i64 (a.int + (2 : Int)) + (16 : Int) * ((8 : Int) - (0 : Int)) ∧ IntKind.wrap .i64 (a.int + (2 : Int)) + (16 : Int) * ((8 : Int) - (0 : Int)) ≤ (b.list.length : Int) ∧ (0 : Int) ≤ IntKind.wrap .u64 (i.int + (1 : Int)) ∧ IntKind.wrap .u64 (i.int + (1 : Int)) ≤ m.int ∧ m.int ≤ (65535 : Int) ∧ List.length (padU L (getN b.list a.int (2 : Int)) ++ [U.l ([] ++ entsG b.list (Int.toNat ((8 : Int) - (0 : Int))) (IntKind.wrap .i64 (a.int + (2 : Int))))]) ≤ (512 : Nat) ∧ byteOk b.list) ∧ bif leavesK b.list kk.int (Int.toNat (m.int - IntKind.wrap .u64 (i.int + (1 : Int)))) (IntKind.wrap .i64 (a.int + (2 : Int)) + (16 : Int) * ((8 : Int) - (0 : Int))) (padU L (getN b.list a.int (2 : Int)) ++ [U.l ([] ++ entsG b.list (Int.toNat ((8 : Int) - (0 : Int))) (IntKind.wrap .i64 (a.int + (2 : Int))))]) then k (Ex.exit (nat_lit 0)) (St.mk [(nat_lit 13, .ptr (nat_lit 1664) (nat_lit 0)), (nat_lit 8, .ptr (nat_lit 1024) (nat_lit 0)), (nat_lit 1, .val (.int IntKind.i64) (U.i (IntKind.wrap .i64 (a.int + (2 : Int)) + (16 : Int) * ((8 : Int) - (0 : Int)) + (130 : Int) * (m.int - IntKind.wrap .u64 (i.int + (1 : Int)))))), (nat_lit 2, .val (.int IntKind.i64) n), (nat_lit 3, .val (.int IntKind.i64) kk)] [(nat_lit 1024, .box [.own (nat_lit 1026)]), (nat_lit 1026, .arr (nat_lit 51) []), (nat_lit 1664, .box [.own (nat_lit 1666)]), (nat_lit 1666, .arr (nat_lit 51) (leavesG b.list (Int.toNat (m.int - IntKind.wrap .u64 (i.int + (1 : Int)))) (IntKind.wrap .i64 (a.int + (2 : Int)) + (16 : Int) * ((8 : Int) - (0 : Int))) (padU L (getN b.list a.int (2 : Int)) ++ [U.l ([] ++ entsG b.list (Int.toNat ((8 : Int) - (0 : Int))) (IntKind.wrap .i64 (a.int + (2 : Int))))])))]) else k Ex.ret (St.mk [(nat_lit 8, .ptr (nat_lit 1024) (nat_lit 0)), (nat_lit 9, .val (.int IntKind.i64) (U.i (0 : Int))), (nat_lit 10, .val (.int IntKind.i64) (U.i (3 : Int)))] [(nat_lit 1024, .box [.own (nat_lit 8519682)]), (nat_lit 8519682, .arr (nat_lit 51) [])]) else False else False else k Ex.ret (St.mk [(nat_lit 8, .ptr (nat_lit 1024) (nat_lit 0)), (nat_lit 9, .val (.int IntKind.i64) (U.i (0 : Int))), (nat_lit 10, .val (.int IntKind.i64) (U.i (3 : Int)))] [(nat_lit 1024, .box [.own (nat_lit 8519682)]), (nat_lit 8519682, .arr (nat_lit 51) [])]) else k (Ex.exit (nat_lit 0)) (St.mk [(nat_lit 13, .ptr (nat_lit 1664) (nat_lit 0)), (nat_lit 8, .ptr (nat_lit 1024) (nat_lit 0)), (nat_lit 1, .val (.int IntKind.i64) a), (nat_lit 2, .val (.int IntKind.i64) n), (nat_lit 3, .val (.int IntKind.i64) kk)] [(nat_lit 1024, .box [.own (nat_lit 1026)]), (nat_lit 1026, .arr (nat_lit 51) []), (nat_lit 1664, .box [.own (nat_lit 1666)]), (nat_lit 1666, .arr (nat_lit 51) L)])) := by kernel_rfl
theorem tg_tree (R : RF) (b a n k : U) : (run tgC Try.f74 [[b], [a], [n], [k]] R) = (getP [[b], [a], [U.i (2 : Int)], [U.b false]] ∧ bif getE b.list a.int (2 : Int) != (0 : Int) then R [[U.l []], [U.i (0 : Int)], [U.i (3 : Int)]] else (tgIs ((2 : Nat) * ((8 : Nat) * (64 : Nat) + (1 : Nat))) ((2 : Nat) * ((13 : Nat) * (64 : Nat) + (1 : Nat))) (51 : Nat) (51 : Nat) [] ((2 : Nat) * ((8 : Nat) * (64 : Nat))) ((2 : Nat) * ((13 : Nat) * (64 : Nat))) (0 : Nat) (0 : Nat) ∧ U.i (IntKind.wrap .i64 (a.int + (2 : Int))) = U.i (IntKind.wrap .i64 (a.int + (2 : Int))) ∧ b.list.length ≤ (1099511627776 : Nat) ∧ (0 : Int) ≤ IntKind.wrap .i64 (a.int + (2 : Int)) ∧ IntKind.wrap .i64 (a.int + (2 : Int)) ≤ (b.list.length : Int) ∧ (0 : Int) ≤ (0 : Int) ∧ (0 : Int) ≤ getN b.list a.int (2 : Int) ∧ getN b.list a.int (2 : Int) ≤ (65535 : Int) ∧ (0 : Nat) ≤ (512 : Nat) ∧ byteOk b.list) ∧ bif leavesK b.list k.int (Int.toNat (getN b.list a.int (2 : Int) - (0 : Int))) (IntKind.wrap .i64 (a.int + (2 : Int))) [] then bif !tableR (leavesG b.list (Int.toNat (getN b.list a.int (2 : Int) - (0 : Int))) (IntKind.wrap .i64 (a.int + (2 : Int))) []) n.int k.int then R [[U.l []], [U.i (0 : Int)], [U.i (3 : Int)]] else R [[U.l (leavesG b.list (Int.toNat (getN b.list a.int (2 : Int) - (0 : Int))) (IntKind.wrap .i64 (a.int + (2 : Int))) [])], [U.i (IntKind.wrap .i64 (a.int + (2 : Int)) + (130 : Int) * (getN b.list a.int (2 : Int) - (0 : Int)))], [U.i (0 : Int)]] else R [[U.l []], [U.i (0 : Int)], [U.i (3 : Int)]]) := by kernel_rfl
end Go.Mat
