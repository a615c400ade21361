/- A part of the proof of this: Counts that are one take four bytes for each 65535 of them, are read back, and more or greater ones are refused. Conditions: none. Joined of B23, F23, F24, B30, F30, B31, F31, B32, F32, F33. -/
import Derived.Test.YtmgncojckndckaaC3
import Derived.KernelRfl
namespace Go.Mat
open Go Go.Den Go.Proofs
def shotE (x y : U) : Bool := ((e0 x).str.toList == (e0 y).str.toList) && ((e1 x).int == (e1 y).int) && tabE (e2 x).list (e2 y).list
def shotsE : List U → List U → Bool
  | [], [] => true
  | x :: r, y :: s => shotE x y && shotsE r s
  | _, _ => false
def metaEq (c sz bk T S M Q c' sz' bk' T' S' M' Q' : U) : Bool := (c.int == c'.int) && (sz.int == sz'.int) && (bk.str.toList == bk'.str.toList) && tabE T.list T'.list && mapsE M.list M'.list && intsE Q.list Q'.list && shotsE S.list S'.list
def sameS : List (List U) → List (List U) := fun us => [[.b (metaEq (nth (.i 0) (nth [] us 0) 0) (nth (.i 0) (nth [] us 0) 1) (nth (.i 0) (nth [] us 0) 2) (nth (.i 0) (nth [] us 0) 3) (nth (.i 0) (nth [] us 0) 4) (nth (.i 0) (nth [] us 0) 5) (nth (.i 0) (nth [] us 0) 6)
  (nth (.i 0) (nth [] us 1) 0) (nth (.i 0) (nth [] us 1) 1) (nth (.i 0) (nth [] us 1) 2) (nth (.i 0) (nth [] us 1) 3) (nth (.i 0) (nth [] us 1) 4) (nth (.i 0) (nth [] us 1) 5) (nth (.i 0) (nth [] us 1) 6))]]
noncomputable def sameLoop : LoopF := fun _ svs os k => match svs with
  | [.val (.int .i64) i, .ptr p o, .ptr p' o'] => match os with
    | [.box [.val (.int .i64) _, .val (.int .i64) _, .val .str _, .val (.sl false [.sl true x1]) _, .val (.sl true x2) S, .val (.sl true x3) _, .val (.sl false [.int .i64]) _], .box [.val (.int .i64) _, .val (.int .i64) _, .val .str _, .val (.sl false [.sl true y1]) _, .val (.sl true y2) S', .val (.sl true y3) _, .val (.sl false [.int .i64]) _]] =>
      ((p = 256 ∧ o = 0 ∧ p' = 384 ∧ o' = 0) ∧ (x1 = EC ∧ x2 = SC ∧ x3 = BC) ∧ (y1 = EC ∧ y2 = SC ∧ y3 = BC) ∧ S.list.length = S'.list.length ∧ 0 ≤ i.int ∧ i.int ≤ S.list.length) ∧
      (bif shotsE (S.list.drop i.int.toNat) (S'.list.drop i.int.toNat) then k (.exit 0) ⟨[(4, .unk)], []⟩ else k .ret ⟨[(4, vb (.b false))], []⟩)
    | _ => False
  | _ => False
noncomputable def sameC : Ctx := mkC PR eqs1 (fnsCons 36 (lists2 tabE) (fnsCons 37 (lists2 mapsE) (fnsCons 38 (lists2 intsE) fnsNil))) trsNil (loopCons 0 [5, 2, 3] [256, 384] sameLoop noLoops) (outCons 0 [4] [] noOut) noOut
theorem same_round_alt (pan : KP) (μ : Mu) (N : Nat) (k : KE) (i c sz bk T S M Q c' sz' bk' T' S' M' Q' : U) : (exec (sameC.panics pan) (loopBody Try.f17 0) 0 ⟨[(5, vi i), (2, .ptr 256 0), (3, .ptr 384 0)], [(256, .box (mCells c sz bk T S M Q)), (384, .box (mCells c' sz' bk' T' S' M' Q'))]⟩ (again PR (some ([4], [])) none pan [5, 2, 3] [256, 384] sameLoop μ N k)) = (bif decide (U.int i < (↑(List.length (U.list S)) : Int)) then Alt (bif decide ((0 : Int) ≤ U.int i ∧ U.int i < (↑(List.length (U.list S)) : Int)) then Alt (bif decide ((0 : Int) ≤ U.int i ∧ U.int i < (↑(List.length
  (U.list S')) : Int)) then (fun T => Alt T T) (bif !ByteArray.toList (U.str (nth (U.i (0 : Int)) (U.list (nth (U.i (0 : Int)) (U.list S) (Int.toNat (U.int i)))) (0 : Nat))) == ByteArray.toList (U.str (nth
  (U.i (0 : Int)) (U.list (nth (U.i (0 : Int)) (U.list S') (Int.toNat (U.int i)))) (0 : Nat))) then k Ex.ret (St.mk [(nat_lit 4, SV.val Ct.bool (U.b false))] []) else bif U.int (nth (U.i (0 : Int)) (List.tail
  (U.list (nth (U.i (0 : Int)) (U.list S) (Int.toNat (U.int i))))) (0 : Nat)) != U.int (nth (U.i (0 : Int)) (List.tail (U.list (nth (U.i (0 : Int)) (U.list S') (Int.toNat (U.int i))))) (0 : Nat)) then k
  Ex.ret (St.mk [(nat_lit 4, SV.val Ct.bool (U.b false))] []) else bif !tabE (U.list (nth (U.i (0 : Int)) (List.tail (List.tail (U.list (nth (U.i (0 : Int)) (U.list S) (Int.toNat (U.int i)))))) (0 : Nat)))
  (U.list (nth (U.i (0 : Int)) (List.tail (List.tail (U.list (nth (U.i (0 : Int)) (U.list S') (Int.toNat (U.int i)))))) (0 : Nat))) then k Ex.ret (St.mk [(nat_lit 4, SV.val Ct.bool (U.b false))] []) else
  bif Nat.blt (μ [SV.val (Ct.int IntKind.i64) (U.i (IntKind.wrap IntKind.i64 (U.int i + (1 : Int)))), SV.ptr (nat_lit 256) (nat_lit 0), SV.ptr (nat_lit 384) (nat_lit 0)] [Obj.box [SV.val (Ct.int IntKind.i64)
  c, SV.val (Ct.int IntKind.i64) sz, SV.val Ct.str bk, SV.val (Ct.sl false [Ct.sl true [Ct.int IntKind.i64, Ct.int IntKind.i64, Ct.int IntKind.i64, Ct.int IntKind.i64, Ct.int IntKind.u32]]) T, SV.val (Ct.sl
  true [Ct.str, Ct.int IntKind.i64, Ct.sl false [Ct.sl true [Ct.int IntKind.i64, Ct.int IntKind.i64, Ct.int IntKind.i64, Ct.int IntKind.i64, Ct.int IntKind.u32]]]) S, SV.val (Ct.sl true [Ct.str, Ct.bool,
  Ct.sl true [Ct.int IntKind.i64, Ct.int IntKind.i64]]) M, SV.val (Ct.sl false [Ct.int IntKind.i64]) Q], Obj.box [SV.val (Ct.int IntKind.i64) c', SV.val (Ct.int IntKind.i64) sz', SV.val Ct.str bk', SV.val
  (Ct.sl false [Ct.sl true [Ct.int IntKind.i64, Ct.int IntKind.i64, Ct.int IntKind.i64, Ct.int IntKind.i64, Ct.int IntKind.u32]]) T', SV.val (Ct.sl true [Ct.str, Ct.int IntKind.i64, Ct.sl false [Ct.sl true
  [Ct.int IntKind.i64, Ct.int IntKind.i64, Ct.int IntKind.i64, Ct.int IntKind.i64, Ct.int IntKind.u32]]]) S', SV.val (Ct.sl true [Ct.str, Ct.bool, Ct.sl true [Ct.int IntKind.i64, Ct.int IntKind.i64]]) M',
  SV.val (Ct.sl false [Ct.int IntKind.i64]) Q']]) N then ((nat_lit 256 = nat_lit 256 ∧ nat_lit 0 = nat_lit 0 ∧ nat_lit 384 = nat_lit 384 ∧ nat_lit 0 = nat_lit 0) ∧ ([Ct.int IntKind.i64, Ct.int IntKind.i64,
  Ct.int IntKind.i64, Ct.int IntKind.i64, Ct.int IntKind.u32] = [Ct.int IntKind.i64, Ct.int IntKind.i64, Ct.int IntKind.i64, Ct.int IntKind.i64, Ct.int IntKind.u32] ∧ [Ct.str, Ct.int IntKind.i64, Ct.sl false
  [Ct.sl true [Ct.int IntKind.i64, Ct.int IntKind.i64, Ct.int IntKind.i64, Ct.int IntKind.i64, Ct.int IntKind.u32]]] = [Ct.str, Ct.int IntKind.i64, Ct.sl false [Ct.sl true [Ct.int IntKind.i64, Ct.int IntKind.i64,
  Ct.int IntKind.i64, Ct.int IntKind.i64, Ct.int IntKind.u32]]] ∧ [Ct.str, Ct.bool, Ct.sl true [Ct.int IntKind.i64, Ct.int IntKind.i64]] = [Ct.str, Ct.bool, Ct.sl true [Ct.int IntKind.i64, Ct.int IntKind.i64]])
  ∧ ([Ct.int IntKind.i64, Ct.int IntKind.i64, Ct.int IntKind.i64, Ct.int IntKind.i64, Ct.int IntKind.u32] = [Ct.int IntKind.i64, Ct.int IntKind.i64, Ct.int IntKind.i64, Ct.int IntKind.i64, Ct.int IntKind.u32]
  ∧ [Ct.str, Ct.int IntKind.i64, Ct.sl false [Ct.sl true [Ct.int IntKind.i64, Ct.int IntKind.i64, Ct.int IntKind.i64, Ct.int IntKind.i64, Ct.int IntKind.u32]]] = [Ct.str, Ct.int IntKind.i64, Ct.sl false
  [Ct.sl true [Ct.int IntKind.i64, Ct.int IntKind.i64, Ct.int IntKind.i64, Ct.int IntKind.i64, Ct.int IntKind.u32]]] ∧ [Ct.str, Ct.bool, Ct.sl true [Ct.int IntKind.i64, Ct.int IntKind.i64]] = [Ct.str, Ct.bool,
  Ct.sl true [Ct.int IntKind.i64, Ct.int IntKind.i64]]) ∧ List.length (U.list S) = List.length (U.list S') ∧ (0 : Int) ≤ IntKind.wrap IntKind.i64 (U.int i + (1 : Int)) ∧ IntKind.wrap IntKind.i64 (U.int i
  + (1 : Int)) ≤ (↑(List.length (U.list S)) : Int)) ∧ bif shotsE (List.drop (Int.toNat (IntKind.wrap IntKind.i64 (U.int i + (1 : Int)))) (U.list S)) (List.drop (Int.toNat (IntKind.wrap IntKind.i64 (U.int
  i + (1 : Int)))) (U.list S')) then k (Ex.exit (nat_lit 0)) (St.mk [(nat_lit 4, SV.unk)] []) else k Ex.ret (St.mk [(nat_lit 4, SV.val Ct.bool (U.b false))] []) else False) else False) ((fun T => Alt (Alt
  T (Alt T T)) (Alt T (Alt T T))) (bif decide ((0 : Int) ≤ U.int i ∧ U.int i < (↑(List.length (U.list S')) : Int)) then bif !ByteArray.toList (U.str (nth (U.i (0 : Int)) (U.list (nth (U.i (0 : Int)) (U.list
  S) (Int.toNat (U.int i)))) (0 : Nat))) == ByteArray.toList (U.str (nth (U.i (0 : Int)) (U.list (nth (U.i (0 : Int)) (U.list S') (Int.toNat (U.int i)))) (0 : Nat))) then k Ex.ret (St.mk [(nat_lit 4, SV.val
  Ct.bool (U.b false))] []) else bif U.int (nth (U.i (0 : Int)) (List.tail (U.list (nth (U.i (0 : Int)) (U.list S) (Int.toNat (U.int i))))) (0 : Nat)) != U.int (nth (U.i (0 : Int)) (List.tail (U.list (nth
  (U.i (0 : Int)) (U.list S') (Int.toNat (U.int i))))) (0 : Nat)) then k Ex.ret (St.mk [(nat_lit 4, SV.val Ct.bool (U.b false))] []) else bif !tabE (U.list (nth (U.i (0 : Int)) (List.tail (List.tail (U.list
  (nth (U.i (0 : Int)) (U.list S) (Int.toNat (U.int i)))))) (0 : Nat))) (U.list (nth (U.i (0 : Int)) (List.tail (List.tail (U.list (nth (U.i (0 : Int)) (U.list S') (Int.toNat (U.int i)))))) (0 : Nat))) then
  k Ex.ret (St.mk [(nat_lit 4, SV.val Ct.bool (U.b false))] []) else bif Nat.blt (μ [SV.val (Ct.int IntKind.i64) (U.i (IntKind.wrap IntKind.i64 (U.int i + (1 : Int)))), SV.ptr (nat_lit 256) (nat_lit 0),
  SV.ptr (nat_lit 384) (nat_lit 0)] [Obj.box [SV.val (Ct.int IntKind.i64) c, SV.val (Ct.int IntKind.i64) sz, SV.val Ct.str bk, SV.val (Ct.sl false [Ct.sl true [Ct.int IntKind.i64, Ct.int IntKind.i64, Ct.int
  IntKind.i64, Ct.int IntKind.i64, Ct.int IntKind.u32]]) T, SV.val (Ct.sl true [Ct.str, Ct.int IntKind.i64, Ct.sl false [Ct.sl true [Ct.int IntKind.i64, Ct.int IntKind.i64, Ct.int IntKind.i64, Ct.int IntKind.i64,
  Ct.int IntKind.u32]]]) S, SV.val (Ct.sl true [Ct.str, Ct.bool, Ct.sl true [Ct.int IntKind.i64, Ct.int IntKind.i64]]) M, SV.val (Ct.sl false [Ct.int IntKind.i64]) Q], Obj.box [SV.val (Ct.int IntKind.i64)
  c', SV.val (Ct.int IntKind.i64) sz', SV.val Ct.str bk', SV.val (Ct.sl false [Ct.sl true [Ct.int IntKind.i64, Ct.int IntKind.i64, Ct.int IntKind.i64, Ct.int IntKind.i64, Ct.int IntKind.u32]]) T', SV.val
  (Ct.sl true [Ct.str, Ct.int IntKind.i64, Ct.sl false [Ct.sl true [Ct.int IntKind.i64, Ct.int IntKind.i64, Ct.int IntKind.i64, Ct.int IntKind.i64, Ct.int IntKind.u32]]]) S', SV.val (Ct.sl true [Ct.str,
  Ct.bool, Ct.sl true [Ct.int IntKind.i64, Ct.int IntKind.i64]]) M', SV.val (Ct.sl false [Ct.int IntKind.i64]) Q']]) N then ((nat_lit 256 = nat_lit 256 ∧ nat_lit 0 = nat_lit 0 ∧ nat_lit 384 = nat_lit 384
  ∧ nat_lit 0 = nat_lit 0) ∧ ([Ct.int IntKind.i64, Ct.int IntKind.i64, Ct.int IntKind.i64, Ct.int IntKind.i64, Ct.int IntKind.u32] = [Ct.int IntKind.i64, Ct.int IntKind.i64, Ct.int IntKind.i64, Ct.int IntKind.i64,
  Ct.int IntKind.u32] ∧ [Ct.str, Ct.int IntKind.i64, Ct.sl false [Ct.sl true [Ct.int IntKind.i64, Ct.int IntKind.i64, Ct.int IntKind.i64, Ct.int IntKind.i64, Ct.int IntKind.u32]]] = [Ct.str, Ct.int IntKind.i64,
  Ct.sl false [Ct.sl true [Ct.int IntKind.i64, Ct.int IntKind.i64, Ct.int IntKind.i64, Ct.int IntKind.i64, Ct.int IntKind.u32]]] ∧ [Ct.str, Ct.bool, Ct.sl true [Ct.int IntKind.i64, Ct.int IntKind.i64]] =
  [Ct.str, Ct.bool, Ct.sl true [Ct.int IntKind.i64, Ct.int IntKind.i64]]) ∧ ([Ct.int IntKind.i64, Ct.int IntKind.i64, Ct.int IntKind.i64, Ct.int IntKind.i64, Ct.int IntKind.u32] = [Ct.int IntKind.i64, Ct.int
  IntKind.i64, Ct.int IntKind.i64, Ct.int IntKind.i64, Ct.int IntKind.u32] ∧ [Ct.str, Ct.int IntKind.i64, Ct.sl false [Ct.sl true [Ct.int IntKind.i64, Ct.int IntKind.i64, Ct.int IntKind.i64, Ct.int IntKind.i64,
  Ct.int IntKind.u32]]] = [Ct.str, Ct.int IntKind.i64, Ct.sl false [Ct.sl true [Ct.int IntKind.i64, Ct.int IntKind.i64, Ct.int IntKind.i64, Ct.int IntKind.i64, Ct.int IntKind.u32]]] ∧ [Ct.str, Ct.bool, Ct.sl
  true [Ct.int IntKind.i64, Ct.int IntKind.i64]] = [Ct.str, Ct.bool, Ct.sl true [Ct.int IntKind.i64, Ct.int IntKind.i64]]) ∧ List.length (U.list S) = List.length (U.list S') ∧ (0 : Int) ≤ IntKind.wrap IntKind.i64
  (U.int i + (1 : Int)) ∧ IntKind.wrap IntKind.i64 (U.int i + (1 : Int)) ≤ (↑(List.length (U.list S)) : Int)) ∧ bif shotsE (List.drop (Int.toNat (IntKind.wrap IntKind.i64 (U.int i + (1 : Int)))) (U.list
  S)) (List.drop (Int.toNat (IntKind.wrap IntKind.i64 (U.int i + (1 : Int)))) (U.list S')) then k (Ex.exit (nat_lit 0)) (St.mk [(nat_lit 4, SV.unk)] []) else k Ex.ret (St.mk [(nat_lit 4, SV.val Ct.bool (U.b
  false))] []) else False else False)) else False) (Alt (bif decide ((0 : Int) ≤ U.int i ∧ U.int i < (↑(List.length (U.list S')) : Int)) then Alt (bif decide ((0 : Int) ≤ U.int i ∧ U.int i < (↑(List.length
  (U.list S)) : Int)) then (fun T => Alt T T) (bif !ByteArray.toList (U.str (nth (U.i (0 : Int)) (U.list (nth (U.i (0 : Int)) (U.list S) (Int.toNat (U.int i)))) (0 : Nat))) == ByteArray.toList (U.str (nth
  (U.i (0 : Int)) (U.list (nth (U.i (0 : Int)) (U.list S') (Int.toNat (U.int i)))) (0 : Nat))) then k Ex.ret (St.mk [(nat_lit 4, SV.val Ct.bool (U.b false))] []) else bif U.int (nth (U.i (0 : Int)) (List.tail
  (U.list (nth (U.i (0 : Int)) (U.list S) (Int.toNat (U.int i))))) (0 : Nat)) != U.int (nth (U.i (0 : Int)) (List.tail (U.list (nth (U.i (0 : Int)) (U.list S') (Int.toNat (U.int i))))) (0 : Nat)) then k
  Ex.ret (St.mk [(nat_lit 4, SV.val Ct.bool (U.b false))] []) else bif !tabE (U.list (nth (U.i (0 : Int)) (List.tail (List.tail (U.list (nth (U.i (0 : Int)) (U.list S) (Int.toNat (U.int i)))))) (0 : Nat)))
  (U.list (nth (U.i (0 : Int)) (List.tail (List.tail (U.list (nth (U.i (0 : Int)) (U.list S') (Int.toNat (U.int i)))))) (0 : Nat))) then k Ex.ret (St.mk [(nat_lit 4, SV.val Ct.bool (U.b false))] []) else
  bif Nat.blt (μ [SV.val (Ct.int IntKind.i64) (U.i (IntKind.wrap IntKind.i64 (U.int i + (1 : Int)))), SV.ptr (nat_lit 256) (nat_lit 0), SV.ptr (nat_lit 384) (nat_lit 0)] [Obj.box [SV.val (Ct.int IntKind.i64)
  c, SV.val (Ct.int IntKind.i64) sz, SV.val Ct.str bk, SV.val (Ct.sl false [Ct.sl true [Ct.int IntKind.i64, Ct.int IntKind.i64, Ct.int IntKind.i64, Ct.int IntKind.i64, Ct.int IntKind.u32]]) T, SV.val (Ct.sl
  true [Ct.str, Ct.int IntKind.i64, Ct.sl false [Ct.sl true [Ct.int IntKind.i64, Ct.int IntKind.i64, Ct.int IntKind.i64, Ct.int IntKind.i64, Ct.int IntKind.u32]]]) S, SV.val (Ct.sl true [Ct.str, Ct.bool,
  Ct.sl true [Ct.int IntKind.i64, Ct.int IntKind.i64]]) M, SV.val (Ct.sl false [Ct.int IntKind.i64]) Q], Obj.box [SV.val (Ct.int IntKind.i64) c', SV.val (Ct.int IntKind.i64) sz', SV.val Ct.str bk', SV.val
  (Ct.sl false [Ct.sl true [Ct.int IntKind.i64, Ct.int IntKind.i64, Ct.int IntKind.i64, Ct.int IntKind.i64, Ct.int IntKind.u32]]) T', SV.val (Ct.sl true [Ct.str, Ct.int IntKind.i64, Ct.sl false [Ct.sl true
  [Ct.int IntKind.i64, Ct.int IntKind.i64, Ct.int IntKind.i64, Ct.int IntKind.i64, Ct.int IntKind.u32]]]) S', SV.val (Ct.sl true [Ct.str, Ct.bool, Ct.sl true [Ct.int IntKind.i64, Ct.int IntKind.i64]]) M',
  SV.val (Ct.sl false [Ct.int IntKind.i64]) Q']]) N then ((nat_lit 256 = nat_lit 256 ∧ nat_lit 0 = nat_lit 0 ∧ nat_lit 384 = nat_lit 384 ∧ nat_lit 0 = nat_lit 0) ∧ ([Ct.int IntKind.i64, Ct.int IntKind.i64,
  Ct.int IntKind.i64, Ct.int IntKind.i64, Ct.int IntKind.u32] = [Ct.int IntKind.i64, Ct.int IntKind.i64, Ct.int IntKind.i64, Ct.int IntKind.i64, Ct.int IntKind.u32] ∧ [Ct.str, Ct.int IntKind.i64, Ct.sl false
  [Ct.sl true [Ct.int IntKind.i64, Ct.int IntKind.i64, Ct.int IntKind.i64, Ct.int IntKind.i64, Ct.int IntKind.u32]]] = [Ct.str, Ct.int IntKind.i64, Ct.sl false [Ct.sl true [Ct.int IntKind.i64, Ct.int IntKind.i64,
  Ct.int IntKind.i64, Ct.int IntKind.i64, Ct.int IntKind.u32]]] ∧ [Ct.str, Ct.bool, Ct.sl true [Ct.int IntKind.i64, Ct.int IntKind.i64]] = [Ct.str, Ct.bool, Ct.sl true [Ct.int IntKind.i64, Ct.int IntKind.i64]])
  ∧ ([Ct.int IntKind.i64, Ct.int IntKind.i64, Ct.int IntKind.i64, Ct.int IntKind.i64, Ct.int IntKind.u32] = [Ct.int IntKind.i64, Ct.int IntKind.i64, Ct.int IntKind.i64, Ct.int IntKind.i64, Ct.int IntKind.u32]
  ∧ [Ct.str, Ct.int IntKind.i64, Ct.sl false [Ct.sl true [Ct.int IntKind.i64, Ct.int IntKind.i64, Ct.int IntKind.i64, Ct.int IntKind.i64, Ct.int IntKind.u32]]] = [Ct.str, Ct.int IntKind.i64, Ct.sl false
  [Ct.sl true [Ct.int IntKind.i64, Ct.int IntKind.i64, Ct.int IntKind.i64, Ct.int IntKind.i64, Ct.int IntKind.u32]]] ∧ [Ct.str, Ct.bool, Ct.sl true [Ct.int IntKind.i64, Ct.int IntKind.i64]] = [Ct.str, Ct.bool,
  Ct.sl true [Ct.int IntKind.i64, Ct.int IntKind.i64]]) ∧ List.length (U.list S) = List.length (U.list S') ∧ (0 : Int) ≤ IntKind.wrap IntKind.i64 (U.int i + (1 : Int)) ∧ IntKind.wrap IntKind.i64 (U.int i
  + (1 : Int)) ≤ (↑(List.length (U.list S)) : Int)) ∧ bif shotsE (List.drop (Int.toNat (IntKind.wrap IntKind.i64 (U.int i + (1 : Int)))) (U.list S)) (List.drop (Int.toNat (IntKind.wrap IntKind.i64 (U.int
  i + (1 : Int)))) (U.list S')) then k (Ex.exit (nat_lit 0)) (St.mk [(nat_lit 4, SV.unk)] []) else k Ex.ret (St.mk [(nat_lit 4, SV.val Ct.bool (U.b false))] []) else False) else False) ((fun T => Alt (Alt
  T T) (Alt T T)) (bif decide ((0 : Int) ≤ U.int i ∧ U.int i < (↑(List.length (U.list S)) : Int)) then bif !ByteArray.toList (U.str (nth (U.i (0 : Int)) (U.list (nth (U.i (0 : Int)) (U.list S) (Int.toNat
  (U.int i)))) (0 : Nat))) == ByteArray.toList (U.str (nth (U.i (0 : Int)) (U.list (nth (U.i (0 : Int)) (U.list S') (Int.toNat (U.int i)))) (0 : Nat))) then k Ex.ret (St.mk [(nat_lit 4, SV.val Ct.bool (U.b
  false))] []) else bif U.int (nth (U.i (0 : Int)) (List.tail (U.list (nth (U.i (0 : Int)) (U.list S) (Int.toNat (U.int i))))) (0 : Nat)) != U.int (nth (U.i (0 : Int)) (List.tail (U.list (nth (U.i (0 : Int))
  (U.list S') (Int.toNat (U.int i))))) (0 : Nat)) then k Ex.ret (St.mk [(nat_lit 4, SV.val Ct.bool (U.b false))] []) else bif !tabE (U.list (nth (U.i (0 : Int)) (List.tail (List.tail (U.list (nth (U.i (0
  : Int)) (U.list S) (Int.toNat (U.int i)))))) (0 : Nat))) (U.list (nth (U.i (0 : Int)) (List.tail (List.tail (U.list (nth (U.i (0 : Int)) (U.list S') (Int.toNat (U.int i)))))) (0 : Nat))) then k Ex.ret
  (St.mk [(nat_lit 4, SV.val Ct.bool (U.b false))] []) else bif Nat.blt (μ [SV.val (Ct.int IntKind.i64) (U.i (IntKind.wrap IntKind.i64 (U.int i + (1 : Int)))), SV.ptr (nat_lit 256) (nat_lit 0), SV.ptr (nat_lit
  384) (nat_lit 0)] [Obj.box [SV.val (Ct.int IntKind.i64) c, SV.val (Ct.int IntKind.i64) sz, SV.val Ct.str bk, SV.val (Ct.sl false [Ct.sl true [Ct.int IntKind.i64, Ct.int IntKind.i64, Ct.int IntKind.i64,
  Ct.int IntKind.i64, Ct.int IntKind.u32]]) T, SV.val (Ct.sl true [Ct.str, Ct.int IntKind.i64, Ct.sl false [Ct.sl true [Ct.int IntKind.i64, Ct.int IntKind.i64, Ct.int IntKind.i64, Ct.int IntKind.i64, Ct.int
  IntKind.u32]]]) S, SV.val (Ct.sl true [Ct.str, Ct.bool, Ct.sl true [Ct.int IntKind.i64, Ct.int IntKind.i64]]) M, SV.val (Ct.sl false [Ct.int IntKind.i64]) Q], Obj.box [SV.val (Ct.int IntKind.i64) c', SV.val
  (Ct.int IntKind.i64) sz', SV.val Ct.str bk', SV.val (Ct.sl false [Ct.sl true [Ct.int IntKind.i64, Ct.int IntKind.i64, Ct.int IntKind.i64, Ct.int IntKind.i64, Ct.int IntKind.u32]]) T', SV.val (Ct.sl true
  [Ct.str, Ct.int IntKind.i64, Ct.sl false [Ct.sl true [Ct.int IntKind.i64, Ct.int IntKind.i64, Ct.int IntKind.i64, Ct.int IntKind.i64, Ct.int IntKind.u32]]]) S', SV.val (Ct.sl true [Ct.str, Ct.bool, Ct.sl
  true [Ct.int IntKind.i64, Ct.int IntKind.i64]]) M', SV.val (Ct.sl false [Ct.int IntKind.i64]) Q']]) N then ((nat_lit 256 = nat_lit 256 ∧ nat_lit 0 = nat_lit 0 ∧ nat_lit 384 = nat_lit 384 ∧ nat_lit 0 =
  nat_lit 0) ∧ ([Ct.int IntKind.i64, Ct.int IntKind.i64, Ct.int IntKind.i64, Ct.int IntKind.i64, Ct.int IntKind.u32] = [Ct.int IntKind.i64, Ct.int IntKind.i64, Ct.int IntKind.i64, Ct.int IntKind.i64, Ct.int
  IntKind.u32] ∧ [Ct.str, Ct.int IntKind.i64, Ct.sl false [Ct.sl true [Ct.int IntKind.i64, Ct.int IntKind.i64, Ct.int IntKind.i64, Ct.int IntKind.i64, Ct.int IntKind.u32]]] = [Ct.str, Ct.int IntKind.i64,
  Ct.sl false [Ct.sl true [Ct.int IntKind.i64, Ct.int IntKind.i64, Ct.int IntKind.i64, Ct.int IntKind.i64, Ct.int IntKind.u32]]] ∧ [Ct.str, Ct.bool, Ct.sl true [Ct.int IntKind.i64, Ct.int IntKind.i64]] =
  [Ct.str, Ct.bool, Ct.sl true [Ct.int IntKind.i64, Ct.int IntKind.i64]]) ∧ ([Ct.int IntKind.i64, Ct.int IntKind.i64, Ct.int IntKind.i64, Ct.int IntKind.i64, Ct.int IntKind.u32] = [Ct.int IntKind.i64, Ct.int
  IntKind.i64, Ct.int IntKind.i64, Ct.int IntKind.i64, Ct.int IntKind.u32] ∧ [Ct.str, Ct.int IntKind.i64, Ct.sl false [Ct.sl true [Ct.int IntKind.i64, Ct.int IntKind.i64, Ct.int IntKind.i64, Ct.int IntKind.i64,
  Ct.int IntKind.u32]]] = [Ct.str, Ct.int IntKind.i64, Ct.sl false [Ct.sl true [Ct.int IntKind.i64, Ct.int IntKind.i64, Ct.int IntKind.i64, Ct.int IntKind.i64, Ct.int IntKind.u32]]] ∧ [Ct.str, Ct.bool, Ct.sl
  true [Ct.int IntKind.i64, Ct.int IntKind.i64]] = [Ct.str, Ct.bool, Ct.sl true [Ct.int IntKind.i64, Ct.int IntKind.i64]]) ∧ List.length (U.list S) = List.length (U.list S') ∧ (0 : Int) ≤ IntKind.wrap IntKind.i64
  (U.int i + (1 : Int)) ∧ IntKind.wrap IntKind.i64 (U.int i + (1 : Int)) ≤ (↑(List.length (U.list S)) : Int)) ∧ bif shotsE (List.drop (Int.toNat (IntKind.wrap IntKind.i64 (U.int i + (1 : Int)))) (U.list
  S)) (List.drop (Int.toNat (IntKind.wrap IntKind.i64 (U.int i + (1 : Int)))) (U.list S')) then k (Ex.exit (nat_lit 0)) (St.mk [(nat_lit 4, SV.unk)] []) else k Ex.ret (St.mk [(nat_lit 4, SV.val Ct.bool (U.b
  false))] []) else False else False)) else False) (Alt (Alt (bif decide ((0 : Int) ≤ U.int i ∧ U.int i < (↑(List.length (U.list S)) : Int)) then (fun T => Alt T (Alt T T)) (bif decide ((0 : Int) ≤ U.int
  i ∧ U.int i < (↑(List.length (U.list S')) : Int)) then bif !ByteArray.toList (U.str (nth (U.i (0 : Int)) (U.list (nth (U.i (0 : Int)) (U.list S) (Int.toNat (U.int i)))) (0 : Nat))) == ByteArray.toList
  (U.str (nth (U.i (0 : Int)) (U.list (nth (U.i (0 : Int)) (U.list S') (Int.toNat (U.int i)))) (0 : Nat))) then k Ex.ret (St.mk [(nat_lit 4, SV.val Ct.bool (U.b false))] []) else bif U.int (nth (U.i (0 :
  Int)) (List.tail (U.list (nth (U.i (0 : Int)) (U.list S) (Int.toNat (U.int i))))) (0 : Nat)) != U.int (nth (U.i (0 : Int)) (List.tail (U.list (nth (U.i (0 : Int)) (U.list S') (Int.toNat (U.int i))))) (0
  : Nat)) then k Ex.ret (St.mk [(nat_lit 4, SV.val Ct.bool (U.b false))] []) else bif !tabE (U.list (nth (U.i (0 : Int)) (List.tail (List.tail (U.list (nth (U.i (0 : Int)) (U.list S) (Int.toNat (U.int i))))))
  (0 : Nat))) (U.list (nth (U.i (0 : Int)) (List.tail (List.tail (U.list (nth (U.i (0 : Int)) (U.list S') (Int.toNat (U.int i)))))) (0 : Nat))) then k Ex.ret (St.mk [(nat_lit 4, SV.val Ct.bool (U.b false))]
  []) else bif Nat.blt (μ [SV.val (Ct.int IntKind.i64) (U.i (IntKind.wrap IntKind.i64 (U.int i + (1 : Int)))), SV.ptr (nat_lit 256) (nat_lit 0), SV.ptr (nat_lit 384) (nat_lit 0)] [Obj.box [SV.val (Ct.int
  IntKind.i64) c, SV.val (Ct.int IntKind.i64) sz, SV.val Ct.str bk, SV.val (Ct.sl false [Ct.sl true [Ct.int IntKind.i64, Ct.int IntKind.i64, Ct.int IntKind.i64, Ct.int IntKind.i64, Ct.int IntKind.u32]])
  T, SV.val (Ct.sl true [Ct.str, Ct.int IntKind.i64, Ct.sl false [Ct.sl true [Ct.int IntKind.i64, Ct.int IntKind.i64, Ct.int IntKind.i64, Ct.int IntKind.i64, Ct.int IntKind.u32]]]) S, SV.val (Ct.sl true
  [Ct.str, Ct.bool, Ct.sl true [Ct.int IntKind.i64, Ct.int IntKind.i64]]) M, SV.val (Ct.sl false [Ct.int IntKind.i64]) Q], Obj.box [SV.val (Ct.int IntKind.i64) c', SV.val (Ct.int IntKind.i64) sz', SV.val
  Ct.str bk', SV.val (Ct.sl false [Ct.sl true [Ct.int IntKind.i64, Ct.int IntKind.i64, Ct.int IntKind.i64, Ct.int IntKind.i64, Ct.int IntKind.u32]]) T', SV.val (Ct.sl true [Ct.str, Ct.int IntKind.i64, Ct.sl
  false [Ct.sl true [Ct.int IntKind.i64, Ct.int IntKind.i64, Ct.int IntKind.i64, Ct.int IntKind.i64, Ct.int IntKind.u32]]]) S', SV.val (Ct.sl true [Ct.str, Ct.bool, Ct.sl true [Ct.int IntKind.i64, Ct.int
  IntKind.i64]]) M', SV.val (Ct.sl false [Ct.int IntKind.i64]) Q']]) N then ((nat_lit 256 = nat_lit 256 ∧ nat_lit 0 = nat_lit 0 ∧ nat_lit 384 = nat_lit 384 ∧ nat_lit 0 = nat_lit 0) ∧ ([Ct.int IntKind.i64,
  Ct.int IntKind.i64, Ct.int IntKind.i64, Ct.int IntKind.i64, Ct.int IntKind.u32] = [Ct.int IntKind.i64, Ct.int IntKind.i64, Ct.int IntKind.i64, Ct.int IntKind.i64, Ct.int IntKind.u32] ∧ [Ct.str, Ct.int
  IntKind.i64, Ct.sl false [Ct.sl true [Ct.int IntKind.i64, Ct.int IntKind.i64, Ct.int IntKind.i64, Ct.int IntKind.i64, Ct.int IntKind.u32]]] = [Ct.str, Ct.int IntKind.i64, Ct.sl false [Ct.sl true [Ct.int
  IntKind.i64, Ct.int IntKind.i64, Ct.int IntKind.i64, Ct.int IntKind.i64, Ct.int IntKind.u32]]] ∧ [Ct.str, Ct.bool, Ct.sl true [Ct.int IntKind.i64, Ct.int IntKind.i64]] = [Ct.str, Ct.bool, Ct.sl true [Ct.int
  IntKind.i64, Ct.int IntKind.i64]]) ∧ ([Ct.int IntKind.i64, Ct.int IntKind.i64, Ct.int IntKind.i64, Ct.int IntKind.i64, Ct.int IntKind.u32] = [Ct.int IntKind.i64, Ct.int IntKind.i64, Ct.int IntKind.i64,
  Ct.int IntKind.i64, Ct.int IntKind.u32] ∧ [Ct.str, Ct.int IntKind.i64, Ct.sl false [Ct.sl true [Ct.int IntKind.i64, Ct.int IntKind.i64, Ct.int IntKind.i64, Ct.int IntKind.i64, Ct.int IntKind.u32]]] = [Ct.str,
  Ct.int IntKind.i64, Ct.sl false [Ct.sl true [Ct.int IntKind.i64, Ct.int IntKind.i64, Ct.int IntKind.i64, Ct.int IntKind.i64, Ct.int IntKind.u32]]] ∧ [Ct.str, Ct.bool, Ct.sl true [Ct.int IntKind.i64, Ct.int
  IntKind.i64]] = [Ct.str, Ct.bool, Ct.sl true [Ct.int IntKind.i64, Ct.int IntKind.i64]]) ∧ List.length (U.list S) = List.length (U.list S') ∧ (0 : Int) ≤ IntKind.wrap IntKind.i64 (U.int i + (1 : Int)) ∧
  IntKind.wrap IntKind.i64 (U.int i + (1 : Int)) ≤ (↑(List.length (U.list S)) : Int)) ∧ bif shotsE (List.drop (Int.toNat (IntKind.wrap IntKind.i64 (U.int i + (1 : Int)))) (U.list S)) (List.drop (Int.toNat
  (IntKind.wrap IntKind.i64 (U.int i + (1 : Int)))) (U.list S')) then k (Ex.exit (nat_lit 0)) (St.mk [(nat_lit 4, SV.unk)] []) else k Ex.ret (St.mk [(nat_lit 4, SV.val Ct.bool (U.b false))] []) else False
  else False) else False) (Alt (bif decide ((0 : Int) ≤ U.int i ∧ U.int i < (↑(List.length (U.list S')) : Int)) then (fun T => Alt T T) (bif decide ((0 : Int) ≤ U.int i ∧ U.int i < (↑(List.length (U.list
  S)) : Int)) then bif !ByteArray.toList (U.str (nth (U.i (0 : Int)) (U.list (nth (U.i (0 : Int)) (U.list S) (Int.toNat (U.int i)))) (0 : Nat))) == ByteArray.toList (U.str (nth (U.i (0 : Int)) (U.list (nth
  (U.i (0 : Int)) (U.list S') (Int.toNat (U.int i)))) (0 : Nat))) then k Ex.ret (St.mk [(nat_lit 4, SV.val Ct.bool (U.b false))] []) else bif U.int (nth (U.i (0 : Int)) (List.tail (U.list (nth (U.i (0 :
  Int)) (U.list S) (Int.toNat (U.int i))))) (0 : Nat)) != U.int (nth (U.i (0 : Int)) (List.tail (U.list (nth (U.i (0 : Int)) (U.list S') (Int.toNat (U.int i))))) (0 : Nat)) then k Ex.ret (St.mk [(nat_lit
  4, SV.val Ct.bool (U.b false))] []) else bif !tabE (U.list (nth (U.i (0 : Int)) (List.tail (List.tail (U.list (nth (U.i (0 : Int)) (U.list S) (Int.toNat (U.int i)))))) (0 : Nat))) (U.list (nth (U.i (0
  : Int)) (List.tail (List.tail (U.list (nth (U.i (0 : Int)) (U.list S') (Int.toNat (U.int i)))))) (0 : Nat))) then k Ex.ret (St.mk [(nat_lit 4, SV.val Ct.bool (U.b false))] []) else bif Nat.blt (μ [SV.val
  (Ct.int IntKind.i64) (U.i (IntKind.wrap IntKind.i64 (U.int i + (1 : Int)))), SV.ptr (nat_lit 256) (nat_lit 0), SV.ptr (nat_lit 384) (nat_lit 0)] [Obj.box [SV.val (Ct.int IntKind.i64) c, SV.val (Ct.int
  IntKind.i64) sz, SV.val Ct.str bk, SV.val (Ct.sl false [Ct.sl true [Ct.int IntKind.i64, Ct.int IntKind.i64, Ct.int IntKind.i64, Ct.int IntKind.i64, Ct.int IntKind.u32]]) T, SV.val (Ct.sl true [Ct.str,
  Ct.int IntKind.i64, Ct.sl false [Ct.sl true [Ct.int IntKind.i64, Ct.int IntKind.i64, Ct.int IntKind.i64, Ct.int IntKind.i64, Ct.int IntKind.u32]]]) S, SV.val (Ct.sl true [Ct.str, Ct.bool, Ct.sl true [Ct.int
  IntKind.i64, Ct.int IntKind.i64]]) M, SV.val (Ct.sl false [Ct.int IntKind.i64]) Q], Obj.box [SV.val (Ct.int IntKind.i64) c', SV.val (Ct.int IntKind.i64) sz', SV.val Ct.str bk', SV.val (Ct.sl false [Ct.sl
  true [Ct.int IntKind.i64, Ct.int IntKind.i64, Ct.int IntKind.i64, Ct.int IntKind.i64, Ct.int IntKind.u32]]) T', SV.val (Ct.sl true [Ct.str, Ct.int IntKind.i64, Ct.sl false [Ct.sl true [Ct.int IntKind.i64,
  Ct.int IntKind.i64, Ct.int IntKind.i64, Ct.int IntKind.i64, Ct.int IntKind.u32]]]) S', SV.val (Ct.sl true [Ct.str, Ct.bool, Ct.sl true [Ct.int IntKind.i64, Ct.int IntKind.i64]]) M', SV.val (Ct.sl false
  [Ct.int IntKind.i64]) Q']]) N then ((nat_lit 256 = nat_lit 256 ∧ nat_lit 0 = nat_lit 0 ∧ nat_lit 384 = nat_lit 384 ∧ nat_lit 0 = nat_lit 0) ∧ ([Ct.int IntKind.i64, Ct.int IntKind.i64, Ct.int IntKind.i64,
  Ct.int IntKind.i64, Ct.int IntKind.u32] = [Ct.int IntKind.i64, Ct.int IntKind.i64, Ct.int IntKind.i64, Ct.int IntKind.i64, Ct.int IntKind.u32] ∧ [Ct.str, Ct.int IntKind.i64, Ct.sl false [Ct.sl true [Ct.int
  IntKind.i64, Ct.int IntKind.i64, Ct.int IntKind.i64, Ct.int IntKind.i64, Ct.int IntKind.u32]]] = [Ct.str, Ct.int IntKind.i64, Ct.sl false [Ct.sl true [Ct.int IntKind.i64, Ct.int IntKind.i64, Ct.int IntKind.i64,
  Ct.int IntKind.i64, Ct.int IntKind.u32]]] ∧ [Ct.str, Ct.bool, Ct.sl true [Ct.int IntKind.i64, Ct.int IntKind.i64]] = [Ct.str, Ct.bool, Ct.sl true [Ct.int IntKind.i64, Ct.int IntKind.i64]]) ∧ ([Ct.int IntKind.i64,
  Ct.int IntKind.i64, Ct.int IntKind.i64, Ct.int IntKind.i64, Ct.int IntKind.u32] = [Ct.int IntKind.i64, Ct.int IntKind.i64, Ct.int IntKind.i64, Ct.int IntKind.i64, Ct.int IntKind.u32] ∧ [Ct.str, Ct.int
  IntKind.i64, Ct.sl false [Ct.sl true [Ct.int IntKind.i64, Ct.int IntKind.i64, Ct.int IntKind.i64, Ct.int IntKind.i64, Ct.int IntKind.u32]]] = [Ct.str, Ct.int IntKind.i64, Ct.sl false [Ct.sl true [Ct.int
  IntKind.i64, Ct.int IntKind.i64, Ct.int IntKind.i64, Ct.int IntKind.i64, Ct.int IntKind.u32]]] ∧ [Ct.str, Ct.bool, Ct.sl true [Ct.int IntKind.i64, Ct.int IntKind.i64]] = [Ct.str, Ct.bool, Ct.sl true [Ct.int
  IntKind.i64, Ct.int IntKind.i64]]) ∧ List.length (U.list S) = List.length (U.list S') ∧ (0 : Int) ≤ IntKind.wrap IntKind.i64 (U.int i + (1 : Int)) ∧ IntKind.wrap IntKind.i64 (U.int i + (1 : Int)) ≤ (↑(List.length
  (U.list S)) : Int)) ∧ bif shotsE (List.drop (Int.toNat (IntKind.wrap IntKind.i64 (U.int i + (1 : Int)))) (U.list S)) (List.drop (Int.toNat (IntKind.wrap IntKind.i64 (U.int i + (1 : Int)))) (U.list S'))
  then k (Ex.exit (nat_lit 0)) (St.mk [(nat_lit 4, SV.unk)] []) else k Ex.ret (St.mk [(nat_lit 4, SV.val Ct.bool (U.b false))] []) else False else False) else False) (Alt (bif decide ((0 : Int) ≤ U.int i
  ∧ U.int i < (↑(List.length (U.list S)) : Int)) then (fun T => Alt T T) (bif decide ((0 : Int) ≤ U.int i ∧ U.int i < (↑(List.length (U.list S')) : Int)) then bif !ByteArray.toList (U.str (nth (U.i (0 :
  Int)) (U.list (nth (U.i (0 : Int)) (U.list S) (Int.toNat (U.int i)))) (0 : Nat))) == ByteArray.toList (U.str (nth (U.i (0 : Int)) (U.list (nth (U.i (0 : Int)) (U.list S') (Int.toNat (U.int i)))) (0 : Nat)))
  then k Ex.ret (St.mk [(nat_lit 4, SV.val Ct.bool (U.b false))] []) else bif U.int (nth (U.i (0 : Int)) (List.tail (U.list (nth (U.i (0 : Int)) (U.list S) (Int.toNat (U.int i))))) (0 : Nat)) != U.int (nth
  (U.i (0 : Int)) (List.tail (U.list (nth (U.i (0 : Int)) (U.list S') (Int.toNat (U.int i))))) (0 : Nat)) then k Ex.ret (St.mk [(nat_lit 4, SV.val Ct.bool (U.b false))] []) else bif !tabE (U.list (nth (U.i
  (0 : Int)) (List.tail (List.tail (U.list (nth (U.i (0 : Int)) (U.list S) (Int.toNat (U.int i)))))) (0 : Nat))) (U.list (nth (U.i (0 : Int)) (List.tail (List.tail (U.list (nth (U.i (0 : Int)) (U.list S')
  (Int.toNat (U.int i)))))) (0 : Nat))) then k Ex.ret (St.mk [(nat_lit 4, SV.val Ct.bool (U.b false))] []) else bif Nat.blt (μ [SV.val (Ct.int IntKind.i64) (U.i (IntKind.wrap IntKind.i64 (U.int i + (1 :
  Int)))), SV.ptr (nat_lit 256) (nat_lit 0), SV.ptr (nat_lit 384) (nat_lit 0)] [Obj.box [SV.val (Ct.int IntKind.i64) c, SV.val (Ct.int IntKind.i64) sz, SV.val Ct.str bk, SV.val (Ct.sl false [Ct.sl true [Ct.int
  IntKind.i64, Ct.int IntKind.i64, Ct.int IntKind.i64, Ct.int IntKind.i64, Ct.int IntKind.u32]]) T, SV.val (Ct.sl true [Ct.str, Ct.int IntKind.i64, Ct.sl false [Ct.sl true [Ct.int IntKind.i64, Ct.int IntKind.i64,
  Ct.int IntKind.i64, Ct.int IntKind.i64, Ct.int IntKind.u32]]]) S, SV.val (Ct.sl true [Ct.str, Ct.bool, Ct.sl true [Ct.int IntKind.i64, Ct.int IntKind.i64]]) M, SV.val (Ct.sl false [Ct.int IntKind.i64])
  Q], Obj.box [SV.val (Ct.int IntKind.i64) c', SV.val (Ct.int IntKind.i64) sz', SV.val Ct.str bk', SV.val (Ct.sl false [Ct.sl true [Ct.int IntKind.i64, Ct.int IntKind.i64, Ct.int IntKind.i64, Ct.int IntKind.i64,
  Ct.int IntKind.u32]]) T', SV.val (Ct.sl true [Ct.str, Ct.int IntKind.i64, Ct.sl false [Ct.sl true [Ct.int IntKind.i64, Ct.int IntKind.i64, Ct.int IntKind.i64, Ct.int IntKind.i64, Ct.int IntKind.u32]]])
  S', SV.val (Ct.sl true [Ct.str, Ct.bool, Ct.sl true [Ct.int IntKind.i64, Ct.int IntKind.i64]]) M', SV.val (Ct.sl false [Ct.int IntKind.i64]) Q']]) N then ((nat_lit 256 = nat_lit 256 ∧ nat_lit 0 = nat_lit
  0 ∧ nat_lit 384 = nat_lit 384 ∧ nat_lit 0 = nat_lit 0) ∧ ([Ct.int IntKind.i64, Ct.int IntKind.i64, Ct.int IntKind.i64, Ct.int IntKind.i64, Ct.int IntKind.u32] = [Ct.int IntKind.i64, Ct.int IntKind.i64,
  Ct.int IntKind.i64, Ct.int IntKind.i64, Ct.int IntKind.u32] ∧ [Ct.str, Ct.int IntKind.i64, Ct.sl false [Ct.sl true [Ct.int IntKind.i64, Ct.int IntKind.i64, Ct.int IntKind.i64, Ct.int IntKind.i64, Ct.int
  IntKind.u32]]] = [Ct.str, Ct.int IntKind.i64, Ct.sl false [Ct.sl true [Ct.int IntKind.i64, Ct.int IntKind.i64, Ct.int IntKind.i64, Ct.int IntKind.i64, Ct.int IntKind.u32]]] ∧ [Ct.str, Ct.bool, Ct.sl true
  [Ct.int IntKind.i64, Ct.int IntKind.i64]] = [Ct.str, Ct.bool, Ct.sl true [Ct.int IntKind.i64, Ct.int IntKind.i64]]) ∧ ([Ct.int IntKind.i64, Ct.int IntKind.i64, Ct.int IntKind.i64, Ct.int IntKind.i64, Ct.int
  IntKind.u32] = [Ct.int IntKind.i64, Ct.int IntKind.i64, Ct.int IntKind.i64, Ct.int IntKind.i64, Ct.int IntKind.u32] ∧ [Ct.str, Ct.int IntKind.i64, Ct.sl false [Ct.sl true [Ct.int IntKind.i64, Ct.int IntKind.i64,
  Ct.int IntKind.i64, Ct.int IntKind.i64, Ct.int IntKind.u32]]] = [Ct.str, Ct.int IntKind.i64, Ct.sl false [Ct.sl true [Ct.int IntKind.i64, Ct.int IntKind.i64, Ct.int IntKind.i64, Ct.int IntKind.i64, Ct.int
  IntKind.u32]]] ∧ [Ct.str, Ct.bool, Ct.sl true [Ct.int IntKind.i64, Ct.int IntKind.i64]] = [Ct.str, Ct.bool, Ct.sl true [Ct.int IntKind.i64, Ct.int IntKind.i64]]) ∧ List.length (U.list S) = List.length
  (U.list S') ∧ (0 : Int) ≤ IntKind.wrap IntKind.i64 (U.int i + (1 : Int)) ∧ IntKind.wrap IntKind.i64 (U.int i + (1 : Int)) ≤ (↑(List.length (U.list S)) : Int)) ∧ bif shotsE (List.drop (Int.toNat (IntKind.wrap
  IntKind.i64 (U.int i + (1 : Int)))) (U.list S)) (List.drop (Int.toNat (IntKind.wrap IntKind.i64 (U.int i + (1 : Int)))) (U.list S')) then k (Ex.exit (nat_lit 0)) (St.mk [(nat_lit 4, SV.unk)] []) else k
  Ex.ret (St.mk [(nat_lit 4, SV.val Ct.bool (U.b false))] []) else False else False) else False) (bif decide ((0 : Int) ≤ U.int i ∧ U.int i < (↑(List.length (U.list S')) : Int)) then bif decide ((0 : Int)
  ≤ U.int i ∧ U.int i < (↑(List.length (U.list S)) : Int)) then bif !ByteArray.toList (U.str (nth (U.i (0 : Int)) (U.list (nth (U.i (0 : Int)) (U.list S) (Int.toNat (U.int i)))) (0 : Nat))) == ByteArray.toList
  (U.str (nth (U.i (0 : Int)) (U.list (nth (U.i (0 : Int)) (U.list S') (Int.toNat (U.int i)))) (0 : Nat))) then k Ex.ret (St.mk [(nat_lit 4, SV.val Ct.bool (U.b false))] []) else bif U.int (nth (U.i (0 :
  Int)) (List.tail (U.list (nth (U.i (0 : Int)) (U.list S) (Int.toNat (U.int i))))) (0 : Nat)) != U.int (nth (U.i (0 : Int)) (List.tail (U.list (nth (U.i (0 : Int)) (U.list S') (Int.toNat (U.int i))))) (0
  : Nat)) then k Ex.ret (St.mk [(nat_lit 4, SV.val Ct.bool (U.b false))] []) else bif !tabE (U.list (nth (U.i (0 : Int)) (List.tail (List.tail (U.list (nth (U.i (0 : Int)) (U.list S) (Int.toNat (U.int i))))))
  (0 : Nat))) (U.list (nth (U.i (0 : Int)) (List.tail (List.tail (U.list (nth (U.i (0 : Int)) (U.list S') (Int.toNat (U.int i)))))) (0 : Nat))) then k Ex.ret (St.mk [(nat_lit 4, SV.val Ct.bool (U.b false))]
  []) else bif Nat.blt (μ [SV.val (Ct.int IntKind.i64) (U.i (IntKind.wrap IntKind.i64 (U.int i + (1 : Int)))), SV.ptr (nat_lit 256) (nat_lit 0), SV.ptr (nat_lit 384) (nat_lit 0)] [Obj.box [SV.val (Ct.int
  IntKind.i64) c, SV.val (Ct.int IntKind.i64) sz, SV.val Ct.str bk, SV.val (Ct.sl false [Ct.sl true [Ct.int IntKind.i64, Ct.int IntKind.i64, Ct.int IntKind.i64, Ct.int IntKind.i64, Ct.int IntKind.u32]])
  T, SV.val (Ct.sl true [Ct.str, Ct.int IntKind.i64, Ct.sl false [Ct.sl true [Ct.int IntKind.i64, Ct.int IntKind.i64, Ct.int IntKind.i64, Ct.int IntKind.i64, Ct.int IntKind.u32]]]) S, SV.val (Ct.sl true
  [Ct.str, Ct.bool, Ct.sl true [Ct.int IntKind.i64, Ct.int IntKind.i64]]) M, SV.val (Ct.sl false [Ct.int IntKind.i64]) Q], Obj.box [SV.val (Ct.int IntKind.i64) c', SV.val (Ct.int IntKind.i64) sz', SV.val
  Ct.str bk', SV.val (Ct.sl false [Ct.sl true [Ct.int IntKind.i64, Ct.int IntKind.i64, Ct.int IntKind.i64, Ct.int IntKind.i64, Ct.int IntKind.u32]]) T', SV.val (Ct.sl true [Ct.str, Ct.int IntKind.i64, Ct.sl
  false [Ct.sl true [Ct.int IntKind.i64, Ct.int IntKind.i64, Ct.int IntKind.i64, Ct.int IntKind.i64, Ct.int IntKind.u32]]]) S', SV.val (Ct.sl true [Ct.str, Ct.bool, Ct.sl true [Ct.int IntKind.i64, Ct.int
  IntKind.i64]]) M', SV.val (Ct.sl false [Ct.int IntKind.i64]) Q']]) N then ((nat_lit 256 = nat_lit 256 ∧ nat_lit 0 = nat_lit 0 ∧ nat_lit 384 = nat_lit 384 ∧ nat_lit 0 = nat_lit 0) ∧ ([Ct.int IntKind.i64,
  Ct.int IntKind.i64, Ct.int IntKind.i64, Ct.int IntKind.i64, Ct.int IntKind.u32] = [Ct.int IntKind.i64, Ct.int IntKind.i64, Ct.int IntKind.i64, Ct.int IntKind.i64, Ct.int IntKind.u32] ∧ [Ct.str, Ct.int
  IntKind.i64, Ct.sl false [Ct.sl true [Ct.int IntKind.i64, Ct.int IntKind.i64, Ct.int IntKind.i64, Ct.int IntKind.i64, Ct.int IntKind.u32]]] = [Ct.str, Ct.int IntKind.i64, Ct.sl false [Ct.sl true [Ct.int
  IntKind.i64, Ct.int IntKind.i64, Ct.int IntKind.i64, Ct.int IntKind.i64, Ct.int IntKind.u32]]] ∧ [Ct.str, Ct.bool, Ct.sl true [Ct.int IntKind.i64, Ct.int IntKind.i64]] = [Ct.str, Ct.bool, Ct.sl true [Ct.int
  IntKind.i64, Ct.int IntKind.i64]]) ∧ ([Ct.int IntKind.i64, Ct.int IntKind.i64, Ct.int IntKind.i64, Ct.int IntKind.i64, Ct.int IntKind.u32] = [Ct.int IntKind.i64, Ct.int IntKind.i64, Ct.int IntKind.i64,
  Ct.int IntKind.i64, Ct.int IntKind.u32] ∧ [Ct.str, Ct.int IntKind.i64, Ct.sl false [Ct.sl true [Ct.int IntKind.i64, Ct.int IntKind.i64, Ct.int IntKind.i64, Ct.int IntKind.i64, Ct.int IntKind.u32]]] = [Ct.str,
  Ct.int IntKind.i64, Ct.sl false [Ct.sl true [Ct.int IntKind.i64, Ct.int IntKind.i64, Ct.int IntKind.i64, Ct.int IntKind.i64, Ct.int IntKind.u32]]] ∧ [Ct.str, Ct.bool, Ct.sl true [Ct.int IntKind.i64, Ct.int
  IntKind.i64]] = [Ct.str, Ct.bool, Ct.sl true [Ct.int IntKind.i64, Ct.int IntKind.i64]]) ∧ List.length (U.list S) = List.length (U.list S') ∧ (0 : Int) ≤ IntKind.wrap IntKind.i64 (U.int i + (1 : Int)) ∧
  IntKind.wrap IntKind.i64 (U.int i + (1 : Int)) ≤ (↑(List.length (U.list S)) : Int)) ∧ bif shotsE (List.drop (Int.toNat (IntKind.wrap IntKind.i64 (U.int i + (1 : Int)))) (U.list S)) (List.drop (Int.toNat
  (IntKind.wrap IntKind.i64 (U.int i + (1 : Int)))) (U.list S')) then k (Ex.exit (nat_lit 0)) (St.mk [(nat_lit 4, SV.unk)] []) else k Ex.ret (St.mk [(nat_lit 4, SV.val Ct.bool (U.b false))] []) else False
  else False else False)))) (Alt (bif decide ((0 : Int) ≤ U.int i ∧ U.int i < (↑(List.length (U.list S)) : Int)) then (fun T => Alt T (Alt T T)) (bif decide ((0 : Int) ≤ U.int i ∧ U.int i < (↑(List.length
  (U.list S')) : Int)) then bif !ByteArray.toList (U.str (nth (U.i (0 : Int)) (U.list (nth (U.i (0 : Int)) (U.list S) (Int.toNat (U.int i)))) (0 : Nat))) == ByteArray.toList (U.str (nth (U.i (0 : Int)) (U.list
  (nth (U.i (0 : Int)) (U.list S') (Int.toNat (U.int i)))) (0 : Nat))) then k Ex.ret (St.mk [(nat_lit 4, SV.val Ct.bool (U.b false))] []) else bif U.int (nth (U.i (0 : Int)) (List.tail (U.list (nth (U.i
  (0 : Int)) (U.list S) (Int.toNat (U.int i))))) (0 : Nat)) != U.int (nth (U.i (0 : Int)) (List.tail (U.list (nth (U.i (0 : Int)) (U.list S') (Int.toNat (U.int i))))) (0 : Nat)) then k Ex.ret (St.mk [(nat_lit
  4, SV.val Ct.bool (U.b false))] []) else bif !tabE (U.list (nth (U.i (0 : Int)) (List.tail (List.tail (U.list (nth (U.i (0 : Int)) (U.list S) (Int.toNat (U.int i)))))) (0 : Nat))) (U.list (nth (U.i (0
  : Int)) (List.tail (List.tail (U.list (nth (U.i (0 : Int)) (U.list S') (Int.toNat (U.int i)))))) (0 : Nat))) then k Ex.ret (St.mk [(nat_lit 4, SV.val Ct.bool (U.b false))] []) else bif Nat.blt (μ [SV.val
  (Ct.int IntKind.i64) (U.i (IntKind.wrap IntKind.i64 (U.int i + (1 : Int)))), SV.ptr (nat_lit 256) (nat_lit 0), SV.ptr (nat_lit 384) (nat_lit 0)] [Obj.box [SV.val (Ct.int IntKind.i64) c, SV.val (Ct.int
  IntKind.i64) sz, SV.val Ct.str bk, SV.val (Ct.sl false [Ct.sl true [Ct.int IntKind.i64, Ct.int IntKind.i64, Ct.int IntKind.i64, Ct.int IntKind.i64, Ct.int IntKind.u32]]) T, SV.val (Ct.sl true [Ct.str,
  Ct.int IntKind.i64, Ct.sl false [Ct.sl true [Ct.int IntKind.i64, Ct.int IntKind.i64, Ct.int IntKind.i64, Ct.int IntKind.i64, Ct.int IntKind.u32]]]) S, SV.val (Ct.sl true [Ct.str, Ct.bool, Ct.sl true [Ct.int
  IntKind.i64, Ct.int IntKind.i64]]) M, SV.val (Ct.sl false [Ct.int IntKind.i64]) Q], Obj.box [SV.val (Ct.int IntKind.i64) c', SV.val (Ct.int IntKind.i64) sz', SV.val Ct.str bk', SV.val (Ct.sl false [Ct.sl
  true [Ct.int IntKind.i64, Ct.int IntKind.i64, Ct.int IntKind.i64, Ct.int IntKind.i64, Ct.int IntKind.u32]]) T', SV.val (Ct.sl true [Ct.str, Ct.int IntKind.i64, Ct.sl false [Ct.sl true [Ct.int IntKind.i64,
  Ct.int IntKind.i64, Ct.int IntKind.i64, Ct.int IntKind.i64, Ct.int IntKind.u32]]]) S', SV.val (Ct.sl true [Ct.str, Ct.bool, Ct.sl true [Ct.int IntKind.i64, Ct.int IntKind.i64]]) M', SV.val (Ct.sl false
  [Ct.int IntKind.i64]) Q']]) N then ((nat_lit 256 = nat_lit 256 ∧ nat_lit 0 = nat_lit 0 ∧ nat_lit 384 = nat_lit 384 ∧ nat_lit 0 = nat_lit 0) ∧ ([Ct.int IntKind.i64, Ct.int IntKind.i64, Ct.int IntKind.i64,
  Ct.int IntKind.i64, Ct.int IntKind.u32] = [Ct.int IntKind.i64, Ct.int IntKind.i64, Ct.int IntKind.i64, Ct.int IntKind.i64, Ct.int IntKind.u32] ∧ [Ct.str, Ct.int IntKind.i64, Ct.sl false [Ct.sl true [Ct.int
  IntKind.i64, Ct.int IntKind.i64, Ct.int IntKind.i64, Ct.int IntKind.i64, Ct.int IntKind.u32]]] = [Ct.str, Ct.int IntKind.i64, Ct.sl false [Ct.sl true [Ct.int IntKind.i64, Ct.int IntKind.i64, Ct.int IntKind.i64,
  Ct.int IntKind.i64, Ct.int IntKind.u32]]] ∧ [Ct.str, Ct.bool, Ct.sl true [Ct.int IntKind.i64, Ct.int IntKind.i64]] = [Ct.str, Ct.bool, Ct.sl true [Ct.int IntKind.i64, Ct.int IntKind.i64]]) ∧ ([Ct.int IntKind.i64,
  Ct.int IntKind.i64, Ct.int IntKind.i64, Ct.int IntKind.i64, Ct.int IntKind.u32] = [Ct.int IntKind.i64, Ct.int IntKind.i64, Ct.int IntKind.i64, Ct.int IntKind.i64, Ct.int IntKind.u32] ∧ [Ct.str, Ct.int
  IntKind.i64, Ct.sl false [Ct.sl true [Ct.int IntKind.i64, Ct.int IntKind.i64, Ct.int IntKind.i64, Ct.int IntKind.i64, Ct.int IntKind.u32]]] = [Ct.str, Ct.int IntKind.i64, Ct.sl false [Ct.sl true [Ct.int
  IntKind.i64, Ct.int IntKind.i64, Ct.int IntKind.i64, Ct.int IntKind.i64, Ct.int IntKind.u32]]] ∧ [Ct.str, Ct.bool, Ct.sl true [Ct.int IntKind.i64, Ct.int IntKind.i64]] = [Ct.str, Ct.bool, Ct.sl true [Ct.int
  IntKind.i64, Ct.int IntKind.i64]]) ∧ List.length (U.list S) = List.length (U.list S') ∧ (0 : Int) ≤ IntKind.wrap IntKind.i64 (U.int i + (1 : Int)) ∧ IntKind.wrap IntKind.i64 (U.int i + (1 : Int)) ≤ (↑(List.length
  (U.list S)) : Int)) ∧ bif shotsE (List.drop (Int.toNat (IntKind.wrap IntKind.i64 (U.int i + (1 : Int)))) (U.list S)) (List.drop (Int.toNat (IntKind.wrap IntKind.i64 (U.int i + (1 : Int)))) (U.list S'))
  then k (Ex.exit (nat_lit 0)) (St.mk [(nat_lit 4, SV.unk)] []) else k Ex.ret (St.mk [(nat_lit 4, SV.val Ct.bool (U.b false))] []) else False else False) else False) (Alt (bif decide ((0 : Int) ≤ U.int i
  ∧ U.int i < (↑(List.length (U.list S')) : Int)) then (fun T => Alt T T) (bif decide ((0 : Int) ≤ U.int i ∧ U.int i < (↑(List.length (U.list S)) : Int)) then bif !ByteArray.toList (U.str (nth (U.i (0 :
  Int)) (U.list (nth (U.i (0 : Int)) (U.list S) (Int.toNat (U.int i)))) (0 : Nat))) == ByteArray.toList (U.str (nth (U.i (0 : Int)) (U.list (nth (U.i (0 : Int)) (U.list S') (Int.toNat (U.int i)))) (0 : Nat)))
  then k Ex.ret (St.mk [(nat_lit 4, SV.val Ct.bool (U.b false))] []) else bif U.int (nth (U.i (0 : Int)) (List.tail (U.list (nth (U.i (0 : Int)) (U.list S) (Int.toNat (U.int i))))) (0 : Nat)) != U.int (nth
  (U.i (0 : Int)) (List.tail (U.list (nth (U.i (0 : Int)) (U.list S') (Int.toNat (U.int i))))) (0 : Nat)) then k Ex.ret (St.mk [(nat_lit 4, SV.val Ct.bool (U.b false))] []) else bif !tabE (U.list (nth (U.i
  (0 : Int)) (List.tail (List.tail (U.list (nth (U.i (0 : Int)) (U.list S) (Int.toNat (U.int i)))))) (0 : Nat))) (U.list (nth (U.i (0 : Int)) (List.tail (List.tail (U.list (nth (U.i (0 : Int)) (U.list S')
  (Int.toNat (U.int i)))))) (0 : Nat))) then k Ex.ret (St.mk [(nat_lit 4, SV.val Ct.bool (U.b false))] []) else bif Nat.blt (μ [SV.val (Ct.int IntKind.i64) (U.i (IntKind.wrap IntKind.i64 (U.int i + (1 :
  Int)))), SV.ptr (nat_lit 256) (nat_lit 0), SV.ptr (nat_lit 384) (nat_lit 0)] [Obj.box [SV.val (Ct.int IntKind.i64) c, SV.val (Ct.int IntKind.i64) sz, SV.val Ct.str bk, SV.val (Ct.sl false [Ct.sl true [Ct.int
  IntKind.i64, Ct.int IntKind.i64, Ct.int IntKind.i64, Ct.int IntKind.i64, Ct.int IntKind.u32]]) T, SV.val (Ct.sl true [Ct.str, Ct.int IntKind.i64, Ct.sl false [Ct.sl true [Ct.int IntKind.i64, Ct.int IntKind.i64,
  Ct.int IntKind.i64, Ct.int IntKind.i64, Ct.int IntKind.u32]]]) S, SV.val (Ct.sl true [Ct.str, Ct.bool, Ct.sl true [Ct.int IntKind.i64, Ct.int IntKind.i64]]) M, SV.val (Ct.sl false [Ct.int IntKind.i64])
  Q], Obj.box [SV.val (Ct.int IntKind.i64) c', SV.val (Ct.int IntKind.i64) sz', SV.val Ct.str bk', SV.val (Ct.sl false [Ct.sl true [Ct.int IntKind.i64, Ct.int IntKind.i64, Ct.int IntKind.i64, Ct.int IntKind.i64,
  Ct.int IntKind.u32]]) T', SV.val (Ct.sl true [Ct.str, Ct.int IntKind.i64, Ct.sl false [Ct.sl true [Ct.int IntKind.i64, Ct.int IntKind.i64, Ct.int IntKind.i64, Ct.int IntKind.i64, Ct.int IntKind.u32]]])
  S', SV.val (Ct.sl true [Ct.str, Ct.bool, Ct.sl true [Ct.int IntKind.i64, Ct.int IntKind.i64]]) M', SV.val (Ct.sl false [Ct.int IntKind.i64]) Q']]) N then ((nat_lit 256 = nat_lit 256 ∧ nat_lit 0 = nat_lit
  0 ∧ nat_lit 384 = nat_lit 384 ∧ nat_lit 0 = nat_lit 0) ∧ ([Ct.int IntKind.i64, Ct.int IntKind.i64, Ct.int IntKind.i64, Ct.int IntKind.i64, Ct.int IntKind.u32] = [Ct.int IntKind.i64, Ct.int IntKind.i64,
  Ct.int IntKind.i64, Ct.int IntKind.i64, Ct.int IntKind.u32] ∧ [Ct.str, Ct.int IntKind.i64, Ct.sl false [Ct.sl true [Ct.int IntKind.i64, Ct.int IntKind.i64, Ct.int IntKind.i64, Ct.int IntKind.i64, Ct.int
  IntKind.u32]]] = [Ct.str, Ct.int IntKind.i64, Ct.sl false [Ct.sl true [Ct.int IntKind.i64, Ct.int IntKind.i64, Ct.int IntKind.i64, Ct.int IntKind.i64, Ct.int IntKind.u32]]] ∧ [Ct.str, Ct.bool, Ct.sl true
  [Ct.int IntKind.i64, Ct.int IntKind.i64]] = [Ct.str, Ct.bool, Ct.sl true [Ct.int IntKind.i64, Ct.int IntKind.i64]]) ∧ ([Ct.int IntKind.i64, Ct.int IntKind.i64, Ct.int IntKind.i64, Ct.int IntKind.i64, Ct.int
  IntKind.u32] = [Ct.int IntKind.i64, Ct.int IntKind.i64, Ct.int IntKind.i64, Ct.int IntKind.i64, Ct.int IntKind.u32] ∧ [Ct.str, Ct.int IntKind.i64, Ct.sl false [Ct.sl true [Ct.int IntKind.i64, Ct.int IntKind.i64,
  Ct.int IntKind.i64, Ct.int IntKind.i64, Ct.int IntKind.u32]]] = [Ct.str, Ct.int IntKind.i64, Ct.sl false [Ct.sl true [Ct.int IntKind.i64, Ct.int IntKind.i64, Ct.int IntKind.i64, Ct.int IntKind.i64, Ct.int
  IntKind.u32]]] ∧ [Ct.str, Ct.bool, Ct.sl true [Ct.int IntKind.i64, Ct.int IntKind.i64]] = [Ct.str, Ct.bool, Ct.sl true [Ct.int IntKind.i64, Ct.int IntKind.i64]]) ∧ List.length (U.list S) = List.length
  (U.list S') ∧ (0 : Int) ≤ IntKind.wrap IntKind.i64 (U.int i + (1 : Int)) ∧ IntKind.wrap IntKind.i64 (U.int i + (1 : Int)) ≤ (↑(List.length (U.list S)) : Int)) ∧ bif shotsE (List.drop (Int.toNat (IntKind.wrap
  IntKind.i64 (U.int i + (1 : Int)))) (U.list S)) (List.drop (Int.toNat (IntKind.wrap IntKind.i64 (U.int i + (1 : Int)))) (U.list S')) then k (Ex.exit (nat_lit 0)) (St.mk [(nat_lit 4, SV.unk)] []) else k
  Ex.ret (St.mk [(nat_lit 4, SV.val Ct.bool (U.b false))] []) else False else False) else False) (Alt (bif decide ((0 : Int) ≤ U.int i ∧ U.int i < (↑(List.length (U.list S)) : Int)) then (fun T => Alt T
  T) (bif decide ((0 : Int) ≤ U.int i ∧ U.int i < (↑(List.length (U.list S')) : Int)) then bif !ByteArray.toList (U.str (nth (U.i (0 : Int)) (U.list (nth (U.i (0 : Int)) (U.list S) (Int.toNat (U.int i))))
  (0 : Nat))) == ByteArray.toList (U.str (nth (U.i (0 : Int)) (U.list (nth (U.i (0 : Int)) (U.list S') (Int.toNat (U.int i)))) (0 : Nat))) then k Ex.ret (St.mk [(nat_lit 4, SV.val Ct.bool (U.b false))] [])
  else bif U.int (nth (U.i (0 : Int)) (List.tail (U.list (nth (U.i (0 : Int)) (U.list S) (Int.toNat (U.int i))))) (0 : Nat)) != U.int (nth (U.i (0 : Int)) (List.tail (U.list (nth (U.i (0 : Int)) (U.list
  S') (Int.toNat (U.int i))))) (0 : Nat)) then k Ex.ret (St.mk [(nat_lit 4, SV.val Ct.bool (U.b false))] []) else bif !tabE (U.list (nth (U.i (0 : Int)) (List.tail (List.tail (U.list (nth (U.i (0 : Int))
  (U.list S) (Int.toNat (U.int i)))))) (0 : Nat))) (U.list (nth (U.i (0 : Int)) (List.tail (List.tail (U.list (nth (U.i (0 : Int)) (U.list S') (Int.toNat (U.int i)))))) (0 : Nat))) then k Ex.ret (St.mk [(nat_lit
  4, SV.val Ct.bool (U.b false))] []) else bif Nat.blt (μ [SV.val (Ct.int IntKind.i64) (U.i (IntKind.wrap IntKind.i64 (U.int i + (1 : Int)))), SV.ptr (nat_lit 256) (nat_lit 0), SV.ptr (nat_lit 384) (nat_lit
  0)] [Obj.box [SV.val (Ct.int IntKind.i64) c, SV.val (Ct.int IntKind.i64) sz, SV.val Ct.str bk, SV.val (Ct.sl false [Ct.sl true [Ct.int IntKind.i64, Ct.int IntKind.i64, Ct.int IntKind.i64, Ct.int IntKind.i64,
  Ct.int IntKind.u32]]) T, SV.val (Ct.sl true [Ct.str, Ct.int IntKind.i64, Ct.sl false [Ct.sl true [Ct.int IntKind.i64, Ct.int IntKind.i64, Ct.int IntKind.i64, Ct.int IntKind.i64, Ct.int IntKind.u32]]])
  S, SV.val (Ct.sl true [Ct.str, Ct.bool, Ct.sl true [Ct.int IntKind.i64, Ct.int IntKind.i64]]) M, SV.val (Ct.sl false [Ct.int IntKind.i64]) Q], Obj.box [SV.val (Ct.int IntKind.i64) c', SV.val (Ct.int IntKind.i64)
  sz', SV.val Ct.str bk', SV.val (Ct.sl false [Ct.sl true [Ct.int IntKind.i64, Ct.int IntKind.i64, Ct.int IntKind.i64, Ct.int IntKind.i64, Ct.int IntKind.u32]]) T', SV.val (Ct.sl true [Ct.str, Ct.int IntKind.i64,
  Ct.sl false [Ct.sl true [Ct.int IntKind.i64, Ct.int IntKind.i64, Ct.int IntKind.i64, Ct.int IntKind.i64, Ct.int IntKind.u32]]]) S', SV.val (Ct.sl true [Ct.str, Ct.bool, Ct.sl true [Ct.int IntKind.i64,
  Ct.int IntKind.i64]]) M', SV.val (Ct.sl false [Ct.int IntKind.i64]) Q']]) N then ((nat_lit 256 = nat_lit 256 ∧ nat_lit 0 = nat_lit 0 ∧ nat_lit 384 = nat_lit 384 ∧ nat_lit 0 = nat_lit 0) ∧ ([Ct.int IntKind.i64,
  Ct.int IntKind.i64, Ct.int IntKind.i64, Ct.int IntKind.i64, Ct.int IntKind.u32] = [Ct.int IntKind.i64, Ct.int IntKind.i64, Ct.int IntKind.i64, Ct.int IntKind.i64, Ct.int IntKind.u32] ∧ [Ct.str, Ct.int
  IntKind.i64, Ct.sl false [Ct.sl true [Ct.int IntKind.i64, Ct.int IntKind.i64, Ct.int IntKind.i64, Ct.int IntKind.i64, Ct.int IntKind.u32]]] = [Ct.str, Ct.int IntKind.i64, Ct.sl false [Ct.sl true [Ct.int
  IntKind.i64, Ct.int IntKind.i64, Ct.int IntKind.i64, Ct.int IntKind.i64, Ct.int IntKind.u32]]] ∧ [Ct.str, Ct.bool, Ct.sl true [Ct.int IntKind.i64, Ct.int IntKind.i64]] = [Ct.str, Ct.bool, Ct.sl true [Ct.int
  IntKind.i64, Ct.int IntKind.i64]]) ∧ ([Ct.int IntKind.i64, Ct.int IntKind.i64, Ct.int IntKind.i64, Ct.int IntKind.i64, Ct.int IntKind.u32] = [Ct.int IntKind.i64, Ct.int IntKind.i64, Ct.int IntKind.i64,
  Ct.int IntKind.i64, Ct.int IntKind.u32] ∧ [Ct.str, Ct.int IntKind.i64, Ct.sl false [Ct.sl true [Ct.int IntKind.i64, Ct.int IntKind.i64, Ct.int IntKind.i64, Ct.int IntKind.i64, Ct.int IntKind.u32]]] = [Ct.str,
  Ct.int IntKind.i64, Ct.sl false [Ct.sl true [Ct.int IntKind.i64, Ct.int IntKind.i64, Ct.int IntKind.i64, Ct.int IntKind.i64, Ct.int IntKind.u32]]] ∧ [Ct.str, Ct.bool, Ct.sl true [Ct.int IntKind.i64, Ct.int
  IntKind.i64]] = [Ct.str, Ct.bool, Ct.sl true [Ct.int IntKind.i64, Ct.int IntKind.i64]]) ∧ List.length (U.list S) = List.length (U.list S') ∧ (0 : Int) ≤ IntKind.wrap IntKind.i64 (U.int i + (1 : Int)) ∧
  IntKind.wrap IntKind.i64 (U.int i + (1 : Int)) ≤ (↑(List.length (U.list S)) : Int)) ∧ bif shotsE (List.drop (Int.toNat (IntKind.wrap IntKind.i64 (U.int i + (1 : Int)))) (U.list S)) (List.drop (Int.toNat
  (IntKind.wrap IntKind.i64 (U.int i + (1 : Int)))) (U.list S')) then k (Ex.exit (nat_lit 0)) (St.mk [(nat_lit 4, SV.unk)] []) else k Ex.ret (St.mk [(nat_lit 4, SV.val Ct.bool (U.b false))] []) else False
  else False) else False) (bif decide ((0 : Int) ≤ U.int i ∧ U.int i < (↑(List.length (U.list S')) : Int)) then bif decide ((0 : Int) ≤ U.int i ∧ U.int i < (↑(List.length (U.list S)) : Int)) then bif !ByteArray.toList
  (U.str (nth (U.i (0 : Int)) (U.list (nth (U.i (0 : Int)) (U.list S) (Int.toNat (U.int i)))) (0 : Nat))) == ByteArray.toList (U.str (nth (U.i (0 : Int)) (U.list (nth (U.i (0 : Int)) (U.list S') (Int.toNat
  (U.int i)))) (0 : Nat))) then k Ex.ret (St.mk [(nat_lit 4, SV.val Ct.bool (U.b false))] []) else bif U.int (nth (U.i (0 : Int)) (List.tail (U.list (nth (U.i (0 : Int)) (U.list S) (Int.toNat (U.int i)))))
  (0 : Nat)) != U.int (nth (U.i (0 : Int)) (List.tail (U.list (nth (U.i (0 : Int)) (U.list S') (Int.toNat (U.int i))))) (0 : Nat)) then k Ex.ret (St.mk [(nat_lit 4, SV.val Ct.bool (U.b false))] []) else
  bif !tabE (U.list (nth (U.i (0 : Int)) (List.tail (List.tail (U.list (nth (U.i (0 : Int)) (U.list S) (Int.toNat (U.int i)))))) (0 : Nat))) (U.list (nth (U.i (0 : Int)) (List.tail (List.tail (U.list (nth
  (U.i (0 : Int)) (U.list S') (Int.toNat (U.int i)))))) (0 : Nat))) then k Ex.ret (St.mk [(nat_lit 4, SV.val Ct.bool (U.b false))] []) else bif Nat.blt (μ [SV.val (Ct.int IntKind.i64) (U.i (IntKind.wrap
  IntKind.i64 (U.int i + (1 : Int)))), SV.ptr (nat_lit 256) (nat_lit 0), SV.ptr (nat_lit 384) (nat_lit 0)] [Obj.box [SV.val (Ct.int IntKind.i64) c, SV.val (Ct.int IntKind.i64) sz, SV.val Ct.str bk, SV.val
  (Ct.sl false [Ct.sl true [Ct.int IntKind.i64, Ct.int IntKind.i64, Ct.int IntKind.i64, Ct.int IntKind.i64, Ct.int IntKind.u32]]) T, SV.val (Ct.sl true [Ct.str, Ct.int IntKind.i64, Ct.sl false [Ct.sl true
  [Ct.int IntKind.i64, Ct.int IntKind.i64, Ct.int IntKind.i64, Ct.int IntKind.i64, Ct.int IntKind.u32]]]) S, SV.val (Ct.sl true [Ct.str, Ct.bool, Ct.sl true [Ct.int IntKind.i64, Ct.int IntKind.i64]]) M,
  SV.val (Ct.sl false [Ct.int IntKind.i64]) Q], Obj.box [SV.val (Ct.int IntKind.i64) c', SV.val (Ct.int IntKind.i64) sz', SV.val Ct.str bk', SV.val (Ct.sl false [Ct.sl true [Ct.int IntKind.i64, Ct.int IntKind.i64,
  Ct.int IntKind.i64, Ct.int IntKind.i64, Ct.int IntKind.u32]]) T', SV.val (Ct.sl true [Ct.str, Ct.int IntKind.i64, Ct.sl false [Ct.sl true [Ct.int IntKind.i64, Ct.int IntKind.i64, Ct.int IntKind.i64, Ct.int
  IntKind.i64, Ct.int IntKind.u32]]]) S', SV.val (Ct.sl true [Ct.str, Ct.bool, Ct.sl true [Ct.int IntKind.i64, Ct.int IntKind.i64]]) M', SV.val (Ct.sl false [Ct.int IntKind.i64]) Q']]) N then ((nat_lit 256
  = nat_lit 256 ∧ nat_lit 0 = nat_lit 0 ∧ nat_lit 384 = nat_lit 384 ∧ nat_lit 0 = nat_lit 0) ∧ ([Ct.int IntKind.i64, Ct.int IntKind.i64, Ct.int IntKind.i64, Ct.int IntKind.i64, Ct.int IntKind.u32] = [Ct.int
  IntKind.i64, Ct.int IntKind.i64, Ct.int IntKind.i64, Ct.int IntKind.i64, Ct.int IntKind.u32] ∧ [Ct.str, Ct.int IntKind.i64, Ct.sl false [Ct.sl true [Ct.int IntKind.i64, Ct.int IntKind.i64, Ct.int IntKind.i64,
  Ct.int IntKind.i64, Ct.int IntKind.u32]]] = [Ct.str, Ct.int IntKind.i64, Ct.sl false [Ct.sl true [Ct.int IntKind.i64, Ct.int IntKind.i64, Ct.int IntKind.i64, Ct.int IntKind.i64, Ct.int IntKind.u32]]] ∧
  [Ct.str, Ct.bool, Ct.sl true [Ct.int IntKind.i64, Ct.int IntKind.i64]] = [Ct.str, Ct.bool, Ct.sl true [Ct.int IntKind.i64, Ct.int IntKind.i64]]) ∧ ([Ct.int IntKind.i64, Ct.int IntKind.i64, Ct.int IntKind.i64,
  Ct.int IntKind.i64, Ct.int IntKind.u32] = [Ct.int IntKind.i64, Ct.int IntKind.i64, Ct.int IntKind.i64, Ct.int IntKind.i64, Ct.int IntKind.u32] ∧ [Ct.str, Ct.int IntKind.i64, Ct.sl false [Ct.sl true [Ct.int
  IntKind.i64, Ct.int IntKind.i64, Ct.int IntKind.i64, Ct.int IntKind.i64, Ct.int IntKind.u32]]] = [Ct.str, Ct.int IntKind.i64, Ct.sl false [Ct.sl true [Ct.int IntKind.i64, Ct.int IntKind.i64, Ct.int IntKind.i64,
  Ct.int IntKind.i64, Ct.int IntKind.u32]]] ∧ [Ct.str, Ct.bool, Ct.sl true [Ct.int IntKind.i64, Ct.int IntKind.i64]] = [Ct.str, Ct.bool, Ct.sl true [Ct.int IntKind.i64, Ct.int IntKind.i64]]) ∧ List.length
  (U.list S) = List.length (U.list S') ∧ (0 : Int) ≤ IntKind.wrap IntKind.i64 (U.int i + (1 : Int)) ∧ IntKind.wrap IntKind.i64 (U.int i + (1 : Int)) ≤ (↑(List.length (U.list S)) : Int)) ∧ bif shotsE (List.drop
  (Int.toNat (IntKind.wrap IntKind.i64 (U.int i + (1 : Int)))) (U.list S)) (List.drop (Int.toNat (IntKind.wrap IntKind.i64 (U.int i + (1 : Int)))) (U.list S')) then k (Ex.exit (nat_lit 0)) (St.mk [(nat_lit
  4, SV.unk)] []) else k Ex.ret (St.mk [(nat_lit 4, SV.val Ct.bool (U.b false))] []) else False else False else False)))))) else k (Ex.exit (nat_lit 0)) (St.mk [(nat_lit 4, SV.unk)] [])) := by kernel_rfl
theorem same_round (pan : KP) (μ : Mu) (N : Nat) (k : KE) (i c sz bk T S M Q c' sz' bk' T' S' M' Q' : U) : (exec (sameC.panics pan) (loopBody Try.f17 0) 0 ⟨[(5, vi i), (2, .ptr 256 0), (3, .ptr 384 0)], [(256, .box (mCells c sz bk T S M Q)), (384, .box (mCells c' sz' bk' T' S' M' Q'))]⟩ (again PR (some ([4], [])) none pan [5, 2, 3] [256, 384] sameLoop μ N k)) = (bif decide (U.int i < (↑(List.length (U.list S)) : Int)) then Alt (bif decide ((0 : Int) ≤ U.int i ∧ U.int i < (↑(List.length (U.list S)) : Int)) then Alt (bif decide ((0 : Int) ≤ U.int i ∧ U.int i < (↑(List.length (U.list S')) : Int)) then (bif !ByteArray.toList (U.str (nth (U.i (0 : Int)) (U.list (nth (U.i (0 : Int)) (U.list S) (Int.toNat (U.int i)))) (0 : Nat))) == ByteArray.toList (U.str (nth (U.i (0 : Int)) (U.list (nth (U.i (0 : Int)) (U.list S') (Int.toNat (U.int i)))) (0 : Nat))) then k Ex.ret (St.mk [(nat_lit 4, SV.val Ct.bool (U.b false))] []) else bif U.int (nth (U.i (0 : Int)) (List.tail (U.list (nth (U.i (0 : Int)) (U.list S) (Int.toNat (U.int i))))) (0 : Nat)) != U.int (nth (U.i (0 : Int)) (List.tail (U.list (nth (U.i (0 : Int)) (U.list S') (Int.toNat (U.int i))))) (0 : Nat)) then k Ex.ret (St.mk [(nat_lit 4, SV.val Ct.bool (U.b false))] []) else bif !tabE (U.list (nth (U.i (0 : Int)) (List.tail (List.tail (U.list (nth (U.i (0 : Int)) (U.list S) (Int.toNat (U.int i)))))) (0 : Nat))) (U.list (nth (U.i (0 : Int)) (List.tail (List.tail (U.list (nth (U.i (0 : Int)) (U.list S') (Int.toNat (U.int i)))))) (0 : Nat))) then k Ex.ret (St.mk [(nat_lit 4, SV.val Ct.bool (U.b false))] []) else bif Nat.blt (μ [SV.val (Ct.int IntKind.i64) (U.i (IntKind.wrap IntKind.i64 (U.int i + (1 : Int)))), SV.ptr (nat_lit 256) (nat_lit 0), SV.ptr (nat_lit 384) (nat_lit 0)] [Obj.box [SV.val (Ct.int IntKind.i64) c, SV.val (Ct.int IntKind.i64) sz, SV.val Ct.str bk, SV.val (Ct.sl false [Ct.sl true [Ct.int IntKind.i64, Ct.int IntKind.i64, Ct.int IntKind.i64, Ct.int IntKind.i64, Ct.int IntKind.u32]]) T, SV.val (Ct.sl true [Ct.str, Ct.int IntKind.i64, Ct.sl false [Ct.sl true [Ct.int IntKind.i64, Ct.int IntKind.i64, Ct.int IntKind.i64, Ct.int IntKind.i64, Ct.int IntKind.u32]]]) S, SV.val (Ct.sl true [Ct.str, Ct.bool, Ct.sl true [Ct.int IntKind.i64, Ct.int IntKind.i64]]) M, SV.val (Ct.sl false [Ct.int IntKind.i64]) Q], Obj.box [SV.val (Ct.int IntKind.i64) c', SV.val (Ct.int IntKind.i64) sz', SV.val Ct.str bk', SV.val (Ct.sl false [Ct.sl true [Ct.int IntKind.i64, Ct.int IntKind.i64, Ct.int IntKind.i64, Ct.int IntKind.i64, Ct.int IntKind.u32]]) T', SV.val (Ct.sl true [Ct.str, Ct.int IntKind.i64, Ct.sl false [Ct.sl true [Ct.int IntKind.i64, Ct.int IntKind.i64, Ct.int IntKind.i64, Ct.int IntKind.i64, Ct.int IntKind.u32]]]) S', SV.val (Ct.sl true [Ct.str, Ct.bool, Ct.sl true [Ct.int IntKind.i64, Ct.int IntKind.i64]]) M', SV.val (Ct.sl false [Ct.int IntKind.i64]) Q']]) N then ((nat_lit 256 = nat_lit 256 ∧ nat_lit 0 = nat_lit 0 ∧ nat_lit 384 = nat_lit 384 ∧ nat_lit 0 = nat_lit 0) ∧ ([Ct.int IntKind.i64, Ct.int IntKind.i64, Ct.int IntKind.i64, Ct.int IntKind.i64, Ct.int IntKind.u32] = [Ct.int IntKind.i64, Ct.int IntKind.i64, Ct.int IntKind.i64, Ct.int IntKind.i64, Ct.int IntKind.u32] ∧ [Ct.str, Ct.int IntKind.i64, Ct.sl false [Ct.sl true [Ct.int IntKind.i64, Ct.int IntKind.i64, Ct.int IntKind.i64, Ct.int IntKind.i64, Ct.int IntKind.u32]]] = [Ct.str, Ct.int IntKind.i64, Ct.sl false [Ct.sl true [Ct.int IntKind.i64, Ct.int IntKind.i64, Ct.int IntKind.i64, Ct.int IntKind.i64, Ct.int IntKind.u32]]] ∧ [Ct.str, Ct.bool, Ct.sl true [Ct.int IntKind.i64, Ct.int IntKind.i64]] = [Ct.str, Ct.bool, Ct.sl true [Ct.int IntKind.i64, Ct.int IntKind.i64]]) ∧ ([Ct.int IntKind.i64, Ct.int IntKind.i64, Ct.int IntKind.i64, Ct.int IntKind.i64, Ct.int IntKind.u32] = [Ct.int IntKind.i64, Ct.int IntKind.i64, Ct.int IntKind.i64, Ct.int IntKind.i64, Ct.int IntKind.u32] ∧ [Ct.str, Ct.int IntKind.i64, Ct.sl false [Ct.sl true [Ct.int IntKind.i64, Ct.int IntKind.i64, Ct.int IntKind.i64, Ct.int IntKind.i64, Ct.int IntKind.u32]]] = [Ct.str, Ct.int IntKind.i64, Ct.sl false [Ct.sl true [Ct.int IntKind.i64, Ct.int IntKind.i64, Ct.int IntKind.i64, Ct.int IntKind.i64, Ct.int IntKind.u32]]] ∧ [Ct.str, Ct.bool, Ct.sl true [Ct.int IntKind.i64, Ct.int IntKind.i64]] = [Ct.str, Ct.bool, Ct.sl true [Ct.int IntKind.i64, Ct.int IntKind.i64]]) ∧ List.length (U.list S) = List.length (U.list S') ∧ (0 : Int) ≤ IntKind.wrap IntKind.i64 (U.int i + (1 : Int)) ∧ IntKind.wrap IntKind.i64 (U.int i + (1 : Int)) ≤ (↑(List.length (U.list S)) : Int)) ∧ bif shotsE (List.drop (Int.toNat (IntKind.wrap IntKind.i64 (U.int i + (1 : Int)))) (U.list S)) (List.drop (Int.toNat (IntKind.wrap IntKind.i64 (U.int i + (1 : Int)))) (U.list S')) then k (Ex.exit (nat_lit 0)) (St.mk [(nat_lit 4, SV.unk)] []) else k Ex.ret (St.mk [(nat_lit 4, SV.val Ct.bool (U.b false))] []) else False) else False) ( (bif decide ((0 : Int) ≤ U.int i ∧ U.int i < (↑(List.length (U.list S')) : Int)) then bif !ByteArray.toList (U.str (nth (U.i (0 : Int)) (U.list (nth (U.i (0 : Int)) (U.list S) (Int.toNat (U.int i)))) (0 : Nat))) == ByteArray.toList (U.str (nth (U.i (0 : Int)) (U.list (nth (U.i (0 : Int)) (U.list S') (Int.toNat (U.int i)))) (0 : Nat))) then k Ex.ret (St.mk [(nat_lit 4, SV.val Ct.bool (U.b false))] []) else bif U.int (nth (U.i (0 : Int)) (List.tail (U.list (nth (U.i (0 : Int)) (U.list S) (Int.toNat (U.int i))))) (0 : Nat)) != U.int (nth (U.i (0 : Int)) (List.tail (U.list (nth (U.i (0 : Int)) (U.list S') (Int.toNat (U.int i))))) (0 : Nat)) then k Ex.ret (St.mk [(nat_lit 4, SV.val Ct.bool (U.b false))] []) else bif !tabE (U.list (nth (U.i (0 : Int)) (List.tail (List.tail (U.list (nth (U.i (0 : Int)) (U.list S) (Int.toNat (U.int i)))))) (0 : Nat))) (U.list (nth (U.i (0 : Int)) (List.tail (List.tail (U.list (nth (U.i (0 : Int)) (U.list S') (Int.toNat (U.int i)))))) (0 : Nat))) then k Ex.ret (St.mk [(nat_lit 4, SV.val Ct.bool (U.b false))] []) else bif Nat.blt (μ [SV.val (Ct.int IntKind.i64) (U.i (IntKind.wrap IntKind.i64 (U.int i + (1 : Int)))), SV.ptr (nat_lit 256) (nat_lit 0), SV.ptr (nat_lit 384) (nat_lit 0)] [Obj.box [SV.val (Ct.int IntKind.i64) c, SV.val (Ct.int IntKind.i64) sz, SV.val Ct.str bk, SV.val (Ct.sl false [Ct.sl true [Ct.int IntKind.i64, Ct.int IntKind.i64, Ct.int IntKind.i64, Ct.int IntKind.i64, Ct.int IntKind.u32]]) T, SV.val (Ct.sl true [Ct.str, Ct.int IntKind.i64, Ct.sl false [Ct.sl true [Ct.int IntKind.i64, Ct.int IntKind.i64, Ct.int IntKind.i64, Ct.int IntKind.i64, Ct.int IntKind.u32]]]) S, SV.val (Ct.sl true [Ct.str, Ct.bool, Ct.sl true [Ct.int IntKind.i64, Ct.int IntKind.i64]]) M, SV.val (Ct.sl false [Ct.int IntKind.i64]) Q], Obj.box [SV.val (Ct.int IntKind.i64) c', SV.val (Ct.int IntKind.i64) sz', SV.val Ct.str bk', SV.val (Ct.sl false [Ct.sl true [Ct.int IntKind.i64, Ct.int IntKind.i64, Ct.int IntKind.i64, Ct.int IntKind.i64, Ct.int IntKind.u32]]) T', SV.val (Ct.sl true [Ct.str, Ct.int IntKind.i64, Ct.sl false [Ct.sl true [Ct.int IntKind.i64, Ct.int IntKind.i64, Ct.int IntKind.i64, Ct.int IntKind.i64, Ct.int IntKind.u32]]]) S', SV.val (Ct.sl true [Ct.str, Ct.bool, Ct.sl true [Ct.int IntKind.i64, Ct.int IntKind.i64]]) M', SV.val (Ct.sl false [Ct.int IntKind.i64]) Q']]) N then ((nat_lit 256 = nat_lit 256 ∧ nat_lit 0 = nat_lit 0 ∧ nat_lit 384 = nat_lit 384 ∧ nat_lit 0 = nat_lit 0) ∧ ([Ct.int IntKind.i64, Ct.int IntKind.i64, Ct.int IntKind.i64, Ct.int IntKind.i64, Ct.int IntKind.u32] = [Ct.int IntKind.i64, Ct.int IntKind.i64, Ct.int IntKind.i64, Ct.int IntKind.i64, Ct.int IntKind.u32] ∧ [Ct.str, Ct.int IntKind.i64, Ct.sl false [Ct.sl true [Ct.int IntKind.i64, Ct.int IntKind.i64, Ct.int IntKind.i64, Ct.int IntKind.i64, Ct.int IntKind.u32]]] = [Ct.str, Ct.int IntKind.i64, Ct.sl false [Ct.sl true [Ct.int IntKind.i64, Ct.int IntKind.i64, Ct.int IntKind.i64, Ct.int IntKind.i64, Ct.int IntKind.u32]]] ∧ [Ct.str, Ct.bool, Ct.sl true [Ct.int IntKind.i64, Ct.int IntKind.i64]] = [Ct.str, Ct.bool, Ct.sl true [Ct.int IntKind.i64, Ct.int IntKind.i64]]) ∧ ([Ct.int IntKind.i64, Ct.int IntKind.i64, Ct.int IntKind.i64, Ct.int IntKind.i64, Ct.int IntKind.u32] = [Ct.int IntKind.i64, Ct.int IntKind.i64, Ct.int IntKind.i64, Ct.int IntKind.i64, Ct.int IntKind.u32] ∧ [Ct.str, Ct.int IntKind.i64, Ct.sl false [Ct.sl true [Ct.int IntKind.i64, Ct.int IntKind.i64, Ct.int IntKind.i64, Ct.int IntKind.i64, Ct.int IntKind.u32]]] = [Ct.str, Ct.int IntKind.i64, Ct.sl false [Ct.sl true [Ct.int IntKind.i64, Ct.int IntKind.i64, Ct.int IntKind.i64, Ct.int IntKind.i64, Ct.int IntKind.u32]]] ∧ [Ct.str, Ct.bool, Ct.sl true [Ct.int IntKind.i64, Ct.int IntKind.i64]] = [Ct.str, Ct.bool, Ct.sl true [Ct.int IntKind.i64, Ct.int IntKind.i64]]) ∧ List.length (U.list S) = List.length (U.list S') ∧ (0 : Int) ≤ IntKind.wrap IntKind.i64 (U.int i + (1 : Int)) ∧ IntKind.wrap IntKind.i64 (U.int i + (1 : Int)) ≤ (↑(List.length (U.list S)) : Int)) ∧ bif shotsE (List.drop (Int.toNat (IntKind.wrap IntKind.i64 (U.int i + (1 : Int)))) (U.list S)) (List.drop (Int.toNat (IntKind.wrap IntKind.i64 (U.int i + (1 : Int)))) (U.list S')) then k (Ex.exit (nat_lit 0)) (St.mk [(nat_lit 4, SV.unk)] []) else k Ex.ret (St.mk [(nat_lit 4, SV.val Ct.bool (U.b false))] []) else False else False)) else False) (Alt (bif decide ((0 : Int) ≤ U.int i ∧ U.int i < (↑(List.length (U.list S')) : Int)) then Alt (bif decide ((0 : Int) ≤ U.int i ∧ U.int i < (↑(List.length (U.list S)) : Int)) then (bif !ByteArray.toList (U.str (nth (U.i (0 : Int)) (U.list (nth (U.i (0 : Int)) (U.list S) (Int.toNat (U.int i)))) (0 : Nat))) == ByteArray.toList (U.str (nth (U.i (0 : Int)) (U.list (nth (U.i (0 : Int)) (U.list S') (Int.toNat (U.int i)))) (0 : Nat))) then k Ex.ret (St.mk [(nat_lit 4, SV.val Ct.bool (U.b false))] []) else bif U.int (nth (U.i (0 : Int)) (List.tail (U.list (nth (U.i (0 : Int)) (U.list S) (Int.toNat (U.int i))))) (0 : Nat)) != U.int (nth (U.i (0 : Int)) (List.tail (U.list (nth (U.i (0 : Int)) (U.list S') (Int.toNat (U.int i))))) (0 : Nat)) then k Ex.ret (St.mk [(nat_lit 4, SV.val Ct.bool (U.b false))] []) else bif !tabE (U.list (nth (U.i (0 : Int)) (List.tail (List.tail (U.list (nth (U.i (0 : Int)) (U.list S) (Int.toNat (U.int i)))))) (0 : Nat))) (U.list (nth (U.i (0 : Int)) (List.tail (List.tail (U.list (nth (U.i (0 : Int)) (U.list S') (Int.toNat (U.int i)))))) (0 : Nat))) then k Ex.ret (St.mk [(nat_lit 4, SV.val Ct.bool (U.b false))] []) else bif Nat.blt (μ [SV.val (Ct.int IntKind.i64) (U.i (IntKind.wrap IntKind.i64 (U.int i + (1 : Int)))), SV.ptr (nat_lit 256) (nat_lit 0), SV.ptr (nat_lit 384) (nat_lit 0)] [Obj.box [SV.val (Ct.int IntKind.i64) c, SV.val (Ct.int IntKind.i64) sz, SV.val Ct.str bk, SV.val (Ct.sl false [Ct.sl true [Ct.int IntKind.i64, Ct.int IntKind.i64, Ct.int IntKind.i64, Ct.int IntKind.i64, Ct.int IntKind.u32]]) T, SV.val (Ct.sl true [Ct.str, Ct.int IntKind.i64, Ct.sl false [Ct.sl true [Ct.int IntKind.i64, Ct.int IntKind.i64, Ct.int IntKind.i64, Ct.int IntKind.i64, Ct.int IntKind.u32]]]) S, SV.val (Ct.sl true [Ct.str, Ct.bool, Ct.sl true [Ct.int IntKind.i64, Ct.int IntKind.i64]]) M, SV.val (Ct.sl false [Ct.int IntKind.i64]) Q], Obj.box [SV.val (Ct.int IntKind.i64) c', SV.val (Ct.int IntKind.i64) sz', SV.val Ct.str bk', SV.val (Ct.sl false [Ct.sl true [Ct.int IntKind.i64, Ct.int IntKind.i64, Ct.int IntKind.i64, Ct.int IntKind.i64, Ct.int IntKind.u32]]) T', SV.val (Ct.sl true [Ct.str, Ct.int IntKind.i64, Ct.sl false [Ct.sl true [Ct.int IntKind.i64, Ct.int IntKind.i64, Ct.int IntKind.i64, Ct.int IntKind.i64, Ct.int IntKind.u32]]]) S', SV.val (Ct.sl true [Ct.str, Ct.bool, Ct.sl true [Ct.int IntKind.i64, Ct.int IntKind.i64]]) M', SV.val (Ct.sl false [Ct.int IntKind.i64]) Q']]) N then ((nat_lit 256 = nat_lit 256 ∧ nat_lit 0 = nat_lit 0 ∧ nat_lit 384 = nat_lit 384 ∧ nat_lit 0 = nat_lit 0) ∧ ([Ct.int IntKind.i64, Ct.int IntKind.i64, Ct.int IntKind.i64, Ct.int IntKind.i64, Ct.int IntKind.u32] = [Ct.int IntKind.i64, Ct.int IntKind.i64, Ct.int IntKind.i64, Ct.int IntKind.i64, Ct.int IntKind.u32] ∧ [Ct.str, Ct.int IntKind.i64, Ct.sl false [Ct.sl true [Ct.int IntKind.i64, Ct.int IntKind.i64, Ct.int IntKind.i64, Ct.int IntKind.i64, Ct.int IntKind.u32]]] = [Ct.str, Ct.int IntKind.i64, Ct.sl false [Ct.sl true [Ct.int IntKind.i64, Ct.int IntKind.i64, Ct.int IntKind.i64, Ct.int IntKind.i64, Ct.int IntKind.u32]]] ∧ [Ct.str, Ct.bool, Ct.sl true [Ct.int IntKind.i64, Ct.int IntKind.i64]] = [Ct.str, Ct.bool, Ct.sl true [Ct.int IntKind.i64, Ct.int IntKind.i64]]) ∧ ([Ct.int IntKind.i64, Ct.int IntKind.i64, Ct.int IntKind.i64, Ct.int IntKind.i64, Ct.int IntKind.u32] = [Ct.int IntKind.i64, Ct.int IntKind.i64, Ct.int IntKind.i64, Ct.int IntKind.i64, Ct.int IntKind.u32] ∧ [Ct.str, Ct.int IntKind.i64, Ct.sl false [Ct.sl true [Ct.int IntKind.i64, Ct.int IntKind.i64, Ct.int IntKind.i64, Ct.int IntKind.i64, Ct.int IntKind.u32]]] = [Ct.str, Ct.int IntKind.i64, Ct.sl false [Ct.sl true [Ct.int IntKind.i64, Ct.int IntKind.i64, Ct.int IntKind.i64, Ct.int IntKind.i64, Ct.int IntKind.u32]]] ∧ [Ct.str, Ct.bool, Ct.sl true [Ct.int IntKind.i64, Ct.int IntKind.i64]] = [Ct.str, Ct.bool, Ct.sl true [Ct.int IntKind.i64, Ct.int IntKind.i64]]) ∧ List.length (U.list S) = List.length (U.list S') ∧ (0 : Int) ≤ IntKind.wrap IntKind.i64 (U.int i + (1 : Int)) ∧ IntKind.wrap IntKind.i64 (U.int i + (1 : Int)) ≤ (↑(List.length (U.list S)) : Int)) ∧ bif shotsE (List.drop (Int.toNat (IntKind.wrap IntKind.i64 (U.int i + (1 : Int)))) (U.list S)) (List.drop (Int.toNat (IntKind.wrap IntKind.i64 (U.int i + (1 : Int)))) (U.list S')) then k (Ex.exit (nat_lit 0)) (St.mk [(nat_lit 4, SV.unk)] []) else k Ex.ret (St.mk [(nat_lit 4, SV.val Ct.bool (U.b false))] []) else False) else False) ( (bif decide ((0 : Int) ≤ U.int i ∧ U.int i < (↑(List.length (U.list S)) : Int)) then bif !ByteArray.toList (U.str (nth (U.i (0 : Int)) (U.list (nth (U.i (0 : Int)) (U.list S) (Int.toNat (U.int i)))) (0 : Nat))) == ByteArray.toList (U.str (nth (U.i (0 : Int)) (U.list (nth (U.i (0 : Int)) (U.list S') (Int.toNat (U.int i)))) (0 : Nat))) then k Ex.ret (St.mk [(nat_lit 4, SV.val Ct.bool (U.b false))] []) else bif U.int (nth (U.i (0 : Int)) (List.tail (U.list (nth (U.i (0 : Int)) (U.list S) (Int.toNat (U.int i))))) (0 : Nat)) != U.int (nth (U.i (0 : Int)) (List.tail (U.list (nth (U.i (0 : Int)) (U.list S') (Int.toNat (U.int i))))) (0 : Nat)) then k Ex.ret (St.mk [(nat_lit 4, SV.val Ct.bool (U.b false))] []) else bif !tabE (U.list (nth (U.i (0 : Int)) (List.tail (List.tail (U.list (nth (U.i (0 : Int)) (U.list S) (Int.toNat (U.int i)))))) (0 : Nat))) (U.list (nth (U.i (0 : Int)) (List.tail (List.tail (U.list (nth (U.i (0 : Int)) (U.list S') (Int.toNat (U.int i)))))) (0 : Nat))) then k Ex.ret (St.mk [(nat_lit 4, SV.val Ct.bool (U.b false))] []) else bif Nat.blt (μ [SV.val (Ct.int IntKind.i64) (U.i (IntKind.wrap IntKind.i64 (U.int i + (1 : Int)))), SV.ptr (nat_lit 256) (nat_lit 0), SV.ptr (nat_lit 384) (nat_lit 0)] [Obj.box [SV.val (Ct.int IntKind.i64) c, SV.val (Ct.int IntKind.i64) sz, SV.val Ct.str bk, SV.val (Ct.sl false [Ct.sl true [Ct.int IntKind.i64, Ct.int IntKind.i64, Ct.int IntKind.i64, Ct.int IntKind.i64, Ct.int IntKind.u32]]) T, SV.val (Ct.sl true [Ct.str, Ct.int IntKind.i64, Ct.sl false [Ct.sl true [Ct.int IntKind.i64, Ct.int IntKind.i64, Ct.int IntKind.i64, Ct.int IntKind.i64, Ct.int IntKind.u32]]]) S, SV.val (Ct.sl true [Ct.str, Ct.bool, Ct.sl true [Ct.int IntKind.i64, Ct.int IntKind.i64]]) M, SV.val (Ct.sl false [Ct.int IntKind.i64]) Q], Obj.box [SV.val (Ct.int IntKind.i64) c', SV.val (Ct.int IntKind.i64) sz', SV.val Ct.str bk', SV.val (Ct.sl false [Ct.sl true [Ct.int IntKind.i64, Ct.int IntKind.i64, Ct.int IntKind.i64, Ct.int IntKind.i64, Ct.int IntKind.u32]]) T', SV.val (Ct.sl true [Ct.str, Ct.int IntKind.i64, Ct.sl false [Ct.sl true [Ct.int IntKind.i64, Ct.int IntKind.i64, Ct.int IntKind.i64, Ct.int IntKind.i64, Ct.int IntKind.u32]]]) S', SV.val (Ct.sl true [Ct.str, Ct.bool, Ct.sl true [Ct.int IntKind.i64, Ct.int IntKind.i64]]) M', SV.val (Ct.sl false [Ct.int IntKind.i64]) Q']]) N then ((nat_lit 256 = nat_lit 256 ∧ nat_lit 0 = nat_lit 0 ∧ nat_lit 384 = nat_lit 384 ∧ nat_lit 0 = nat_lit 0) ∧ ([Ct.int IntKind.i64, Ct.int IntKind.i64, Ct.int IntKind.i64, Ct.int IntKind.i64, Ct.int IntKind.u32] = [Ct.int IntKind.i64, Ct.int IntKind.i64, Ct.int IntKind.i64, Ct.int IntKind.i64, Ct.int IntKind.u32] ∧ [Ct.str, Ct.int IntKind.i64, Ct.sl false [Ct.sl true [Ct.int IntKind.i64, Ct.int IntKind.i64, Ct.int IntKind.i64, Ct.int IntKind.i64, Ct.int IntKind.u32]]] = [Ct.str, Ct.int IntKind.i64, Ct.sl false [Ct.sl true [Ct.int IntKind.i64, Ct.int IntKind.i64, Ct.int IntKind.i64, Ct.int IntKind.i64, Ct.int IntKind.u32]]] ∧ [Ct.str, Ct.bool, Ct.sl true [Ct.int IntKind.i64, Ct.int IntKind.i64]] = [Ct.str, Ct.bool, Ct.sl true [Ct.int IntKind.i64, Ct.int IntKind.i64]]) ∧ ([Ct.int IntKind.i64, Ct.int IntKind.i64, Ct.int IntKind.i64, Ct.int IntKind.i64, Ct.int IntKind.u32] = [Ct.int IntKind.i64, Ct.int IntKind.i64, Ct.int IntKind.i64, Ct.int IntKind.i64, Ct.int IntKind.u32] ∧ [Ct.str, Ct.int IntKind.i64, Ct.sl false [Ct.sl true [Ct.int IntKind.i64, Ct.int IntKind.i64, Ct.int IntKind.i64, Ct.int IntKind.i64, Ct.int IntKind.u32]]] = [Ct.str, Ct.int IntKind.i64, Ct.sl false [Ct.sl true [Ct.int IntKind.i64, Ct.int IntKind.i64, Ct.int IntKind.i64, Ct.int IntKind.i64, Ct.int IntKind.u32]]] ∧ [Ct.str, Ct.bool, Ct.sl true [Ct.int IntKind.i64, Ct.int IntKind.i64]] = [Ct.str, Ct.bool, Ct.sl true [Ct.int IntKind.i64, Ct.int IntKind.i64]]) ∧ List.length (U.list S) = List.length (U.list S') ∧ (0 : Int) ≤ IntKind.wrap IntKind.i64 (U.int i + (1 : Int)) ∧ IntKind.wrap IntKind.i64 (U.int i + (1 : Int)) ≤ (↑(List.length (U.list S)) : Int)) ∧ bif shotsE (List.drop (Int.toNat (IntKind.wrap IntKind.i64 (U.int i + (1 : Int)))) (U.list S)) (List.drop (Int.toNat (IntKind.wrap IntKind.i64 (U.int i + (1 : Int)))) (U.list S')) then k (Ex.exit (nat_lit 0)) (St.mk [(nat_lit 4, SV.unk)] []) else k Ex.ret (St.mk [(nat_lit 4, SV.val Ct.bool (U.b false))] []) else False else False)) else False) (Alt (Alt (bif decide ((0 : Int) ≤ U.int i ∧ U.int i < (↑(List.length (U.list S)) : Int)) then (bif decide ((0 : Int) ≤ U.int i ∧ U.int i < (↑(List.length (U.list S')) : Int)) then bif !ByteArray.toList (U.str (nth (U.i (0 : Int)) (U.list (nth (U.i (0 : Int)) (U.list S) (Int.toNat (U.int i)))) (0 : Nat))) == ByteArray.toList (U.str (nth (U.i (0 : Int)) (U.list (nth (U.i (0 : Int)) (U.list S') (Int.toNat (U.int i)))) (0 : Nat))) then k Ex.ret (St.mk [(nat_lit 4, SV.val Ct.bool (U.b false))] []) else bif U.int (nth (U.i (0 : Int)) (List.tail (U.list (nth (U.i (0 : Int)) (U.list S) (Int.toNat (U.int i))))) (0 : Nat)) != U.int (nth (U.i (0 : Int)) (List.tail (U.list (nth (U.i (0 : Int)) (U.list S') (Int.toNat (U.int i))))) (0 : Nat)) then k Ex.ret (St.mk [(nat_lit 4, SV.val Ct.bool (U.b false))] []) else bif !tabE (U.list (nth (U.i (0 : Int)) (List.tail (List.tail (U.list (nth (U.i (0 : Int)) (U.list S) (Int.toNat (U.int i)))))) (0 : Nat))) (U.list (nth (U.i (0 : Int)) (List.tail (List.tail (U.list (nth (U.i (0 : Int)) (U.list S') (Int.toNat (U.int i)))))) (0 : Nat))) then k Ex.ret (St.mk [(nat_lit 4, SV.val Ct.bool (U.b false))] []) else bif Nat.blt (μ [SV.val (Ct.int IntKind.i64) (U.i (IntKind.wrap IntKind.i64 (U.int i + (1 : Int)))), SV.ptr (nat_lit 256) (nat_lit 0), SV.ptr (nat_lit 384) (nat_lit 0)] [Obj.box [SV.val (Ct.int IntKind.i64) c, SV.val (Ct.int IntKind.i64) sz, SV.val Ct.str bk, SV.val (Ct.sl false [Ct.sl true [Ct.int IntKind.i64, Ct.int IntKind.i64, Ct.int IntKind.i64, Ct.int IntKind.i64, Ct.int IntKind.u32]]) T, SV.val (Ct.sl true [Ct.str, Ct.int IntKind.i64, Ct.sl false [Ct.sl true [Ct.int IntKind.i64, Ct.int IntKind.i64, Ct.int IntKind.i64, Ct.int IntKind.i64, Ct.int IntKind.u32]]]) S, SV.val (Ct.sl true [Ct.str, Ct.bool, Ct.sl true [Ct.int IntKind.i64, Ct.int IntKind.i64]]) M, SV.val (Ct.sl false [Ct.int IntKind.i64]) Q], Obj.box [SV.val (Ct.int IntKind.i64) c', SV.val (Ct.int IntKind.i64) sz', SV.val Ct.str bk', SV.val (Ct.sl false [Ct.sl true [Ct.int IntKind.i64, Ct.int IntKind.i64, Ct.int IntKind.i64, Ct.int IntKind.i64, Ct.int IntKind.u32]]) T', SV.val (Ct.sl true [Ct.str, Ct.int IntKind.i64, Ct.sl false [Ct.sl true [Ct.int IntKind.i64, Ct.int IntKind.i64, Ct.int IntKind.i64, Ct.int IntKind.i64, Ct.int IntKind.u32]]]) S', SV.val (Ct.sl true [Ct.str, Ct.bool, Ct.sl true [Ct.int IntKind.i64, Ct.int IntKind.i64]]) M', SV.val (Ct.sl false [Ct.int IntKind.i64]) Q']]) N then ((nat_lit 256 = nat_lit 256 ∧ nat_lit 0 = nat_lit 0 ∧ nat_lit 384 = nat_lit 384 ∧ nat_lit 0 = nat_lit 0) ∧ ([Ct.int IntKind.i64, Ct.int IntKind.i64, Ct.int IntKind.i64, Ct.int IntKind.i64, Ct.int IntKind.u32] = [Ct.int IntKind.i64, Ct.int IntKind.i64, Ct.int IntKind.i64, Ct.int IntKind.i64, Ct.int IntKind.u32] ∧ [Ct.str, Ct.int IntKind.i64, Ct.sl false [Ct.sl true [Ct.int IntKind.i64, Ct.int IntKind.i64, Ct.int IntKind.i64, Ct.int IntKind.i64, Ct.int IntKind.u32]]] = [Ct.str, Ct.int IntKind.i64, Ct.sl false [Ct.sl true [Ct.int IntKind.i64, Ct.int IntKind.i64, Ct.int IntKind.i64, Ct.int IntKind.i64, Ct.int IntKind.u32]]] ∧ [Ct.str, Ct.bool, Ct.sl true [Ct.int IntKind.i64, Ct.int IntKind.i64]] = [Ct.str, Ct.bool, Ct.sl true [Ct.int IntKind.i64, Ct.int IntKind.i64]]) ∧ ([Ct.int IntKind.i64, Ct.int IntKind.i64, Ct.int IntKind.i64, Ct.int IntKind.i64, Ct.int IntKind.u32] = [Ct.int IntKind.i64, Ct.int IntKind.i64, Ct.int IntKind.i64, Ct.int IntKind.i64, Ct.int IntKind.u32] ∧ [Ct.str, Ct.int IntKind.i64, Ct.sl false [Ct.sl true [Ct.int IntKind.i64, Ct.int IntKind.i64, Ct.int IntKind.i64, Ct.int IntKind.i64, Ct.int IntKind.u32]]] = [Ct.str, Ct.int IntKind.i64, Ct.sl false [Ct.sl true [Ct.int IntKind.i64, Ct.int IntKind.i64, Ct.int IntKind.i64, Ct.int IntKind.i64, Ct.int IntKind.u32]]] ∧ [Ct.str, Ct.bool, Ct.sl true [Ct.int IntKind.i64, Ct.int IntKind.i64]] = [Ct.str, Ct.bool, Ct.sl true [Ct.int IntKind.i64, Ct.int IntKind.i64]]) ∧ List.length (U.list S) = List.length (U.list S') ∧ (0 : Int) ≤ IntKind.wrap IntKind.i64 (U.int i + (1 : Int)) ∧ IntKind.wrap IntKind.i64 (U.int i + (1 : Int)) ≤ (↑(List.length (U.list S)) : Int)) ∧ bif shotsE (List.drop (Int.toNat (IntKind.wrap IntKind.i64 (U.int i + (1 : Int)))) (U.list S)) (List.drop (Int.toNat (IntKind.wrap IntKind.i64 (U.int i + (1 : Int)))) (U.list S')) then k (Ex.exit (nat_lit 0)) (St.mk [(nat_lit 4, SV.unk)] []) else k Ex.ret (St.mk [(nat_lit 4, SV.val Ct.bool (U.b false))] []) else False else False) else False) (Alt (bif decide ((0 : Int) ≤ U.int i ∧ U.int i < (↑(List.length (U.list S')) : Int)) then (bif decide ((0 : Int) ≤ U.int i ∧ U.int i < (↑(List.length (U.list S)) : Int)) then bif !ByteArray.toList (U.str (nth (U.i (0 : Int)) (U.list (nth (U.i (0 : Int)) (U.list S) (Int.toNat (U.int i)))) (0 : Nat))) == ByteArray.toList (U.str (nth (U.i (0 : Int)) (U.list (nth (U.i (0 : Int)) (U.list S') (Int.toNat (U.int i)))) (0 : Nat))) then k Ex.ret (St.mk [(nat_lit 4, SV.val Ct.bool (U.b false))] []) else bif U.int (nth (U.i (0 : Int)) (List.tail (U.list (nth (U.i (0 : Int)) (U.list S) (Int.toNat (U.int i))))) (0 : Nat)) != U.int (nth (U.i (0 : Int)) (List.tail (U.list (nth (U.i (0 : Int)) (U.list S') (Int.toNat (U.int i))))) (0 : Nat)) then k Ex.ret (St.mk [(nat_lit 4, SV.val Ct.bool (U.b false))] []) else bif !tabE (U.list (nth (U.i (0 : Int)) (List.tail (List.tail (U.list (nth (U.i (0 : Int)) (U.list S) (Int.toNat (U.int i)))))) (0 : Nat))) (U.list (nth (U.i (0 : Int)) (List.tail (List.tail (U.list (nth (U.i (0 : Int)) (U.list S') (Int.toNat (U.int i)))))) (0 : Nat))) then k Ex.ret (St.mk [(nat_lit 4, SV.val Ct.bool (U.b false))] []) else bif Nat.blt (μ [SV.val (Ct.int IntKind.i64) (U.i (IntKind.wrap IntKind.i64 (U.int i + (1 : Int)))), SV.ptr (nat_lit 256) (nat_lit 0), SV.ptr (nat_lit 384) (nat_lit 0)] [Obj.box [SV.val (Ct.int IntKind.i64) c, SV.val (Ct.int IntKind.i64) sz, SV.val Ct.str bk, SV.val (Ct.sl false [Ct.sl true [Ct.int IntKind.i64, Ct.int IntKind.i64, Ct.int IntKind.i64, Ct.int IntKind.i64, Ct.int IntKind.u32]]) T, SV.val (Ct.sl true [Ct.str, Ct.int IntKind.i64, Ct.sl false [Ct.sl true [Ct.int IntKind.i64, Ct.int IntKind.i64, Ct.int IntKind.i64, Ct.int IntKind.i64, Ct.int IntKind.u32]]]) S, SV.val (Ct.sl true [Ct.str, Ct.bool, Ct.sl true [Ct.int IntKind.i64, Ct.int IntKind.i64]]) M, SV.val (Ct.sl false [Ct.int IntKind.i64]) Q], Obj.box [SV.val (Ct.int IntKind.i64) c', SV.val (Ct.int IntKind.i64) sz', SV.val Ct.str bk', SV.val (Ct.sl false [Ct.sl true [Ct.int IntKind.i64, Ct.int IntKind.i64, Ct.int IntKind.i64, Ct.int IntKind.i64, Ct.int IntKind.u32]]) T', SV.val (Ct.sl true [Ct.str, Ct.int IntKind.i64, Ct.sl false [Ct.sl true [Ct.int IntKind.i64, Ct.int IntKind.i64, Ct.int IntKind.i64, Ct.int IntKind.i64, Ct.int IntKind.u32]]]) S', SV.val (Ct.sl true [Ct.str, Ct.bool, Ct.sl true [Ct.int IntKind.i64, Ct.int IntKind.i64]]) M', SV.val (Ct.sl false [Ct.int IntKind.i64]) Q']]) N then ((nat_lit 256 = nat_lit 256 ∧ nat_lit 0 = nat_lit 0 ∧ nat_lit 384 = nat_lit 384 ∧ nat_lit 0 = nat_lit 0) ∧ ([Ct.int IntKind.i64, Ct.int IntKind.i64, Ct.int IntKind.i64, Ct.int IntKind.i64, Ct.int IntKind.u32] = [Ct.int IntKind.i64, Ct.int IntKind.i64, Ct.int IntKind.i64, Ct.int IntKind.i64, Ct.int IntKind.u32] ∧ [Ct.str, Ct.int IntKind.i64, Ct.sl false [Ct.sl true [Ct.int IntKind.i64, Ct.int IntKind.i64, Ct.int IntKind.i64, Ct.int IntKind.i64, Ct.int IntKind.u32]]] = [Ct.str, Ct.int IntKind.i64, Ct.sl false [Ct.sl true [Ct.int IntKind.i64, Ct.int IntKind.i64, Ct.int IntKind.i64, Ct.int IntKind.i64, Ct.int IntKind.u32]]] ∧ [Ct.str, Ct.bool, Ct.sl true [Ct.int IntKind.i64, Ct.int IntKind.i64]] = [Ct.str, Ct.bool, Ct.sl true [Ct.int IntKind.i64, Ct.int IntKind.i64]]) ∧ ([Ct.int IntKind.i64, Ct.int IntKind.i64, Ct.int IntKind.i64, Ct.int IntKind.i64, Ct.int IntKind.u32] = [Ct.int IntKind.i64, Ct.int IntKind.i64, Ct.int IntKind.i64, Ct.int IntKind.i64, Ct.int IntKind.u32] ∧ [Ct.str, Ct.int IntKind.i64, Ct.sl false [Ct.sl true [Ct.int IntKind.i64, Ct.int IntKind.i64, Ct.int IntKind.i64, Ct.int IntKind.i64, Ct.int IntKind.u32]]] = [Ct.str, Ct.int IntKind.i64, Ct.sl false [Ct.sl true [Ct.int IntKind.i64, Ct.int IntKind.i64, Ct.int IntKind.i64, Ct.int IntKind.i64, Ct.int IntKind.u32]]] ∧ [Ct.str, Ct.bool, Ct.sl true [Ct.int IntKind.i64, Ct.int IntKind.i64]] = [Ct.str, Ct.bool, Ct.sl true [Ct.int IntKind.i64, Ct.int IntKind.i64]]) ∧ List.length (U.list S) = List.length (U.list S') ∧ (0 : Int) ≤ IntKind.wrap IntKind.i64 (U.int i + (1 : Int)) ∧ IntKind.wrap IntKind.i64 (U.int i + (1 : Int)) ≤ (↑(List.length (U.list S)) : Int)) ∧ bif shotsE (List.drop (Int.toNat (IntKind.wrap IntKind.i64 (U.int i + (1 : Int)))) (U.list S)) (List.drop (Int.toNat (IntKind.wrap IntKind.i64 (U.int i + (1 : Int)))) (U.list S')) then k (Ex.exit (nat_lit 0)) (St.mk [(nat_lit 4, SV.unk)] []) else k Ex.ret (St.mk [(nat_lit 4, SV.val Ct.bool (U.b false))] []) else False else False) else False) (Alt (bif decide ((0 : Int) ≤ U.int i ∧ U.int i < (↑(List.length (U.list S)) : Int)) then (bif decide ((0 : Int) ≤ U.int i ∧ U.int i < (↑(List.length (U.list S')) : Int)) then bif !ByteArray.toList (U.str (nth (U.i (0 : Int)) (U.list (nth (U.i (0 : Int)) (U.list S) (Int.toNat (U.int i)))) (0 : Nat))) == ByteArray.toList (U.str (nth (U.i (0 : Int)) (U.list (nth (U.i (0 : Int)) (U.list S') (Int.toNat (U.int i)))) (0 : Nat))) then k Ex.ret (St.mk [(nat_lit 4, SV.val Ct.bool (U.b false))] []) else bif U.int (nth (U.i (0 : Int)) (List.tail (U.list (nth (U.i (0 : Int)) (U.list S) (Int.toNat (U.int i))))) (0 : Nat)) != U.int (nth (U.i (0 : Int)) (List.tail (U.list (nth (U.i (0 : Int)) (U.list S') (Int.toNat (U.int i))))) (0 : Nat)) then k Ex.ret (St.mk [(nat_lit 4, SV.val Ct.bool (U.b false))] []) else bif !tabE (U.list (nth (U.i (0 : Int)) (List.tail (List.tail (U.list (nth (U.i (0 : Int)) (U.list S) (Int.toNat (U.int i)))))) (0 : Nat))) (U.list (nth (U.i (0 : Int)) (List.tail (List.tail (U.list (nth (U.i (0 : Int)) (U.list S') (Int.toNat (U.int i)))))) (0 : Nat))) then k Ex.ret (St.mk [(nat_lit 4, SV.val Ct.bool (U.b false))] []) else bif Nat.blt (μ [SV.val (Ct.int IntKind.i64) (U.i (IntKind.wrap IntKind.i64 (U.int i + (1 : Int)))), SV.ptr (nat_lit 256) (nat_lit 0), SV.ptr (nat_lit 384) (nat_lit 0)] [Obj.box [SV.val (Ct.int IntKind.i64) c, SV.val (Ct.int IntKind.i64) sz, SV.val Ct.str bk, SV.val (Ct.sl false [Ct.sl true [Ct.int IntKind.i64, Ct.int IntKind.i64, Ct.int IntKind.i64, Ct.int IntKind.i64, Ct.int IntKind.u32]]) T, SV.val (Ct.sl true [Ct.str, Ct.int IntKind.i64, Ct.sl false [Ct.sl true [Ct.int IntKind.i64, Ct.int IntKind.i64, Ct.int IntKind.i64, Ct.int IntKind.i64, Ct.int IntKind.u32]]]) S, SV.val (Ct.sl true [Ct.str, Ct.bool, Ct.sl true [Ct.int IntKind.i64, Ct.int IntKind.i64]]) M, SV.val (Ct.sl false [Ct.int IntKind.i64]) Q], Obj.box [SV.val (Ct.int IntKind.i64) c', SV.val (Ct.int IntKind.i64) sz', SV.val Ct.str bk', SV.val (Ct.sl false [Ct.sl true [Ct.int IntKind.i64, Ct.int IntKind.i64, Ct.int IntKind.i64, Ct.int IntKind.i64, Ct.int IntKind.u32]]) T', SV.val (Ct.sl true [Ct.str, Ct.int IntKind.i64, Ct.sl false [Ct.sl true [Ct.int IntKind.i64, Ct.int IntKind.i64, Ct.int IntKind.i64, Ct.int IntKind.i64, Ct.int IntKind.u32]]]) S', SV.val (Ct.sl true [Ct.str, Ct.bool, Ct.sl true [Ct.int IntKind.i64, Ct.int IntKind.i64]]) M', SV.val (Ct.sl false [Ct.int IntKind.i64]) Q']]) N then ((nat_lit 256 = nat_lit 256 ∧ nat_lit 0 = nat_lit 0 ∧ nat_lit 384 = nat_lit 384 ∧ nat_lit 0 = nat_lit 0) ∧ ([Ct.int IntKind.i64, Ct.int IntKind.i64, Ct.int IntKind.i64, Ct.int IntKind.i64, Ct.int IntKind.u32] = [Ct.int IntKind.i64, Ct.int IntKind.i64, Ct.int IntKind.i64, Ct.int IntKind.i64, Ct.int IntKind.u32] ∧ [Ct.str, Ct.int IntKind.i64, Ct.sl false [Ct.sl true [Ct.int IntKind.i64, Ct.int IntKind.i64, Ct.int IntKind.i64, Ct.int IntKind.i64, Ct.int IntKind.u32]]] = [Ct.str, Ct.int IntKind.i64, Ct.sl false [Ct.sl true [Ct.int IntKind.i64, Ct.int IntKind.i64, Ct.int IntKind.i64, Ct.int IntKind.i64, Ct.int IntKind.u32]]] ∧ [Ct.str, Ct.bool, Ct.sl true [Ct.int IntKind.i64, Ct.int IntKind.i64]] = [Ct.str, Ct.bool, Ct.sl true [Ct.int IntKind.i64, Ct.int IntKind.i64]]) ∧ ([Ct.int IntKind.i64, Ct.int IntKind.i64, Ct.int IntKind.i64, Ct.int IntKind.i64, Ct.int IntKind.u32] = [Ct.int IntKind.i64, Ct.int IntKind.i64, Ct.int IntKind.i64, Ct.int IntKind.i64, Ct.int IntKind.u32] ∧ [Ct.str, Ct.int IntKind.i64, Ct.sl false [Ct.sl true [Ct.int IntKind.i64, Ct.int IntKind.i64, Ct.int IntKind.i64, Ct.int IntKind.i64, Ct.int IntKind.u32]]] = [Ct.str, Ct.int IntKind.i64, Ct.sl false [Ct.sl true [Ct.int IntKind.i64, Ct.int IntKind.i64, Ct.int IntKind.i64, Ct.int IntKind.i64, Ct.int IntKind.u32]]] ∧ [Ct.str, Ct.bool, Ct.sl true [Ct.int IntKind.i64, Ct.int IntKind.i64]] = [Ct.str, Ct.bool, Ct.sl true [Ct.int IntKind.i64, Ct.int IntKind.i64]]) ∧ List.length (U.list S) = List.length (U.list S') ∧ (0 : Int) ≤ IntKind.wrap IntKind.i64 (U.int i + (1 : Int)) ∧ IntKind.wrap IntKind.i64 (U.int i + (1 : Int)) ≤ (↑(List.length (U.list S)) : Int)) ∧ bif shotsE (List.drop (Int.toNat (IntKind.wrap IntKind.i64 (U.int i + (1 : Int)))) (U.list S)) (List.drop (Int.toNat (IntKind.wrap IntKind.i64 (U.int i + (1 : Int)))) (U.list S')) then k (Ex.exit (nat_lit 0)) (St.mk [(nat_lit 4, SV.unk)] []) else k Ex.ret (St.mk [(nat_lit 4, SV.val Ct.bool (U.b false))] []) else False else False) else False) (bif decide ((0 : Int) ≤ U.int i ∧ U.int i < (↑(List.length (U.list S')) : Int)) then bif decide ((0 : Int) ≤ U.int i ∧ U.int i < (↑(List.length (U.list S)) : Int)) then bif !ByteArray.toList (U.str (nth (U.i (0 : Int)) (U.list (nth (U.i (0 : Int)) (U.list S) (Int.toNat (U.int i)))) (0 : Nat))) == ByteArray.toList (U.str (nth (U.i (0 : Int)) (U.list (nth (U.i (0 : Int)) (U.list S') (Int.toNat (U.int i)))) (0 : Nat))) then k Ex.ret (St.mk [(nat_lit 4, SV.val Ct.bool (U.b false))] []) else bif U.int (nth (U.i (0 : Int)) (List.tail (U.list (nth (U.i (0 : Int)) (U.list S) (Int.toNat (U.int i))))) (0 : Nat)) != U.int (nth (U.i (0 : Int)) (List.tail (U.list (nth (U.i (0 : Int)) (U.list S') (Int.toNat (U.int i))))) (0 : Nat)) then k Ex.ret (St.mk [(nat_lit 4, SV.val Ct.bool (U.b false))] []) else bif !tabE (U.list (nth (U.i (0 : Int)) (List.tail (List.tail (U.list (nth (U.i (0 : Int)) (U.list S) (Int.toNat (U.int i)))))) (0 : Nat))) (U.list (nth (U.i (0 : Int)) (List.tail (List.tail (U.list (nth (U.i (0 : Int)) (U.list S') (Int.toNat (U.int i)))))) (0 : Nat))) then k Ex.ret (St.mk [(nat_lit 4, SV.val Ct.bool (U.b false))] []) else bif Nat.blt (μ [SV.val (Ct.int IntKind.i64) (U.i (IntKind.wrap IntKind.i64 (U.int i + (1 : Int)))), SV.ptr (nat_lit 256) (nat_lit 0), SV.ptr (nat_lit 384) (nat_lit 0)] [Obj.box [SV.val (Ct.int IntKind.i64) c, SV.val (Ct.int IntKind.i64) sz, SV.val Ct.str bk, SV.val (Ct.sl false [Ct.sl true [Ct.int IntKind.i64, Ct.int IntKind.i64, Ct.int IntKind.i64, Ct.int IntKind.i64, Ct.int IntKind.u32]]) T, SV.val (Ct.sl true [Ct.str, Ct.int IntKind.i64, Ct.sl false [Ct.sl true [Ct.int IntKind.i64, Ct.int IntKind.i64, Ct.int IntKind.i64, Ct.int IntKind.i64, Ct.int IntKind.u32]]]) S, SV.val (Ct.sl true [Ct.str, Ct.bool, Ct.sl true [Ct.int IntKind.i64, Ct.int IntKind.i64]]) M, SV.val (Ct.sl false [Ct.int IntKind.i64]) Q], Obj.box [SV.val (Ct.int IntKind.i64) c', SV.val (Ct.int IntKind.i64) sz', SV.val Ct.str bk', SV.val (Ct.sl false [Ct.sl true [Ct.int IntKind.i64, Ct.int IntKind.i64, Ct.int IntKind.i64, Ct.int IntKind.i64, Ct.int IntKind.u32]]) T', SV.val (Ct.sl true [Ct.str, Ct.int IntKind.i64, Ct.sl false [Ct.sl true [Ct.int IntKind.i64, Ct.int IntKind.i64, Ct.int IntKind.i64, Ct.int IntKind.i64, Ct.int IntKind.u32]]]) S', SV.val (Ct.sl true [Ct.str, Ct.bool, Ct.sl true [Ct.int IntKind.i64, Ct.int IntKind.i64]]) M', SV.val (Ct.sl false [Ct.int IntKind.i64]) Q']]) N then ((nat_lit 256 = nat_lit 256 ∧ nat_lit 0 = nat_lit 0 ∧ nat_lit 384 = nat_lit 384 ∧ nat_lit 0 = nat_lit 0) ∧ ([Ct.int IntKind.i64, Ct.int IntKind.i64, Ct.int IntKind.i64, Ct.int IntKind.i64, Ct.int IntKind.u32] = [Ct.int IntKind.i64, Ct.int IntKind.i64, Ct.int IntKind.i64, Ct.int IntKind.i64, Ct.int IntKind.u32] ∧ [Ct.str, Ct.int IntKind.i64, Ct.sl false [Ct.sl true [Ct.int IntKind.i64, Ct.int IntKind.i64, Ct.int IntKind.i64, Ct.int IntKind.i64, Ct.int IntKind.u32]]] = [Ct.str, Ct.int IntKind.i64, Ct.sl false [Ct.sl true [Ct.int IntKind.i64, Ct.int IntKind.i64, Ct.int IntKind.i64, Ct.int IntKind.i64, Ct.int IntKind.u32]]] ∧ [Ct.str, Ct.bool, Ct.sl true [Ct.int IntKind.i64, Ct.int IntKind.i64]] = [Ct.str, Ct.bool, Ct.sl true [Ct.int IntKind.i64, Ct.int IntKind.i64]]) ∧ ([Ct.int IntKind.i64, Ct.int IntKind.i64, Ct.int IntKind.i64, Ct.int IntKind.i64, Ct.int IntKind.u32] = [Ct.int IntKind.i64, Ct.int IntKind.i64, Ct.int IntKind.i64, Ct.int IntKind.i64, Ct.int IntKind.u32] ∧ [Ct.str, Ct.int IntKind.i64, Ct.sl false [Ct.sl true [Ct.int IntKind.i64, Ct.int IntKind.i64, Ct.int IntKind.i64, Ct.int IntKind.i64, Ct.int IntKind.u32]]] = [Ct.str, Ct.int IntKind.i64, Ct.sl false [Ct.sl true [Ct.int IntKind.i64, Ct.int IntKind.i64, Ct.int IntKind.i64, Ct.int IntKind.i64, Ct.int IntKind.u32]]] ∧ [Ct.str, Ct.bool, Ct.sl true [Ct.int IntKind.i64, Ct.int IntKind.i64]] = [Ct.str, Ct.bool, Ct.sl true [Ct.int IntKind.i64, Ct.int IntKind.i64]]) ∧ List.length (U.list S) = List.length (U.list S') ∧ (0 : Int) ≤ IntKind.wrap IntKind.i64 (U.int i + (1 : Int)) ∧ IntKind.wrap IntKind.i64 (U.int i + (1 : Int)) ≤ (↑(List.length (U.list S)) : Int)) ∧ bif shotsE (List.drop (Int.toNat (IntKind.wrap IntKind.i64 (U.int i + (1 : Int)))) (U.list S)) (List.drop (Int.toNat (IntKind.wrap IntKind.i64 (U.int i + (1 : Int)))) (U.list S')) then k (Ex.exit (nat_lit 0)) (St.mk [(nat_lit 4, SV.unk)] []) else k Ex.ret (St.mk [(nat_lit 4, SV.val Ct.bool (U.b false))] []) else False else False else False)))) (Alt (bif decide ((0 : Int) ≤ U.int i ∧ U.int i < (↑(List.length (U.list S)) : Int)) then (bif decide ((0 : Int) ≤ U.int i ∧ U.int i < (↑(List.length (U.list S')) : Int)) then bif !ByteArray.toList (U.str (nth (U.i (0 : Int)) (U.list (nth (U.i (0 : Int)) (U.list S) (Int.toNat (U.int i)))) (0 : Nat))) == ByteArray.toList (U.str (nth (U.i (0 : Int)) (U.list (nth (U.i (0 : Int)) (U.list S') (Int.toNat (U.int i)))) (0 : Nat))) then k Ex.ret (St.mk [(nat_lit 4, SV.val Ct.bool (U.b false))] []) else bif U.int (nth (U.i (0 : Int)) (List.tail (U.list (nth (U.i (0 : Int)) (U.list S) (Int.toNat (U.int i))))) (0 : Nat)) != U.int (nth (U.i (0 : Int)) (List.tail (U.list (nth (U.i (0 : Int)) (U.list S') (Int.toNat (U.int i))))) (0 : Nat)) then k Ex.ret (St.mk [(nat_lit 4, SV.val Ct.bool (U.b false))] []) else bif !tabE (U.list (nth (U.i (0 : Int)) (List.tail (List.tail (U.list (nth (U.i (0 : Int)) (U.list S) (Int.toNat (U.int i)))))) (0 : Nat))) (U.list (nth (U.i (0 : Int)) (List.tail (List.tail (U.list (nth (U.i (0 : Int)) (U.list S') (Int.toNat (U.int i)))))) (0 : Nat))) then k Ex.ret (St.mk [(nat_lit 4, SV.val Ct.bool (U.b false))] []) else bif Nat.blt (μ [SV.val (Ct.int IntKind.i64) (U.i (IntKind.wrap IntKind.i64 (U.int i + (1 : Int)))), SV.ptr (nat_lit 256) (nat_lit 0), SV.ptr (nat_lit 384) (nat_lit 0)] [Obj.box [SV.val (Ct.int IntKind.i64) c, SV.val (Ct.int IntKind.i64) sz, SV.val Ct.str bk, SV.val (Ct.sl false [Ct.sl true [Ct.int IntKind.i64, Ct.int IntKind.i64, Ct.int IntKind.i64, Ct.int IntKind.i64, Ct.int IntKind.u32]]) T, SV.val (Ct.sl true [Ct.str, Ct.int IntKind.i64, Ct.sl false [Ct.sl true [Ct.int IntKind.i64, Ct.int IntKind.i64, Ct.int IntKind.i64, Ct.int IntKind.i64, Ct.int IntKind.u32]]]) S, SV.val (Ct.sl true [Ct.str, Ct.bool, Ct.sl true [Ct.int IntKind.i64, Ct.int IntKind.i64]]) M, SV.val (Ct.sl false [Ct.int IntKind.i64]) Q], Obj.box [SV.val (Ct.int IntKind.i64) c', SV.val (Ct.int IntKind.i64) sz', SV.val Ct.str bk', SV.val (Ct.sl false [Ct.sl true [Ct.int IntKind.i64, Ct.int IntKind.i64, Ct.int IntKind.i64, Ct.int IntKind.i64, Ct.int IntKind.u32]]) T', SV.val (Ct.sl true [Ct.str, Ct.int IntKind.i64, Ct.sl false [Ct.sl true [Ct.int IntKind.i64, Ct.int IntKind.i64, Ct.int IntKind.i64, Ct.int IntKind.i64, Ct.int IntKind.u32]]]) S', SV.val (Ct.sl true [Ct.str, Ct.bool, Ct.sl true [Ct.int IntKind.i64, Ct.int IntKind.i64]]) M', SV.val (Ct.sl false [Ct.int IntKind.i64]) Q']]) N then ((nat_lit 256 = nat_lit 256 ∧ nat_lit 0 = nat_lit 0 ∧ nat_lit 384 = nat_lit 384 ∧ nat_lit 0 = nat_lit 0) ∧ ([Ct.int IntKind.i64, Ct.int IntKind.i64, Ct.int IntKind.i64, Ct.int IntKind.i64, Ct.int IntKind.u32] = [Ct.int IntKind.i64, Ct.int IntKind.i64, Ct.int IntKind.i64, Ct.int IntKind.i64, Ct.int IntKind.u32] ∧ [Ct.str, Ct.int IntKind.i64, Ct.sl false [Ct.sl true [Ct.int IntKind.i64, Ct.int IntKind.i64, Ct.int IntKind.i64, Ct.int IntKind.i64, Ct.int IntKind.u32]]] = [Ct.str, Ct.int IntKind.i64, Ct.sl false [Ct.sl true [Ct.int IntKind.i64, Ct.int IntKind.i64, Ct.int IntKind.i64, Ct.int IntKind.i64, Ct.int IntKind.u32]]] ∧ [Ct.str, Ct.bool, Ct.sl true [Ct.int IntKind.i64, Ct.int IntKind.i64]] = [Ct.str, Ct.bool, Ct.sl true [Ct.int IntKind.i64, Ct.int IntKind.i64]]) ∧ ([Ct.int IntKind.i64, Ct.int IntKind.i64, Ct.int IntKind.i64, Ct.int IntKind.i64, Ct.int IntKind.u32] = [Ct.int IntKind.i64, Ct.int IntKind.i64, Ct.int IntKind.i64, Ct.int IntKind.i64, Ct.int IntKind.u32] ∧ [Ct.str, Ct.int IntKind.i64, Ct.sl false [Ct.sl true [Ct.int IntKind.i64, Ct.int IntKind.i64, Ct.int IntKind.i64, Ct.int IntKind.i64, Ct.int IntKind.u32]]] = [Ct.str, Ct.int IntKind.i64, Ct.sl false [Ct.sl true [Ct.int IntKind.i64, Ct.int IntKind.i64, Ct.int IntKind.i64, Ct.int IntKind.i64, Ct.int IntKind.u32]]] ∧ [Ct.str, Ct.bool, Ct.sl true [Ct.int IntKind.i64, Ct.int IntKind.i64]] = [Ct.str, Ct.bool, Ct.sl true [Ct.int IntKind.i64, Ct.int IntKind.i64]]) ∧ List.length (U.list S) = List.length (U.list S') ∧ (0 : Int) ≤ IntKind.wrap IntKind.i64 (U.int i + (1 : Int)) ∧ IntKind.wrap IntKind.i64 (U.int i + (1 : Int)) ≤ (↑(List.length (U.list S)) : Int)) ∧ bif shotsE (List.drop (Int.toNat (IntKind.wrap IntKind.i64 (U.int i + (1 : Int)))) (U.list S)) (List.drop (Int.toNat (IntKind.wrap IntKind.i64 (U.int i + (1 : Int)))) (U.list S')) then k (Ex.exit (nat_lit 0)) (St.mk [(nat_lit 4, SV.unk)] []) else k Ex.ret (St.mk [(nat_lit 4, SV.val Ct.bool (U.b false))] []) else False else False) else False) (Alt (bif decide ((0 : Int) ≤ U.int i ∧ U.int i < (↑(List.length (U.list S')) : Int)) then (bif decide ((0 : Int) ≤ U.int i ∧ U.int i < (↑(List.length (U.list S)) : Int)) then bif !ByteArray.toList (U.str (nth (U.i (0 : Int)) (U.list (nth (U.i (0 : Int)) (U.list S) (Int.toNat (U.int i)))) (0 : Nat))) == ByteArray.toList (U.str (nth (U.i (0 : Int)) (U.list (nth (U.i (0 : Int)) (U.list S') (Int.toNat (U.int i)))) (0 : Nat))) then k Ex.ret (St.mk [(nat_lit 4, SV.val Ct.bool (U.b false))] []) else bif U.int (nth (U.i (0 : Int)) (List.tail (U.list (nth (U.i (0 : Int)) (U.list S) (Int.toNat (U.int i))))) (0 : Nat)) != U.int (nth (U.i (0 : Int)) (List.tail (U.list (nth (U.i (0 : Int)) (U.list S') (Int.toNat (U.int i))))) (0 : Nat)) then k Ex.ret (St.mk [(nat_lit 4, SV.val Ct.bool (U.b false))] []) else bif !tabE (U.list (nth (U.i (0 : Int)) (List.tail (List.tail (U.list (nth (U.i (0 : Int)) (U.list S) (Int.toNat (U.int i)))))) (0 : Nat))) (U.list (nth (U.i (0 : Int)) (List.tail (List.tail (U.list (nth (U.i (0 : Int)) (U.list S') (Int.toNat (U.int i)))))) (0 : Nat))) then k Ex.ret (St.mk [(nat_lit 4, SV.val Ct.bool (U.b false))] []) else bif Nat.blt (μ [SV.val (Ct.int IntKind.i64) (U.i (IntKind.wrap IntKind.i64 (U.int i + (1 : Int)))), SV.ptr (nat_lit 256) (nat_lit 0), SV.ptr (nat_lit 384) (nat_lit 0)] [Obj.box [SV.val (Ct.int IntKind.i64) c, SV.val (Ct.int IntKind.i64) sz, SV.val Ct.str bk, SV.val (Ct.sl false [Ct.sl true [Ct.int IntKind.i64, Ct.int IntKind.i64, Ct.int IntKind.i64, Ct.int IntKind.i64, Ct.int IntKind.u32]]) T, SV.val (Ct.sl true [Ct.str, Ct.int IntKind.i64, Ct.sl false [Ct.sl true [Ct.int IntKind.i64, Ct.int IntKind.i64, Ct.int IntKind.i64, Ct.int IntKind.i64, Ct.int IntKind.u32]]]) S, SV.val (Ct.sl true [Ct.str, Ct.bool, Ct.sl true [Ct.int IntKind.i64, Ct.int IntKind.i64]]) M, SV.val (Ct.sl false [Ct.int IntKind.i64]) Q], Obj.box [SV.val (Ct.int IntKind.i64) c', SV.val (Ct.int IntKind.i64) sz', SV.val Ct.str bk', SV.val (Ct.sl false [Ct.sl true [Ct.int IntKind.i64, Ct.int IntKind.i64, Ct.int IntKind.i64, Ct.int IntKind.i64, Ct.int IntKind.u32]]) T', SV.val (Ct.sl true [Ct.str, Ct.int IntKind.i64, Ct.sl false [Ct.sl true [Ct.int IntKind.i64, Ct.int IntKind.i64, Ct.int IntKind.i64, Ct.int IntKind.i64, Ct.int IntKind.u32]]]) S', SV.val (Ct.sl true [Ct.str, Ct.bool, Ct.sl true [Ct.int IntKind.i64, Ct.int IntKind.i64]]) M', SV.val (Ct.sl false [Ct.int IntKind.i64]) Q']]) N then ((nat_lit 256 = nat_lit 256 ∧ nat_lit 0 = nat_lit 0 ∧ nat_lit 384 = nat_lit 384 ∧ nat_lit 0 = nat_lit 0) ∧ ([Ct.int IntKind.i64, Ct.int IntKind.i64, Ct.int IntKind.i64, Ct.int IntKind.i64, Ct.int IntKind.u32] = [Ct.int IntKind.i64, Ct.int IntKind.i64, Ct.int IntKind.i64, Ct.int IntKind.i64, Ct.int IntKind.u32] ∧ [Ct.str, Ct.int IntKind.i64, Ct.sl false [Ct.sl true [Ct.int IntKind.i64, Ct.int IntKind.i64, Ct.int IntKind.i64, Ct.int IntKind.i64, Ct.int IntKind.u32]]] = [Ct.str, Ct.int IntKind.i64, Ct.sl false [Ct.sl true [Ct.int IntKind.i64, Ct.int IntKind.i64, Ct.int IntKind.i64, Ct.int IntKind.i64, Ct.int IntKind.u32]]] ∧ [Ct.str, Ct.bool, Ct.sl true [Ct.int IntKind.i64, Ct.int IntKind.i64]] = [Ct.str, Ct.bool, Ct.sl true [Ct.int IntKind.i64, Ct.int IntKind.i64]]) ∧ ([Ct.int IntKind.i64, Ct.int IntKind.i64, Ct.int IntKind.i64, Ct.int IntKind.i64, Ct.int IntKind.u32] = [Ct.int IntKind.i64, Ct.int IntKind.i64, Ct.int IntKind.i64, Ct.int IntKind.i64, Ct.int IntKind.u32] ∧ [Ct.str, Ct.int IntKind.i64, Ct.sl false [Ct.sl true [Ct.int IntKind.i64, Ct.int IntKind.i64, Ct.int IntKind.i64, Ct.int IntKind.i64, Ct.int IntKind.u32]]] = [Ct.str, Ct.int IntKind.i64, Ct.sl false [Ct.sl true [Ct.int IntKind.i64, Ct.int IntKind.i64, Ct.int IntKind.i64, Ct.int IntKind.i64, Ct.int IntKind.u32]]] ∧ [Ct.str, Ct.bool, Ct.sl true [Ct.int IntKind.i64, Ct.int IntKind.i64]] = [Ct.str, Ct.bool, Ct.sl true [Ct.int IntKind.i64, Ct.int IntKind.i64]]) ∧ List.length (U.list S) = List.length (U.list S') ∧ (0 : Int) ≤ IntKind.wrap IntKind.i64 (U.int i + (1 : Int)) ∧ IntKind.wrap IntKind.i64 (U.int i + (1 : Int)) ≤ (↑(List.length (U.list S)) : Int)) ∧ bif shotsE (List.drop (Int.toNat (IntKind.wrap IntKind.i64 (U.int i + (1 : Int)))) (U.list S)) (List.drop (Int.toNat (IntKind.wrap IntKind.i64 (U.int i + (1 : Int)))) (U.list S')) then k (Ex.exit (nat_lit 0)) (St.mk [(nat_lit 4, SV.unk)] []) else k Ex.ret (St.mk [(nat_lit 4, SV.val Ct.bool (U.b false))] []) else False else False) else False) (Alt (bif decide ((0 : Int) ≤ U.int i ∧ U.int i < (↑(List.length (U.list S)) : Int)) then (bif decide ((0 : Int) ≤ U.int i ∧ U.int i < (↑(List.length (U.list S')) : Int)) then bif !ByteArray.toList (U.str (nth (U.i (0 : Int)) (U.list (nth (U.i (0 : Int)) (U.list S) (Int.toNat (U.int i)))) (0 : Nat))) == ByteArray.toList (U.str (nth (U.i (0 : Int)) (U.list (nth (U.i (0 : Int)) (U.list S') (Int.toNat (U.int i)))) (0 : Nat))) then k Ex.ret (St.mk [(nat_lit 4, SV.val Ct.bool (U.b false))] []) else bif U.int (nth (U.i (0 : Int)) (List.tail (U.list (nth (U.i (0 : Int)) (U.list S) (Int.toNat (U.int i))))) (0 : Nat)) != U.int (nth (U.i (0 : Int)) (List.tail (U.list (nth (U.i (0 : Int)) (U.list S') (Int.toNat (U.int i))))) (0 : Nat)) then k Ex.ret (St.mk [(nat_lit 4, SV.val Ct.bool (U.b false))] []) else bif !tabE (U.list (nth (U.i (0 : Int)) (List.tail (List.tail (U.list (nth (U.i (0 : Int)) (U.list S) (Int.toNat (U.int i)))))) (0 : Nat))) (U.list (nth (U.i (0 : Int)) (List.tail (List.tail (U.list (nth (U.i (0 : Int)) (U.list S') (Int.toNat (U.int i)))))) (0 : Nat))) then k Ex.ret (St.mk [(nat_lit 4, SV.val Ct.bool (U.b false))] []) else bif Nat.blt (μ [SV.val (Ct.int IntKind.i64) (U.i (IntKind.wrap IntKind.i64 (U.int i + (1 : Int)))), SV.ptr (nat_lit 256) (nat_lit 0), SV.ptr (nat_lit 384) (nat_lit 0)] [Obj.box [SV.val (Ct.int IntKind.i64) c, SV.val (Ct.int IntKind.i64) sz, SV.val Ct.str bk, SV.val (Ct.sl false [Ct.sl true [Ct.int IntKind.i64, Ct.int IntKind.i64, Ct.int IntKind.i64, Ct.int IntKind.i64, Ct.int IntKind.u32]]) T, SV.val (Ct.sl true [Ct.str, Ct.int IntKind.i64, Ct.sl false [Ct.sl true [Ct.int IntKind.i64, Ct.int IntKind.i64, Ct.int IntKind.i64, Ct.int IntKind.i64, Ct.int IntKind.u32]]]) S, SV.val (Ct.sl true [Ct.str, Ct.bool, Ct.sl true [Ct.int IntKind.i64, Ct.int IntKind.i64]]) M, SV.val (Ct.sl false [Ct.int IntKind.i64]) Q], Obj.box [SV.val (Ct.int IntKind.i64) c', SV.val (Ct.int IntKind.i64) sz', SV.val Ct.str bk', SV.val (Ct.sl false [Ct.sl true [Ct.int IntKind.i64, Ct.int IntKind.i64, Ct.int IntKind.i64, Ct.int IntKind.i64, Ct.int IntKind.u32]]) T', SV.val (Ct.sl true [Ct.str, Ct.int IntKind.i64, Ct.sl false [Ct.sl true [Ct.int IntKind.i64, Ct.int IntKind.i64, Ct.int IntKind.i64, Ct.int IntKind.i64, Ct.int IntKind.u32]]]) S', SV.val (Ct.sl true [Ct.str, Ct.bool, Ct.sl true [Ct.int IntKind.i64, Ct.int IntKind.i64]]) M', SV.val (Ct.sl false [Ct.int IntKind.i64]) Q']]) N then ((nat_lit 256 = nat_lit 256 ∧ nat_lit 0 = nat_lit 0 ∧ nat_lit 384 = nat_lit 384 ∧ nat_lit 0 = nat_lit 0) ∧ ([Ct.int IntKind.i64, Ct.int IntKind.i64, Ct.int IntKind.i64, Ct.int IntKind.i64, Ct.int IntKind.u32] = [Ct.int IntKind.i64, Ct.int IntKind.i64, Ct.int IntKind.i64, Ct.int IntKind.i64, Ct.int IntKind.u32] ∧ [Ct.str, Ct.int IntKind.i64, Ct.sl false [Ct.sl true [Ct.int IntKind.i64, Ct.int IntKind.i64, Ct.int IntKind.i64, Ct.int IntKind.i64, Ct.int IntKind.u32]]] = [Ct.str, Ct.int IntKind.i64, Ct.sl false [Ct.sl true [Ct.int IntKind.i64, Ct.int IntKind.i64, Ct.int IntKind.i64, Ct.int IntKind.i64, Ct.int IntKind.u32]]] ∧ [Ct.str, Ct.bool, Ct.sl true [Ct.int IntKind.i64, Ct.int IntKind.i64]] = [Ct.str, Ct.bool, Ct.sl true [Ct.int IntKind.i64, Ct.int IntKind.i64]]) ∧ ([Ct.int IntKind.i64, Ct.int IntKind.i64, Ct.int IntKind.i64, Ct.int IntKind.i64, Ct.int IntKind.u32] = [Ct.int IntKind.i64, Ct.int IntKind.i64, Ct.int IntKind.i64, Ct.int IntKind.i64, Ct.int IntKind.u32] ∧ [Ct.str, Ct.int IntKind.i64, Ct.sl false [Ct.sl true [Ct.int IntKind.i64, Ct.int IntKind.i64, Ct.int IntKind.i64, Ct.int IntKind.i64, Ct.int IntKind.u32]]] = [Ct.str, Ct.int IntKind.i64, Ct.sl false [Ct.sl true [Ct.int IntKind.i64, Ct.int IntKind.i64, Ct.int IntKind.i64, Ct.int IntKind.i64, Ct.int IntKind.u32]]] ∧ [Ct.str, Ct.bool, Ct.sl true [Ct.int IntKind.i64, Ct.int IntKind.i64]] = [Ct.str, Ct.bool, Ct.sl true [Ct.int IntKind.i64, Ct.int IntKind.i64]]) ∧ List.length (U.list S) = List.length (U.list S') ∧ (0 : Int) ≤ IntKind.wrap IntKind.i64 (U.int i + (1 : Int)) ∧ IntKind.wrap IntKind.i64 (U.int i + (1 : Int)) ≤ (↑(List.length (U.list S)) : Int)) ∧ bif shotsE (List.drop (Int.toNat (IntKind.wrap IntKind.i64 (U.int i + (1 : Int)))) (U.list S)) (List.drop (Int.toNat (IntKind.wrap IntKind.i64 (U.int i + (1 : Int)))) (U.list S')) then k (Ex.exit (nat_lit 0)) (St.mk [(nat_lit 4, SV.unk)] []) else k Ex.ret (St.mk [(nat_lit 4, SV.val Ct.bool (U.b false))] []) else False else False) else False) (bif decide ((0 : Int) ≤ U.int i ∧ U.int i < (↑(List.length (U.list S')) : Int)) then bif decide ((0 : Int) ≤ U.int i ∧ U.int i < (↑(List.length (U.list S)) : Int)) then bif !ByteArray.toList (U.str (nth (U.i (0 : Int)) (U.list (nth (U.i (0 : Int)) (U.list S) (Int.toNat (U.int i)))) (0 : Nat))) == ByteArray.toList (U.str (nth (U.i (0 : Int)) (U.list (nth (U.i (0 : Int)) (U.list S') (Int.toNat (U.int i)))) (0 : Nat))) then k Ex.ret (St.mk [(nat_lit 4, SV.val Ct.bool (U.b false))] []) else bif U.int (nth (U.i (0 : Int)) (List.tail (U.list (nth (U.i (0 : Int)) (U.list S) (Int.toNat (U.int i))))) (0 : Nat)) != U.int (nth (U.i (0 : Int)) (List.tail (U.list (nth (U.i (0 : Int)) (U.list S') (Int.toNat (U.int i))))) (0 : Nat)) then k Ex.ret (St.mk [(nat_lit 4, SV.val Ct.bool (U.b false))] []) else bif !tabE (U.list (nth (U.i (0 : Int)) (List.tail (List.tail (U.list (nth (U.i (0 : Int)) (U.list S) (Int.toNat (U.int i)))))) (0 : Nat))) (U.list (nth (U.i (0 : Int)) (List.tail (List.tail (U.list (nth (U.i (0 : Int)) (U.list S') (Int.toNat (U.int i)))))) (0 : Nat))) then k Ex.ret (St.mk [(nat_lit 4, SV.val Ct.bool (U.b false))] []) else bif Nat.blt (μ [SV.val (Ct.int IntKind.i64) (U.i (IntKind.wrap IntKind.i64 (U.int i + (1 : Int)))), SV.ptr (nat_lit 256) (nat_lit 0), SV.ptr (nat_lit 384) (nat_lit 0)] [Obj.box [SV.val (Ct.int IntKind.i64) c, SV.val (Ct.int IntKind.i64) sz, SV.val Ct.str bk, SV.val (Ct.sl false [Ct.sl true [Ct.int IntKind.i64, Ct.int IntKind.i64, Ct.int IntKind.i64, Ct.int IntKind.i64, Ct.int IntKind.u32]]) T, SV.val (Ct.sl true [Ct.str, Ct.int IntKind.i64, Ct.sl false [Ct.sl true [Ct.int IntKind.i64, Ct.int IntKind.i64, Ct.int IntKind.i64, Ct.int IntKind.i64, Ct.int IntKind.u32]]]) S, SV.val (Ct.sl true [Ct.str, Ct.bool, Ct.sl true [Ct.int IntKind.i64, Ct.int IntKind.i64]]) M, SV.val (Ct.sl false [Ct.int IntKind.i64]) Q], Obj.box [SV.val (Ct.int IntKind.i64) c', SV.val (Ct.int IntKind.i64) sz', SV.val Ct.str bk', SV.val (Ct.sl false [Ct.sl true [Ct.int IntKind.i64, Ct.int IntKind.i64, Ct.int IntKind.i64, Ct.int IntKind.i64, Ct.int IntKind.u32]]) T', SV.val (Ct.sl true [Ct.str, Ct.int IntKind.i64, Ct.sl false [Ct.sl true [Ct.int IntKind.i64, Ct.int IntKind.i64, Ct.int IntKind.i64, Ct.int IntKind.i64, Ct.int IntKind.u32]]]) S', SV.val (Ct.sl true [Ct.str, Ct.bool, Ct.sl true [Ct.int IntKind.i64, Ct.int IntKind.i64]]) M', SV.val (Ct.sl false [Ct.int IntKind.i64]) Q']]) N then ((nat_lit 256 = nat_lit 256 ∧ nat_lit 0 = nat_lit 0 ∧ nat_lit 384 = nat_lit 384 ∧ nat_lit 0 = nat_lit 0) ∧ ([Ct.int IntKind.i64, Ct.int IntKind.i64, Ct.int IntKind.i64, Ct.int IntKind.i64, Ct.int IntKind.u32] = [Ct.int IntKind.i64, Ct.int IntKind.i64, Ct.int IntKind.i64, Ct.int IntKind.i64, Ct.int IntKind.u32] ∧ [Ct.str, Ct.int IntKind.i64, Ct.sl false [Ct.sl true [Ct.int IntKind.i64, Ct.int IntKind.i64, Ct.int IntKind.i64, Ct.int IntKind.i64, Ct.int IntKind.u32]]] = [Ct.str, Ct.int IntKind.i64, Ct.sl false [Ct.sl true [Ct.int IntKind.i64, Ct.int IntKind.i64, Ct.int IntKind.i64, Ct.int IntKind.i64, Ct.int IntKind.u32]]] ∧ [Ct.str, Ct.bool, Ct.sl true [Ct.int IntKind.i64, Ct.int IntKind.i64]] = [Ct.str, Ct.bool, Ct.sl true [Ct.int IntKind.i64, Ct.int IntKind.i64]]) ∧ ([Ct.int IntKind.i64, Ct.int IntKind.i64, Ct.int IntKind.i64, Ct.int IntKind.i64, Ct.int IntKind.u32] = [Ct.int IntKind.i64, Ct.int IntKind.i64, Ct.int IntKind.i64, Ct.int IntKind.i64, Ct.int IntKind.u32] ∧ [Ct.str, Ct.int IntKind.i64, Ct.sl false [Ct.sl true [Ct.int IntKind.i64, Ct.int IntKind.i64, Ct.int IntKind.i64, Ct.int IntKind.i64, Ct.int IntKind.u32]]] = [Ct.str, Ct.int IntKind.i64, Ct.sl false [Ct.sl true [Ct.int IntKind.i64, Ct.int IntKind.i64, Ct.int IntKind.i64, Ct.int IntKind.i64, Ct.int IntKind.u32]]] ∧ [Ct.str, Ct.bool, Ct.sl true [Ct.int IntKind.i64, Ct.int IntKind.i64]] = [Ct.str, Ct.bool, Ct.sl true [Ct.int IntKind.i64, Ct.int IntKind.i64]]) ∧ List.length (U.list S) = List.length (U.list S') ∧ (0 : Int) ≤ IntKind.wrap IntKind.i64 (U.int i + (1 : Int)) ∧ IntKind.wrap IntKind.i64 (U.int i + (1 : Int)) ≤ (↑(List.length (U.list S)) : Int)) ∧ bif shotsE (List.drop (Int.toNat (IntKind.wrap IntKind.i64 (U.int i + (1 : Int)))) (U.list S)) (List.drop (Int.toNat (IntKind.wrap IntKind.i64 (U.int i + (1 : Int)))) (U.list S')) then k (Ex.exit (nat_lit 0)) (St.mk [(nat_lit 4, SV.unk)] []) else k Ex.ret (St.mk [(nat_lit 4, SV.val Ct.bool (U.b false))] []) else False else False else False)))))) else k (Ex.exit (nat_lit 0)) (St.mk [(nat_lit 4, SV.unk)] [])) := by
  rw [same_round_alt]
  simp only [Alt_self]
theorem same_tree (R : RF) (c sz bk T S M Q c' sz' bk' T' S' M' Q' : U) : (run sameC Try.f17 [[c, sz, bk, T, S, M, Q], [c', sz', bk', T', S', M', Q']] R) = (bif U.int c != U.int c' then R [[U.b false]] else bif U.int sz != U.int sz' then R [[U.b false]] else bif !ByteArray.toList (U.str bk) == ByteArray.toList (U.str bk') then R [[U.b false]] else bif (↑(List.length
  (U.list S)) : Int) != (↑(List.length (U.list S')) : Int) then R [[U.b false]] else bif !tabE (U.list T) (U.list T') then R [[U.b false]] else bif !mapsE (U.list M) (U.list M') then R [[U.b false]] else
  bif !intsE (U.list Q) (U.list Q') then R [[U.b false]] else ((nat_lit 256 = nat_lit 256 ∧ nat_lit 0 = nat_lit 0 ∧ nat_lit 384 = nat_lit 384 ∧ nat_lit 0 = nat_lit 0) ∧ ([Ct.int IntKind.i64, Ct.int IntKind.i64,
  Ct.int IntKind.i64, Ct.int IntKind.i64, Ct.int IntKind.u32] = [Ct.int IntKind.i64, Ct.int IntKind.i64, Ct.int IntKind.i64, Ct.int IntKind.i64, Ct.int IntKind.u32] ∧ [Ct.str, Ct.int IntKind.i64, Ct.sl false
  [Ct.sl true [Ct.int IntKind.i64, Ct.int IntKind.i64, Ct.int IntKind.i64, Ct.int IntKind.i64, Ct.int IntKind.u32]]] = [Ct.str, Ct.int IntKind.i64, Ct.sl false [Ct.sl true [Ct.int IntKind.i64, Ct.int IntKind.i64,
  Ct.int IntKind.i64, Ct.int IntKind.i64, Ct.int IntKind.u32]]] ∧ [Ct.str, Ct.bool, Ct.sl true [Ct.int IntKind.i64, Ct.int IntKind.i64]] = [Ct.str, Ct.bool, Ct.sl true [Ct.int IntKind.i64, Ct.int IntKind.i64]])
  ∧ ([Ct.int IntKind.i64, Ct.int IntKind.i64, Ct.int IntKind.i64, Ct.int IntKind.i64, Ct.int IntKind.u32] = [Ct.int IntKind.i64, Ct.int IntKind.i64, Ct.int IntKind.i64, Ct.int IntKind.i64, Ct.int IntKind.u32]
  ∧ [Ct.str, Ct.int IntKind.i64, Ct.sl false [Ct.sl true [Ct.int IntKind.i64, Ct.int IntKind.i64, Ct.int IntKind.i64, Ct.int IntKind.i64, Ct.int IntKind.u32]]] = [Ct.str, Ct.int IntKind.i64, Ct.sl false
  [Ct.sl true [Ct.int IntKind.i64, Ct.int IntKind.i64, Ct.int IntKind.i64, Ct.int IntKind.i64, Ct.int IntKind.u32]]] ∧ [Ct.str, Ct.bool, Ct.sl true [Ct.int IntKind.i64, Ct.int IntKind.i64]] = [Ct.str, Ct.bool,
  Ct.sl true [Ct.int IntKind.i64, Ct.int IntKind.i64]]) ∧ List.length (U.list S) = List.length (U.list S') ∧ (0 : Int) ≤ (0 : Int) ∧ (0 : Int) ≤ (↑(List.length (U.list S)) : Int)) ∧ bif shotsE (List.drop
  (Int.toNat (0 : Int)) (U.list S)) (List.drop (Int.toNat (0 : Int)) (U.list S')) then R [[U.b true]] else R [[U.b false]]) := by kernel_rfl
end Go.Mat

namespace Go.Mat
open Go Go.Den Go.Proofs
theorem shotsE_len : ∀ {a b : List U}, shotsE a b = true → a.length = b.length
  | [], [], _ => rfl
  | [], _ :: _, h => by cases h
  | _ :: _, [], h => by cases h
  | x :: r, y :: s, h => by
    rw [shotsE, Bool.and_eq_true] at h
    rw [List.length_cons, List.length_cons, shotsE_len h.2]
theorem shotsE_ne {a b : List U} (h : a.length ≠ b.length) : shotsE a b = false := Bool.eq_false_iff.2 fun h' => h (shotsE_len h')
theorem same_loop : LoopOk sameC 0 (loopBody Try.f17 0) := by
  refine loopOk_of (F := sameLoop) (ts := [5, 2, 3]) (os := [256, 384]) rfl (fun svs os => match svs, os with | .val _ i :: _, .box [_, _, _, _, .val _ S, _, _] :: _ => ((S.list.length : Int) - i.int).toNat | _, _ => 0) ?_
  intro pan svs os k ho1 ho2 h
  unfold sameLoop at h
  split at h
  · rename_i i p o p' o'
    split at h
    · rename_i c sz bk x1 T x2 S x3 M Q c' sz' bk' y1 T' y2 S' y3 M' Q'
      obtain ⟨⟨⟨rfl, rfl, rfl, rfl⟩, ⟨rfl, rfl, rfl⟩, ⟨rfl, rfl, rfl⟩, hl, h0, hi⟩, hk⟩ := h
      have hL : S.list.length ≤ maxLen := ho2.1.2.2.2.2.1.1
      unfold maxLen at hL
      refine .eq (same_round pan _ _ k i c sz bk T S M Q c' sz' bk' T' S' M' Q') ?_
      refine bd (fun hlt => ?_) (fun hlt => ?_)
      · rw [drop_at (by omega), drop_at (L := S'.list) (by omega), shotsE] at hk
        simp only [U.at, shotE, e0, e1, e2] at hk
        have hw : IntKind.wrap .i64 (i.int + 1) = i.int + 1 := i64_in (by omega) (by omega)
        have hc : (i.int + 1).toNat = i.int.toNat + 1 := by omega
        have hlt' : ((S.list.length : Int) - (i.int + 1)).toNat < ((S.list.length : Int) - i.int).toNat := by omega
        have hb1 : decide (0 ≤ i.int ∧ i.int < (S.list.length : Int)) = true := decide_eq_true ⟨h0, hlt⟩
        have hb2 : decide (0 ≤ i.int ∧ i.int < (S'.list.length : Int)) = true := decide_eq_true ⟨h0, by omega⟩
        simp only [hb1, hb2, cond_true, Alt_self, nth_tail, nth_drop, Nat.zero_add, Nat.add_zero, Nat.reduceAdd, hw, hc]
        refine bi (fun h1 => ?_) (fun h1 => bi (fun h2 => ?_) (fun h2 => bi (fun h3 => ?_) (fun h3 => ?_)))
        · rw [nt h1, Bool.false_and, Bool.false_and, Bool.false_and] at hk; exact hk
        · rw [nf h1, nt h2, Bool.true_and, Bool.false_and, Bool.false_and] at hk; exact hk
        · rw [nf h1, nf h2, nt h3, Bool.true_and, Bool.true_and, Bool.false_and] at hk; exact hk
        · rw [nf h1, nf h2, nf h3, Bool.true_and, Bool.true_and, Bool.true_and] at hk
          exact blt hlt' ⟨⟨⟨by trivial, by trivial, by trivial, by trivial⟩, ⟨by trivial, by trivial, by trivial⟩, ⟨by trivial, by trivial, by trivial⟩, hl, by omega, by omega⟩, hk⟩
      · rw [List.drop_of_length_le (by omega), List.drop_of_length_le (by omega), shotsE] at hk
        exact hk
    · exact h.elim
  · exact h.elim
theorem same_ok : SpecF PR 17 sameS := fun fn us hfn => by
  have hf : PR.funcs[(17 : Nat)]? = some Try.f17 := by kernel_rfl
  rw [hf] at hfn; cases hfn
  refine fn_okH (C := sameC) (mkC_ok eqs1_ok mixed_ok (.cons tabE_ok (.cons mps_ok (.cons ints_ok .nil))) .nil) hf (by kernel_rfl) (loops_one (by kernel_rfl) same_loop) fun hok => ?_
  have hp : Try.f17.params.toList = [29, 29] := by kernel_rfl
  rw [hp] at hok
  obtain ⟨c, sz, bk, T, S, M, Q, c', sz', bk', T', S', M', Q', hus⟩ : ∃ c sz bk T S M Q c' sz' bk' T' S' M' Q', us = [[c, sz, bk, T, S, M, Q], [c', sz', bk', T', S', M', Q']] := by
    obtain ⟨u, u2, rfl, h1, h2⟩ := shape2 (by kernel_rfl : Cs PR 29 = some (true, [.int .i64, .int .i64, .str, .sl false [.sl true EC], .sl true SC, .sl true BC, .sl false [.int .i64]])) (by kernel_rfl : Cs PR 29 = some (true, [.int .i64, .int .i64, .str, .sl false [.sl true EC], .sl true SC, .sl true BC, .sl false [.int .i64]])) hok.1
    obtain ⟨c, sz, bk, T, S, M, Q, rfl⟩ := len7 h1
    obtain ⟨c', sz', bk', T', S', M', Q', rfl⟩ := len7 h2
    exact ⟨c, sz, bk, T, S, M, Q, c', sz', bk', T', S', M', Q', rfl⟩
  subst hus
  refine .eq (same_tree _ c sz bk T S M Q c' sz' bk' T' S' M' Q') ?_
  have hS : sameS [[c, sz, bk, T, S, M, Q], [c', sz', bk', T', S', M', Q']] = [[.b (metaEq c sz bk T S M Q c' sz' bk' T' S' M' Q')]] := rfl
  rw [hS]
  unfold metaEq
  simp only [Int.toNat_zero, List.drop_zero]
  refine bi (fun h => by rw [nt h]; rfl) (fun h1 => bi (fun h => by rw [nf h1, nt h]; rfl) (fun h2 => bi (fun h => by rw [nf h1, nf h2, nt h]; rfl) (fun h3 => bi (fun h => ?_) (fun h4 => ?_))))
  · have h := nt h
    rw [shotsE_ne (by intro h2; rw [h2] at h; simp at h), Bool.and_false]
  have h4 := nf h4
  simp only [beq_iff_eq] at h4
  refine bi (fun h => by rw [nf h1, nf h2, nf h3, nt h]; rfl) (fun h5 => bi (fun h => by rw [nf h1, nf h2, nf h3, nf h5, nt h]; rfl) (fun h6 => bi (fun h => by rw [nf h1, nf h2, nf h3, nf h5, nf h6, nt h]; rfl) (fun h7 => ⟨⟨⟨by trivial, by trivial, by trivial, by trivial⟩, ⟨by trivial, by trivial, by trivial⟩, ⟨by trivial, by trivial, by trivial⟩, by omega, by omega, by omega⟩, ?_⟩)))
  rw [nf h1, nf h2, nf h3, nf h5, nf h6, nf h7]
  exact bi (fun h => by rw [h]; rfl) (fun h => by rw [h]; rfl)
end Go.Mat

namespace Go.Mat
open Go Go.Den Go.Proofs
theorem num_list1 {v : Int} (h0 : 0 ≤ v) (h : v ≤ 255) : num [] 1 v = [.i (v % 256)] := by
  unfold num putX
  rw [good1 h0 h, if_pos rfl, u64_in h0 (by omega)]
  show [U.i (byteAt v 0)] = _
  unfold byteAt
  simp
theorem num_list2 {v : Int} (h0 : 0 ≤ v) (h : v ≤ 65535) : num [] 2 v = [.i (v % 256), .i (v / 256 % 256)] := by
  unfold num putX
  rw [good2 h0 h, if_pos rfl, u64_in h0 (by omega)]
  show [U.i (byteAt v 0), U.i (byteAt v 1)] = _
  unfold byteAt
  simp
theorem num_list4 {v : Int} (h0 : 0 ≤ v) (h : v ≤ 4294967295) : num [] 4 v = [.i (v % 256), .i (v / 256 % 256), .i (v / 65536 % 256), .i (v / 16777216 % 256)] := by
  unfold num putX
  rw [good4 h0 h, if_pos rfl, u64_in h0 (by omega)]
  show [U.i (byteAt v 0), U.i (byteAt v 1), U.i (byteAt v 2), U.i (byteAt v 3)] = _
  unfold byteAt
  simp
theorem entB_list {a b c d e k : Int} (h : mayR a b c d e k = true) (he : 0 ≤ e ∧ e ≤ 4294967295) : entB a b c d e = .i a :: .i 0 :: (num [] 2 c ++ (num [] 4 b ++ (num [] 4 d ++ num [] 4 e))) := by
  obtain ⟨ha0, ha, hb0, hb, hc0, hc, hd0, hd⟩ := may_low h
  have hw : IntKind.wrap .i64 e = e := i64_in (by omega) (by omega)
  have hw8 : IntKind.wrap .u8 a = a := by rw [u8_wrap]; omega
  unfold entB
  rw [hw, hw8, num_app (v := e) (good4 he.1 he.2), num_app (v := d) (good4 (by omega) (by omega)), num_app (v := b) (good4 (by omega) (by omega)), num_app (v := c) (good2 (by omega) (by omega))]
  simp
theorem tableR_parts {L : List U} {n c : Int} (h : tableR L n c = true) : leavesR n c 0 L = true ∧ lastOk L = true := by
  unfold tableR at h
  split at h
  · cases h
  · refine ⟨h, ?_⟩
    rw [leavesR_eq, Bool.and_eq_true] at h
    exact h.1
theorem tabX_is {L : List U} {n c : Int} (hl : L.length ≤ 1099511627776) (h : tableR L n c = true) (hs : tabOk L) : tabX L c = tputB L c := by
  have h1 := (tabX_eq hl h hs).1
  have h2 := countB_le L
  unfold tabX at h1 ⊢
  cases hb : tableR L 4096 c with
  | true => rfl
  | false => rw [hb] at h1; simp at h1; omega
def shotGood (c : Int) (s : U) : Prop := shotOk s ∧ tabOk (e2 s).list ∧ ∃ n, tableR (e2 s).list n c = true
theorem intsE_iff : ∀ {a b : List U}, intsE a b = true ↔ a.map U.int = b.map U.int
  | [], [] => by simp [intsE]
  | [], _ :: _ => by simp [intsE]
  | _ :: _, [] => by simp [intsE]
  | x :: r, y :: s => by
    rw [intsE, Bool.and_eq_true, intsE_iff, List.map_cons, List.map_cons, List.cons.injEq, beq_iff_eq]
theorem lead_take (x : Int) : ∀ (l : List U) (n : Int), (l.take (lead x n l - n).toNat).map U.int = List.replicate (lead x n l - n).toNat x
  | [], n => by simp [lead]
  | y :: r, n => by
    unfold lead
    cases h : decide (n < 65535) && (y.int == x) with
    | false => simp
    | true =>
      rw [Bool.and_eq_true, beq_iff_eq] at h
      have h1 := lead_ge x r (n + 1)
      have h2 := lead_take x r (n + 1)
      rw [cond_true, show (lead x (n + 1) r - n).toNat = (lead x (n + 1) r - (n + 1)).toNat + 1 by omega, List.take_succ_cons, List.map_cons, h2, h.2]
      rfl
def isByte (u : U) : Prop := ∃ n : Nat, n < 256 ∧ u = .i n
structure allBytes (l : List U) : Prop where
  all : ∀ u ∈ l, isByte u
theorem allBytes.app {l m : List U} (h : allBytes l) (k : allBytes m) : allBytes (l ++ m) := ⟨fun u hu => (List.mem_append.1 hu).elim (h.all u) (k.all u)⟩
theorem allBytes.nil : allBytes [] := ⟨fun u hu => by cases hu⟩
theorem putFrom_bytes (g : Bool) (m v : Int) : ∀ (n : Nat) (i : Int), allBytes (putFrom g m v i n)
  | 0, _ => allBytes.nil
  | n + 1, i => ⟨fun u hu => by
    rw [putFrom] at hu
    rcases List.mem_cons.1 hu with rfl | hu
    · unfold byteAt
      generalize v / 2 ^ (8 * (if g = true then m - 1 - i else i)).toNat = y
      exact ⟨(y % 256).toNat, by omega, by rw [Int.toNat_of_nonneg (by omega)]⟩
    · exact (putFrom_bytes g m v n (i + 1)).all u hu⟩
theorem num_bytes (n v : Int) : allBytes (num [] n v) := by
  unfold num putX
  split
  · rw [List.nil_append]; exact putFrom_bytes ..
  · exact allBytes.nil
theorem strU_bytes (s : ByteArray) : allBytes (strU s) := ⟨fun u hu => by
  obtain ⟨b, _, rfl⟩ := List.mem_map.1 hu
  exact ⟨b.toNat, b.toNat_lt, rfl⟩⟩
theorem text_bytes (s : ByteArray) : allBytes (textB [] s) := by
  unfold textB
  cases longB s with
  | true => exact allBytes.nil
  | false => exact (num_bytes ..).app (strU_bytes s)
theorem leaf_bytes {n c i : Int} : ∀ {l : List U} {k : Int}, entsR n c i k l = true → (∀ e ∈ l, sumOk e) → allBytes (leafB c l)
  | [], _, _, _ => allBytes.nil
  | e :: r, k, h, hs => by
    rw [entsR, Bool.and_eq_true] at h
    have h1 := h.1
    unfold entOk at h1
    rw [Bool.and_eq_true] at h1
    obtain ⟨ha0, ha, _⟩ := may_low h1.1
    rw [leafB, entX, h1.1, cond_true, entB_list h1.1 (hs e (List.mem_cons_self ..))]
    refine allBytes.app ⟨fun u hu => ?_⟩ (leaf_bytes h.2 fun e he => hs e (List.mem_cons_of_mem _ he))
    rcases List.mem_cons.1 hu with rfl | hu
    · exact ⟨(e0 e).int.toNat, by omega, by rw [Int.toNat_of_nonneg ha0]⟩
    rcases List.mem_cons.1 hu with rfl | hu
    · exact ⟨0, by omega, rfl⟩
    · exact ((num_bytes ..).app ((num_bytes ..).app ((num_bytes ..).app (num_bytes ..)))).all u hu
theorem leaves_bytes {n c : Int} : ∀ {L : List U} {i : Int}, leavesR n c i L = true → tabOk L → allBytes (leavesB c i L)
  | [], _, _, _ => allBytes.nil
  | l :: t, i, h, hs => by
    rw [leavesR] at h
    have key : leavesR n c (i + 1) t = true ∧ (l.list = [] ∨ entsR n c i 0 l.list = true) := by
      split at h
      · rename_i hh; exact ⟨h, .inl hh.1⟩
      · rw [Bool.and_eq_true] at h
        have h1 := h.1
        unfold leafR at h1
        simp only [Bool.and_eq_true, decide_eq_true_eq] at h1
        exact ⟨h.2, .inr h1.1.2⟩
    rw [leavesB]
    refine allBytes.app ?_ (leaves_bytes key.1 fun l hl => hs l (List.mem_cons_of_mem _ hl))
    rcases key.2 with hl | he
    · rw [hl]; exact allBytes.nil
    · cases decide (l.list = []) with
      | true => exact allBytes.nil
      | false => exact (num_bytes ..).app (leaf_bytes he (hs l (List.mem_cons_self ..)))
theorem tab_bytes {L : List U} {n c : Int} (hl : L.length ≤ 1099511627776) (h : tableR L n c = true) (hs : tabOk L) : allBytes (tabX L c) := by
  rw [tabX_is hl h hs]
  exact (num_bytes ..).app (leaves_bytes (tableR_parts h).1 hs)
theorem spans_bytes : ∀ L : List U, allBytes (spansB L)
  | [] => allBytes.nil
  | _ :: r => ((num_bytes ..).app (num_bytes ..)).app (spans_bytes r)
theorem maps_bytes : ∀ L : List U, allBytes (mapsB L)
  | [] => allBytes.nil
  | b :: r => by
    rw [mapsB, mapB]
    exact ((((text_bytes _).app (num_bytes ..)).app (num_bytes ..)).app (spans_bytes _)).app (maps_bytes r)
theorem shots_bytes {c : Int} : ∀ {L : List U}, (∀ x ∈ L, shotGood c x) → allBytes (shotsB c L)
  | [], _ => allBytes.nil
  | s :: r, h => by
    obtain ⟨⟨_, _, _, x4⟩, x5, n, x6⟩ := h s (List.mem_cons_self ..)
    rw [shotsB]
    exact (((text_bytes _).app (num_bytes ..)).app (tab_bytes x4 x6 x5)).app (shots_bytes fun x hx => h x (List.mem_cons_of_mem _ hx))
theorem runs_bytes : ∀ (l : List U) (x n : Int), allBytes (runsB x n l)
  | [], _, _ => (num_bytes ..).app (num_bytes ..)
  | y :: r, x, n => by
    rw [runsB]
    cases decide (n < 65535) && (y.int == x) with
    | true => exact runs_bytes r ..
    | false => exact ((num_bytes ..).app (num_bytes ..)).app (runs_bytes r ..)
theorem counts_bytes (L : List U) : allBytes (countsB L) := by
  cases L with
  | nil => exact allBytes.nil
  | cons x r => exact runs_bytes ..
structure Good (c sz bk T S M Q : U) : Prop extends RightFacts c sz bk T S M Q where
  tl : T.list.length ≤ 1099511627776
  ts : tabOk T.list
  sg : ∀ s ∈ S.list, shotGood c.int s
  ql : Q.list.length ≤ 65536
theorem good_bytes {c sz bk T S M Q : U} (g : Good c sz bk T S M Q) : allBytes (metaB c.int sz.int bk.str T.list S.list M.list Q.list) := by
  unfold metaB
  exact (((((((((num_bytes ..).app (num_bytes ..)).app (text_bytes _)).app (tab_bytes g.tl g.t g.ts)).app (num_bytes ..)).app (shots_bytes g.sg)).app (num_bytes ..)).app (maps_bytes _)).app (num_bytes ..)).app (counts_bytes _)
theorem str_of_list {s t : ByteArray} (h : s.toList = t.toList) : s = t := by
  rw [ByteArray.toList_eq, ByteArray.toList_eq] at h
  exact ByteArray.ext (Array.ext' h)
theorem ent_same {x y : U} (h : entE x y = true) : (e0 x).int = (e0 y).int ∧ (e1 x).int = (e1 y).int ∧ (e2 x).int = (e2 y).int ∧ (e3 x).int = (e3 y).int ∧ (e4 x).int = (e4 y).int := by
  unfold entE at h
  simpa using h
theorem leaf_same {c : Int} : ∀ {l m : List U}, entsE l m = true → leafB c l = leafB c m
  | [], [], _ => rfl
  | [], _ :: _, h => by cases h
  | _ :: _, [], h => by cases h
  | x :: l, y :: m, h => by
    rw [entsE, Bool.and_eq_true] at h
    obtain ⟨h0, h1, h2, h3, h4⟩ := ent_same h.1
    rw [leafB, leafB, entX, entX, h0, h1, h2, h3, h4, leaf_same h.2]
theorem nil_same {l m : List U} (h : entsE l m = true) : decide (l = []) = decide (m = []) := by
  have := entsE_len h
  cases l <;> cases m <;> first | rfl | simp at this
theorem leaves_same {c : Int} : ∀ {L M : List U} {i : Int}, tabE L M = true → leavesB c i L = leavesB c i M ∧ countB L = countB M
  | [], [], _, _ => ⟨rfl, rfl⟩
  | [], _ :: _, _, h => by cases h
  | _ :: _, [], _, h => by cases h
  | x :: l, y :: m, i, h => by
    rw [tabE, Bool.and_eq_true] at h
    obtain ⟨h1, h2⟩ := leaves_same (c := c) (i := i + 1) h.2
    rw [leavesB, leavesB, countB, countB, nil_same h.1, leaf_same h.1, h1, h2]
    exact ⟨rfl, rfl⟩
theorem spans_same : ∀ {L M : List U}, spansE L M = true → spansB L = spansB M
  | [], [], _ => rfl
  | [], _ :: _, h => by cases h
  | _ :: _, [], h => by cases h
  | x :: l, y :: m, h => by
    rw [spansE, Bool.and_eq_true, spanE] at h
    simp only [Bool.and_true, Bool.and_eq_true, beq_iff_eq] at h
    rw [spansB, spansB, h.1.1, h.1.2, spans_same h.2]
theorem maps_same : ∀ {L M : List U}, mapsE L M = true → mapsB L = mapsB M
  | [], [], _ => rfl
  | [], _ :: _, h => by cases h
  | _ :: _, [], h => by cases h
  | x :: l, y :: m, h => by
    rw [mapsE, Bool.and_eq_true, mapE] at h
    simp only [Bool.and_eq_true, beq_iff_eq] at h
    obtain ⟨⟨⟨h1, h2⟩, h3⟩, h4⟩ := h
    rw [mapsB, mapsB, mapB, mapB, str_of_list h1, h2, spansE_len h3, spans_same h3, maps_same h4]
theorem counts_same {L M : List U} (h : L.map U.int = M.map U.int) : countsB L = countsB M := by
  have key : ∀ (L M : List U) (x n : Int), L.map U.int = M.map U.int → runsB x n L = runsB x n M := by
    intro L
    induction L with
    | nil => intro M x n h; cases M with
      | nil => rfl
      | cons y m => simp at h
    | cons a l ih => intro M x n h; cases M with
      | nil => simp at h
      | cons y m =>
        rw [List.map_cons, List.map_cons, List.cons.injEq] at h
        rw [runsB, runsB, h.1, ih m _ _ h.2, ih m _ _ h.2]
  cases L with
  | nil => cases M with
    | nil => rfl
    | cons y m => simp at h
  | cons x l => cases M with
    | nil => simp at h
    | cons y m =>
      rw [List.map_cons, List.map_cons, List.cons.injEq] at h
      rw [countsB, countsB, h.1]
      exact key _ _ _ _ h.2
theorem tab_same {L M : List U} {n n' c : Int} (hl : L.length ≤ 1099511627776) (hm : M.length ≤ 1099511627776) (hx : tableR L n c = true) (hy : tableR M n' c = true) (sx : tabOk L) (sy : tabOk M) (h : tabE L M = true) : tabX L c = tabX M c := by
  rw [tabX_is hl hx sx, tabX_is hm hy sy, tputB, tputB, (leaves_same h).1, (leaves_same (c := c) (i := 0) h).2]
theorem shots_same {c : Int} : ∀ {L M : List U}, (∀ x ∈ L, shotGood c x) → (∀ x ∈ M, shotGood c x) → shotsE L M = true → shotsB c L = shotsB c M
  | [], [], _, _, _ => rfl
  | [], _ :: _, _, _, h => by cases h
  | _ :: _, [], _, _, h => by cases h
  | x :: l, y :: m, hx, hy, h => by
    obtain ⟨⟨_, _, _, x4⟩, x5, n, x6⟩ := hx x (List.mem_cons_self ..)
    obtain ⟨⟨_, _, _, y4⟩, y5, n', y6⟩ := hy y (List.mem_cons_self ..)
    rw [shotsE, Bool.and_eq_true, shotE] at h
    simp only [Bool.and_eq_true, beq_iff_eq] at h
    obtain ⟨⟨⟨h1, h2⟩, h3⟩, h4⟩ := h
    rw [shotsB, shotsB, str_of_list h1, h2, tab_same x4 y4 x6 y6 x5 y5 h3, shots_same (fun e he => hx e (List.mem_cons_of_mem _ he)) (fun e he => hy e (List.mem_cons_of_mem _ he)) h4]
theorem metaB_same {c sz bk T S M Q c' sz' bk' T' S' M' Q' : U} (g : Good c sz bk T S M Q) (g' : Good c' sz' bk' T' S' M' Q') (h : metaEq c sz bk T S M Q c' sz' bk' T' S' M' Q' = true) :
    metaB c.int sz.int bk.str T.list S.list M.list Q.list = metaB c'.int sz'.int bk'.str T'.list S'.list M'.list Q'.list := by
  unfold metaEq at h
  simp only [Bool.and_eq_true, beq_iff_eq] at h
  obtain ⟨⟨⟨⟨⟨⟨h1, h2⟩, h3⟩, h4⟩, h5⟩, h6⟩, h7⟩ := h
  have ht' := g'.t
  have hs' := g'.sg
  rw [← h1] at ht' hs'
  unfold metaB
  rw [← h1, h2, str_of_list h3, tab_same g.tl g'.tl g.t ht' g.ts g'.ts h4, shotsE_len h7, shots_same g.sg hs' h7, mapsE_len h5, maps_same h5, intsE_len h6, counts_same (intsE_iff.1 h6)]
end Go.Mat

namespace Go.Mat
open Go Go.Den Go.Proofs
def thereR (b : List U) (at_ n : Int) : Bool := decide (0 ≤ at_) && decide (at_ ≤ b.length) && decide (n ≤ b.length - at_)
def sub (b : List U) (at_ n : Int) : List U := (b.take (at_ + n).toNat).drop at_.toNat
def thereP : List (List U) → Prop := fun us => 0 ≤ (nth (.i 0) (nth [] us 2) 0).int ∧ (nth (.i 0) (nth [] us 2) 0).int ≤ 1099511627776 ∧ (nth (.i 0) (nth [] us 0) 0).list.length ≤ 1099511627776
def thereS : List (List U) → List (List U) := fun us => [[.l (bif thereR (nth (.i 0) (nth [] us 0) 0).list (nth (.i 0) (nth [] us 1) 0).int (nth (.i 0) (nth [] us 2) 0).int then sub (nth (.i 0) (nth [] us 0) 0).list (nth (.i 0) (nth [] us 1) 0).int (nth (.i 0) (nth [] us 2) 0).int else [])],
  [.b (thereR (nth (.i 0) (nth [] us 0) 0).list (nth (.i 0) (nth [] us 1) 0).int (nth (.i 0) (nth [] us 2) 0).int)]]
theorem there_tree (R : RF) (b a n : U) : (run K0 Try.f80 [[b], [a], [n]] R) = (bif decide (U.int a < (0 : Int)) then R [[U.l []], [U.b false]] else bif decide (U.int a > (↑(List.length (U.list b)) : Int)) then R [[U.l []], [U.b false]] else bif decide (U.int n > IntKind.wrap IntKind.i64
  ((↑(List.length (U.list b)) : Int) - U.int a)) then R [[U.l []], [U.b false]] else bif decide ((0 : Int) ≤ U.int a ∧ U.int a ≤ IntKind.wrap IntKind.i64 (U.int a + U.int n) ∧ IntKind.wrap IntKind.i64 (U.int
  a + U.int n) ≤ IntKind.wrap IntKind.i64 (U.int a + U.int n) ∧ IntKind.wrap IntKind.i64 (U.int a + U.int n) ≤ (↑(List.length (U.list b)) : Int)) && true then R [[U.l (List.drop (Int.toNat (U.int a)) (List.take
  (Int.toNat (IntKind.wrap IntKind.i64 (U.int a + U.int n))) (U.list b)))], [U.b true]] else False) := by kernel_rfl
def leV : List U → Int
  | [] => 0
  | u :: r => u.int + 256 * leV r
def byteOk (b : List U) : Prop := ∀ u ∈ b, 0 ≤ u.int ∧ u.int ≤ 255
def getN (b : List U) (at_ n : Int) : Int := bif thereR b at_ n then leV (sub b at_ n) else 0
def getE (b : List U) (at_ n : Int) : Int := bif thereR b at_ n then 0 else 6
def getP : List (List U) → Prop := fun us => 1 ≤ (nth (.i 0) (nth [] us 2) 0).int ∧ (nth (.i 0) (nth [] us 2) 0).int ≤ 4 ∧ (nth (.i 0) (nth [] us 3) 0).bool = false ∧ (nth (.i 0) (nth [] us 0) 0).list.length ≤ 1099511627776
def getS : List (List U) → List (List U) := fun us => [[.i (getN (nth (.i 0) (nth [] us 0) 0).list (nth (.i 0) (nth [] us 1) 0).int (nth (.i 0) (nth [] us 2) 0).int)], [.i (getE (nth (.i 0) (nth [] us 0) 0).list (nth (.i 0) (nth [] us 1) 0).int (nth (.i 0) (nth [] us 2) 0).int)]]
noncomputable def getLoop : LoopF := fun _ svs _ k => match svs with
  | .val (.int .i64) i :: .val (.int .i64) m :: .val (.int .u64) v :: rest => match rest with
    | [.val (.sl false [.int .u8]) l, .val (.int .i64) n, .val .bool g] =>
      (n = m ∧ g.bool = false ∧ byteOk l.list ∧ (l.list.length : Int) = m.int ∧ m.int ≤ 4 ∧ 0 ≤ i.int ∧ i.int ≤ m.int ∧ v = .i v.int ∧ 0 ≤ v.int ∧ v.int < 256 ^ i.int.toNat) ∧
      k (.exit 0) ⟨[(12, vu (.i (v.int * 256 ^ (m.int - i.int).toNat + leV (l.list.take (m.int - i.int).toNat))))], []⟩
    | _ => False
  | _ => False
noncomputable def getC : Ctx := mkC PR eqs0 (fnsConsP 80 thereP thereS fnsNil) trsNil (loopCons 0 [31, 30, 12, 10, 2, 3] [] getLoop noLoops) (outCons 0 [12] [] noOut) noOut
theorem get_round (pan : KP) (μ : Mu) (N : Nat) (k : KE) (i n v l g : U) : (exec (getC.panics pan) (loopBody Try.f72 0) 0 ⟨[(31, vi i), (30, vi n), (12, vu v), (10, vl (.int .u8) l), (2, vi n), (3, vb g)], []⟩ (again PR (some ([12], [])) none pan [31, 30, 12, 10, 2, 3] [] getLoop μ N k)) = (bif decide (U.int i < U.int n) then bif U.bool g then bif decide ((0 : Int) ≤ U.int i ∧ U.int i < (↑(List.length (U.list l)) : Int)) then bif Nat.blt (μ [SV.val (Ct.int IntKind.i64) (U.i (IntKind.wrap
  IntKind.i64 (U.int i + (1 : Int)))), SV.val (Ct.int IntKind.i64) n, SV.val (Ct.int IntKind.u64) (U.i (IntKind.wrap IntKind.u64 (↑(BitVec.toNat (BitVec.ofInt (IntKind.bits IntKind.u64) (IntKind.wrap IntKind.u64
  (U.int v * (2 : Int) ^ min (Int.toNat (8 : Int)) (IntKind.bits IntKind.u64))) ||| BitVec.ofInt (IntKind.bits IntKind.u64) (IntKind.wrap IntKind.u64 (U.int (nth (U.i (0 : Int)) (U.list l) (Int.toNat (U.int
  i))))))) : Int))), SV.val (Ct.sl false [Ct.int IntKind.u8]) l, SV.val (Ct.int IntKind.i64) n, SV.val Ct.bool g] []) N then (n = n ∧ U.bool g = false ∧ byteOk (U.list l) ∧ (↑(List.length (U.list l)) : Int)
  = U.int n ∧ U.int n ≤ (4 : Int) ∧ (0 : Int) ≤ IntKind.wrap IntKind.i64 (U.int i + (1 : Int)) ∧ IntKind.wrap IntKind.i64 (U.int i + (1 : Int)) ≤ U.int n ∧ U.i (IntKind.wrap IntKind.u64 (↑(BitVec.toNat (BitVec.ofInt
  (IntKind.bits IntKind.u64) (IntKind.wrap IntKind.u64 (U.int v * (2 : Int) ^ min (Int.toNat (8 : Int)) (IntKind.bits IntKind.u64))) ||| BitVec.ofInt (IntKind.bits IntKind.u64) (IntKind.wrap IntKind.u64
  (U.int (nth (U.i (0 : Int)) (U.list l) (Int.toNat (U.int i))))))) : Int)) = U.i (IntKind.wrap IntKind.u64 (↑(BitVec.toNat (BitVec.ofInt (IntKind.bits IntKind.u64) (IntKind.wrap IntKind.u64 (U.int v * (2
  : Int) ^ min (Int.toNat (8 : Int)) (IntKind.bits IntKind.u64))) ||| BitVec.ofInt (IntKind.bits IntKind.u64) (IntKind.wrap IntKind.u64 (U.int (nth (U.i (0 : Int)) (U.list l) (Int.toNat (U.int i))))))) :
  Int)) ∧ (0 : Int) ≤ IntKind.wrap IntKind.u64 (↑(BitVec.toNat (BitVec.ofInt (IntKind.bits IntKind.u64) (IntKind.wrap IntKind.u64 (U.int v * (2 : Int) ^ min (Int.toNat (8 : Int)) (IntKind.bits IntKind.u64)))
  ||| BitVec.ofInt (IntKind.bits IntKind.u64) (IntKind.wrap IntKind.u64 (U.int (nth (U.i (0 : Int)) (U.list l) (Int.toNat (U.int i))))))) : Int) ∧ IntKind.wrap IntKind.u64 (↑(BitVec.toNat (BitVec.ofInt (IntKind.bits
  IntKind.u64) (IntKind.wrap IntKind.u64 (U.int v * (2 : Int) ^ min (Int.toNat (8 : Int)) (IntKind.bits IntKind.u64))) ||| BitVec.ofInt (IntKind.bits IntKind.u64) (IntKind.wrap IntKind.u64 (U.int (nth (U.i
  (0 : Int)) (U.list l) (Int.toNat (U.int i))))))) : Int) < (256 : Int) ^ Int.toNat (IntKind.wrap IntKind.i64 (U.int i + (1 : Int)))) ∧ k (Ex.exit (nat_lit 0)) (St.mk [(nat_lit 12, SV.val (Ct.int IntKind.u64)
  (U.i (IntKind.wrap IntKind.u64 (↑(BitVec.toNat (BitVec.ofInt (IntKind.bits IntKind.u64) (IntKind.wrap IntKind.u64 (U.int v * (2 : Int) ^ min (Int.toNat (8 : Int)) (IntKind.bits IntKind.u64))) ||| BitVec.ofInt
  (IntKind.bits IntKind.u64) (IntKind.wrap IntKind.u64 (U.int (nth (U.i (0 : Int)) (U.list l) (Int.toNat (U.int i))))))) : Int) * (256 : Int) ^ Int.toNat (U.int n - IntKind.wrap IntKind.i64 (U.int i + (1
  : Int))) + leV (List.take (Int.toNat (U.int n - IntKind.wrap IntKind.i64 (U.int i + (1 : Int)))) (U.list l)))))] []) else False else False else bif decide ((0 : Int) ≤ IntKind.wrap IntKind.i64 (IntKind.wrap
  IntKind.i64 (U.int n - (1 : Int)) - U.int i) ∧ IntKind.wrap IntKind.i64 (IntKind.wrap IntKind.i64 (U.int n - (1 : Int)) - U.int i) < (↑(List.length (U.list l)) : Int)) then bif Nat.blt (μ [SV.val (Ct.int
  IntKind.i64) (U.i (IntKind.wrap IntKind.i64 (U.int i + (1 : Int)))), SV.val (Ct.int IntKind.i64) n, SV.val (Ct.int IntKind.u64) (U.i (IntKind.wrap IntKind.u64 (↑(BitVec.toNat (BitVec.ofInt (IntKind.bits
  IntKind.u64) (IntKind.wrap IntKind.u64 (U.int v * (2 : Int) ^ min (Int.toNat (8 : Int)) (IntKind.bits IntKind.u64))) ||| BitVec.ofInt (IntKind.bits IntKind.u64) (IntKind.wrap IntKind.u64 (U.int (nth (U.i
  (0 : Int)) (U.list l) (Int.toNat (IntKind.wrap IntKind.i64 (IntKind.wrap IntKind.i64 (U.int n - (1 : Int)) - U.int i)))))))) : Int))), SV.val (Ct.sl false [Ct.int IntKind.u8]) l, SV.val (Ct.int IntKind.i64)
  n, SV.val Ct.bool g] []) N then (n = n ∧ U.bool g = false ∧ byteOk (U.list l) ∧ (↑(List.length (U.list l)) : Int) = U.int n ∧ U.int n ≤ (4 : Int) ∧ (0 : Int) ≤ IntKind.wrap IntKind.i64 (U.int i + (1 :
  Int)) ∧ IntKind.wrap IntKind.i64 (U.int i + (1 : Int)) ≤ U.int n ∧ U.i (IntKind.wrap IntKind.u64 (↑(BitVec.toNat (BitVec.ofInt (IntKind.bits IntKind.u64) (IntKind.wrap IntKind.u64 (U.int v * (2 : Int)
  ^ min (Int.toNat (8 : Int)) (IntKind.bits IntKind.u64))) ||| BitVec.ofInt (IntKind.bits IntKind.u64) (IntKind.wrap IntKind.u64 (U.int (nth (U.i (0 : Int)) (U.list l) (Int.toNat (IntKind.wrap IntKind.i64
  (IntKind.wrap IntKind.i64 (U.int n - (1 : Int)) - U.int i)))))))) : Int)) = U.i (IntKind.wrap IntKind.u64 (↑(BitVec.toNat (BitVec.ofInt (IntKind.bits IntKind.u64) (IntKind.wrap IntKind.u64 (U.int v * (2
  : Int) ^ min (Int.toNat (8 : Int)) (IntKind.bits IntKind.u64))) ||| BitVec.ofInt (IntKind.bits IntKind.u64) (IntKind.wrap IntKind.u64 (U.int (nth (U.i (0 : Int)) (U.list l) (Int.toNat (IntKind.wrap IntKind.i64
  (IntKind.wrap IntKind.i64 (U.int n - (1 : Int)) - U.int i)))))))) : Int)) ∧ (0 : Int) ≤ IntKind.wrap IntKind.u64 (↑(BitVec.toNat (BitVec.ofInt (IntKind.bits IntKind.u64) (IntKind.wrap IntKind.u64 (U.int
  v * (2 : Int) ^ min (Int.toNat (8 : Int)) (IntKind.bits IntKind.u64))) ||| BitVec.ofInt (IntKind.bits IntKind.u64) (IntKind.wrap IntKind.u64 (U.int (nth (U.i (0 : Int)) (U.list l) (Int.toNat (IntKind.wrap
  IntKind.i64 (IntKind.wrap IntKind.i64 (U.int n - (1 : Int)) - U.int i)))))))) : Int) ∧ IntKind.wrap IntKind.u64 (↑(BitVec.toNat (BitVec.ofInt (IntKind.bits IntKind.u64) (IntKind.wrap IntKind.u64 (U.int
  v * (2 : Int) ^ min (Int.toNat (8 : Int)) (IntKind.bits IntKind.u64))) ||| BitVec.ofInt (IntKind.bits IntKind.u64) (IntKind.wrap IntKind.u64 (U.int (nth (U.i (0 : Int)) (U.list l) (Int.toNat (IntKind.wrap
  IntKind.i64 (IntKind.wrap IntKind.i64 (U.int n - (1 : Int)) - U.int i)))))))) : Int) < (256 : Int) ^ Int.toNat (IntKind.wrap IntKind.i64 (U.int i + (1 : Int)))) ∧ k (Ex.exit (nat_lit 0)) (St.mk [(nat_lit
  12, SV.val (Ct.int IntKind.u64) (U.i (IntKind.wrap IntKind.u64 (↑(BitVec.toNat (BitVec.ofInt (IntKind.bits IntKind.u64) (IntKind.wrap IntKind.u64 (U.int v * (2 : Int) ^ min (Int.toNat (8 : Int)) (IntKind.bits
  IntKind.u64))) ||| BitVec.ofInt (IntKind.bits IntKind.u64) (IntKind.wrap IntKind.u64 (U.int (nth (U.i (0 : Int)) (U.list l) (Int.toNat (IntKind.wrap IntKind.i64 (IntKind.wrap IntKind.i64 (U.int n - (1
  : Int)) - U.int i)))))))) : Int) * (256 : Int) ^ Int.toNat (U.int n - IntKind.wrap IntKind.i64 (U.int i + (1 : Int))) + leV (List.take (Int.toNat (U.int n - IntKind.wrap IntKind.i64 (U.int i + (1 : Int))))
  (U.list l)))))] []) else False else False else k (Ex.exit (nat_lit 0)) (St.mk [(nat_lit 12, SV.val (Ct.int IntKind.u64) v)] [])) := by kernel_rfl
theorem get_tree (R : RF) (b a n g : U) : (run getC Try.f72 [[b], [a], [n], [g]] R) = (bif decide (U.int n < (1 : Int)) then R [[U.i (0 : Int)], [U.i (1 : Int)]] else bif decide (U.int n > (8 : Int)) then R [[U.i (0 : Int)], [U.i (1 : Int)]] else thereP [[b], [a], [n]] ∧ bif !thereR (U.list
  b) (U.int a) (U.int n) then R [[U.i (0 : Int)], [U.i (6 : Int)]] else (n = n ∧ U.bool g = false ∧ byteOk (bif thereR (U.list b) (U.int a) (U.int n) then sub (U.list b) (U.int a) (U.int n) else []) ∧ (↑(List.length
  (bif thereR (U.list b) (U.int a) (U.int n) then sub (U.list b) (U.int a) (U.int n) else [])) : Int) = U.int n ∧ U.int n ≤ (4 : Int) ∧ (0 : Int) ≤ (0 : Int) ∧ (0 : Int) ≤ U.int n ∧ U.i (0 : Int) = U.i (0
  : Int) ∧ (0 : Int) ≤ (0 : Int) ∧ (0 : Int) < (256 : Int) ^ Int.toNat (0 : Int)) ∧ R [[U.i ((0 : Int) * (256 : Int) ^ Int.toNat (U.int n - (0 : Int)) + leV (List.take (Int.toNat (U.int n - (0 : Int))) (bif
  thereR (U.list b) (U.int a) (U.int n) then sub (U.list b) (U.int a) (U.int n) else [])))], [U.i (0 : Int)]]) := by kernel_rfl
end Go.Mat

namespace Go.Mat
open Go Go.Den Go.Proofs
theorem or_byte {x y : Int} (hx : 0 ≤ x) (hx' : x ≤ 1099511627776) (hy : 0 ≤ y) (hy' : y ≤ 255) :
    IntKind.wrap .u64 (((BitVec.ofInt (IntKind.bits .u64) (IntKind.wrap .u64 (x * 2 ^ min (Int.toNat 8) (IntKind.bits .u64))) ||| BitVec.ofInt (IntKind.bits .u64) (IntKind.wrap .u64 y)).toNat : Nat) : Int) = x * 256 + y := by
  obtain ⟨a, rfl⟩ := Int.eq_ofNat_of_zero_le hx
  obtain ⟨b, rfl⟩ := Int.eq_ofNat_of_zero_le hy
  have e : ((a : Int) * (2 : Int) ^ min (Int.toNat 8) (IntKind.bits .u64)) = ((a <<< 8 : Nat) : Int) := by
    rw [Nat.shiftLeft_eq]; simp [IntKind.bits]
  have ha : a <<< 8 < 18446744073709551616 := by rw [Nat.shiftLeft_eq]; omega
  rw [e, u64_in (x := ((a <<< 8 : Nat) : Int)) (by omega) (by omega), u64_in (x := (b : Int)) (by omega) (by omega)]
  have h1 : (BitVec.ofInt (IntKind.bits .u64) ((a <<< 8 : Nat) : Int) ||| BitVec.ofInt (IntKind.bits .u64) (b : Int)).toNat = a <<< 8 + b := by
    rw [BitVec.toNat_or, BitVec.toNat_ofInt, BitVec.toNat_ofInt]
    have h2 : (((a <<< 8 : Nat) : Int) % ((2 ^ IntKind.bits .u64 : Nat) : Int)).toNat = a <<< 8 := by
      show (((a <<< 8 : Nat) : Int) % 18446744073709551616).toNat = _
      omega
    have h3 : ((b : Int) % ((2 ^ IntKind.bits .u64 : Nat) : Int)).toNat = b := by
      show ((b : Int) % 18446744073709551616).toNat = _
      omega
    rw [h2, h3, Nat.shiftLeft_add_eq_or_of_lt (by omega)]
  rw [h1, u64_in (by omega) (by rw [Nat.shiftLeft_eq]; omega), Nat.shiftLeft_eq]
  omega
theorem p256 {i : Nat} (h : i ≤ 3) : (1 : Int) ≤ 256 ^ i ∧ (256 : Int) ^ i ≤ 16777216 := by
  have : i = 0 ∨ i = 1 ∨ i = 2 ∨ i = 3 := by omega
  rcases this with rfl | rfl | rfl | rfl <;> decide
theorem leV_take : ∀ {l : List U} {m : Nat}, m < l.length → leV (l.take (m + 1)) = leV (l.take m) + (U.at l m).int * 256 ^ m
  | [], _, h => by simp at h
  | u :: r, 0, _ => by simp [leV]
  | u :: r, m + 1, h => by
    rw [List.take_succ_cons, List.take_succ_cons, leV, leV, leV_take (by simpa using h), show U.at (u :: r) (m + 1) = U.at r m from rfl, Int.pow_succ, Int.mul_add, ← Int.add_assoc, Int.mul_comm 256 ((U.at r m).int * 256 ^ m), Int.mul_assoc]
theorem le_step {v y : Int} {l : List U} {m : Nat} (h : m < l.length) (hy : (U.at l m).int = y) : (v * 256 + y) * 256 ^ m + leV (l.take m) = v * 256 ^ (m + 1) + leV (l.take (m + 1)) := by
  rw [leV_take h, hy, Int.pow_succ, Int.add_mul, Int.mul_assoc, Int.mul_comm 256]
  omega
theorem get_loop : LoopOk getC 0 (loopBody Try.f72 0) := by
  refine loopOk_of (F := getLoop) (ts := [31, 30, 12, 10, 2, 3]) (os := []) rfl (fun svs _ => match svs with | .val _ i :: .val _ m :: _ => (m.int - i.int).toNat | _ => 0) ?_
  intro pan svs os k ho1 ho2 h
  unfold getLoop at h
  split at h
  · rename_i i m v rest
    split at h
    · rename_i l n g
      obtain ⟨⟨rfl, hg, hbk, hl, hm4, h0, hi, hvv, hv0, hv⟩, hk⟩ := h
      refine .eq (get_round pan _ _ k i n v l g) ?_
      refine bd (fun hlt => bf hg ?_) (fun hlt => ?_)
      · have hp := p256 (i := i.int.toNat) (by omega)
        have hw : IntKind.wrap .i64 (i.int + 1) = i.int + 1 := i64_in (by omega) (by omega)
        have hw1 : IntKind.wrap .i64 (n.int - 1) = n.int - 1 := i64_in (by omega) (by omega)
        have hw2 : IntKind.wrap .i64 (n.int - 1 - i.int) = n.int - 1 - i.int := i64_in (by omega) (by omega)
        simp only [hw, hw1, hw2]
        have hb := hbk _ (mem_at (L := l.list) (i := (n.int - 1 - i.int).toNat) (by omega))
        simp only [U.at] at hb
        rw [or_byte hv0 (by omega) hb.1 hb.2]
        have hm : (n.int - i.int).toNat = (n.int - 1 - i.int).toNat + 1 := by omega
        have hm' : (n.int - (i.int + 1)).toNat = (n.int - 1 - i.int).toNat := by omega
        have hpw : (i.int + 1).toNat = i.int.toNat + 1 := by omega
        rw [hm, ← le_step (y := (nth (U.i 0) l.list (n.int - 1 - i.int).toNat).int) (by omega) rfl] at hk
        rw [hm', hpw, Int.pow_succ]
        have hlt' : (n.int - (i.int + 1)).toNat < (n.int - i.int).toNat := by omega
        refine dt ⟨by omega, by omega⟩ (blt hlt' ⟨⟨by trivial, hg, hbk, hl, hm4, by omega, by omega, by trivial, by omega, by omega⟩, hk⟩)
      · have hz : (n.int - i.int).toNat = 0 := by omega
        rw [hz] at hk
        simp only [Int.pow_zero, Int.mul_one, List.take_zero, leV, Int.add_zero, ← hvv] at hk
        exact hk
    · exact h.elim
  · exact h.elim
theorem thereR_iff {b : List U} {a n : Int} : thereR b a n = true ↔ 0 ≤ a ∧ a ≤ b.length ∧ n ≤ b.length - a := by
  unfold thereR
  simp only [Bool.and_eq_true, decide_eq_true_eq, and_assoc]
theorem there_ok : SpecFP PR 80 thereP thereS := fun fn us hfn hpre => by
  have hf : PR.funcs[(80 : Nat)]? = some Try.f80 := by kernel_rfl
  rw [hf] at hfn; cases hfn
  refine fn_okH (C := K0) (mkC_ok eqs0_ok mixed_ok .nil .nil) hf (by kernel_rfl) (loops_none (by kernel_rfl)) fun hok => ?_
  have hp : Try.f80.params.toList = [32, 3, 3] := by kernel_rfl
  rw [hp] at hok
  obtain ⟨b, a, n, hus⟩ : ∃ b a n, us = [[b], [a], [n]] := by
    obtain ⟨u, u2, u3, rfl, h1, h2, h3⟩ := shape3 (by kernel_rfl : Cs PR 32 = some (false, [.sl false [.int .u8]])) (by kernel_rfl : Cs PR 3 = some (false, [.int .i64])) (by kernel_rfl : Cs PR 3 = some (false, [.int .i64])) hok.1
    obtain ⟨b, rfl⟩ := len1 h1
    obtain ⟨a, rfl⟩ := len1 h2
    obtain ⟨n, rfl⟩ := len1 h3
    exact ⟨b, a, n, rfl⟩
  subst hus
  refine .eq (there_tree _ b a n) ?_
  unfold thereP at hpre
  unfold thereS
  simp only [nth_zero, nth_succ] at hpre ⊢
  obtain ⟨hn0, hn1, hb⟩ := hpre
  have bad : ¬ (0 ≤ a.int ∧ a.int ≤ b.list.length ∧ n.int ≤ b.list.length - a.int) → ([[U.l []], [U.b false]] : List (List U)) = [[.l (bif thereR b.list a.int n.int then sub b.list a.int n.int else [])], [.b (thereR b.list a.int n.int)]] := fun h => by
    rw [show thereR b.list a.int n.int = false from Bool.eq_false_iff.2 fun h' => h (thereR_iff.1 h')]; rfl
  refine bd (fun h => bad (by omega)) (fun h1 => bd (fun h => bad (by omega)) (fun h2 => ?_))
  rw [i64_in (x := (b.list.length : Int) - a.int) (by omega) (by omega)]
  refine bd (fun h => bad (by omega)) (fun h3 => ?_)
  rw [i64_in (x := a.int + n.int) (by omega) (by omega)]
  refine broom ⟨by omega, by omega, by omega, by omega⟩ rfl ?_
  rw [show thereR b.list a.int n.int = true from thereR_iff.2 ⟨by omega, by omega, by omega⟩]
  rfl
theorem sub_len {b : List U} {a n : Int} (h : thereR b a n = true) (hn : 0 ≤ n) : ((sub b a n).length : Int) = n := by
  rw [thereR_iff] at h
  unfold sub
  rw [List.length_drop, List.length_take]
  omega
theorem sub_eq {b : List U} {a n : Int} (h : thereR b a n = true) (hn : 0 ≤ n) : sub b a n = (b.drop a.toNat).take n.toNat := by
  rw [thereR_iff] at h
  unfold sub
  rw [List.drop_take]
  congr 1
  omega
theorem sub_bytes {b : List U} (a n : Int) (h : byteOk b) : byteOk (sub b a n) := fun u hu => h u (List.mem_of_mem_take (List.mem_of_mem_drop hu))
theorem bytes_ok {b : U} (h : okC (.sl false [.int .u8]) b) : byteOk b.list := fun u hu => by
  obtain ⟨i, hi, rfl⟩ := List.getElem_of_mem hu
  have h1 := (h.2 i hi).1
  simp only [elemU_false, U.at, nth_zero] at h1
  have e1 : nth (U.i 0) b.list i = b.list[i] := at_getElem _ _ hi
  rw [e1] at h1
  exact h1
theorem get_ok : SpecFP PR 72 getP getS := fun fn us hfn hpre => by
  have hf : PR.funcs[(72 : Nat)]? = some Try.f72 := by kernel_rfl
  rw [hf] at hfn; cases hfn
  refine fn_okH (C := getC) (mkC_ok eqs0_ok mixed_ok (.consP there_ok .nil) .nil) hf (by kernel_rfl) (loops_one (by kernel_rfl) get_loop) fun hok => ?_
  have hp : Try.f72.params.toList = [32, 3, 3, 4] := by kernel_rfl
  rw [hp] at hok
  obtain ⟨b, a, n, g, hus⟩ : ∃ b a n g, us = [[b], [a], [n], [g]] := by
    obtain ⟨u, u2, u3, u4, rfl, h1, h2, h3, h4⟩ := shape4 (by kernel_rfl : Cs PR 32 = some (false, [.sl false [.int .u8]])) (by kernel_rfl : Cs PR 3 = some (false, [.int .i64])) (by kernel_rfl : Cs PR 3 = some (false, [.int .i64])) (by kernel_rfl : Cs PR 4 = some (false, [.bool])) hok.1
    obtain ⟨b, rfl⟩ := len1 h1
    obtain ⟨a, rfl⟩ := len1 h2
    obtain ⟨n, rfl⟩ := len1 h3
    obtain ⟨g, rfl⟩ := len1 h4
    exact ⟨b, a, n, g, rfl⟩
  subst hus
  have hbk : byteOk b.list := bytes_ok (hok.2 [vl (.int .u8) b, vi a, vi n, vb g] (by kernel_rfl)).1
  refine .eq (get_tree _ b a n g) ?_
  unfold getP at hpre
  unfold getS getN getE
  simp only [nth_zero, nth_succ] at hpre ⊢
  obtain ⟨hn1, hn4, hg, hb⟩ := hpre
  refine df (by omega) (df (by omega) ⟨⟨by show 0 ≤ n.int; omega, by show n.int ≤ _; omega, hb⟩, bi (fun h => ?_) (fun h => ?_)⟩)
  · rw [nt h]; rfl
  · have h := nf h
    rw [h]
    have hl := sub_len h (by omega)
    refine ⟨⟨by trivial, hg, sub_bytes _ _ hbk, hl, by omega, by trivial, by omega, by trivial, by trivial, by simp⟩, ?_⟩
    rw [cond_true, cond_true, Int.zero_mul, Int.zero_add, Int.sub_zero, List.take_of_length_le (by omega)]
    rfl
end Go.Mat

namespace Go.Mat
open Go Go.Den Go.Proofs
abbrev toStr (l : List U) : ByteArray := ⟨(l.map fun x => UInt8.ofNat x.int.toNat).toArray⟩
def readR (b : List U) (a : Int) : Bool := thereR b a 2 && thereR b (a + 2) (getN b a 2)
def readV (b : List U) (a : Int) : ByteArray := bif readR b a then toStr (sub b (a + 2) (getN b a 2)) else ⟨#[]⟩
def readA (b : List U) (a : Int) : Int := bif readR b a then a + 2 + getN b a 2 else 0
def readE (b : List U) (a : Int) : Int := bif readR b a then 0 else 6
def readP : List (List U) → Prop := fun us => (nth (.i 0) (nth [] us 0) 0).list.length ≤ 1099511627776
def readS : List (List U) → List (List U) := fun us => [[.s (readV (nth (.i 0) (nth [] us 0) 0).list (nth (.i 0) (nth [] us 1) 0).int)], [.i (readA (nth (.i 0) (nth [] us 0) 0).list (nth (.i 0) (nth [] us 1) 0).int)], [.i (readE (nth (.i 0) (nth [] us 0) 0).list (nth (.i 0) (nth [] us 1) 0).int)]]
noncomputable def readC : Ctx := mkC PR eqs0 (fnsConsP 80 thereP thereS (fnsConsP 72 getP getS fnsNil)) trsNil noLoops noOut noOut
theorem read_tree (R : RF) (b a : U) : (run readC Try.f73 [[b], [a]] R) = (getP [[b], [a], [U.i (2 : Int)], [U.b false]] ∧ bif getE (U.list b) (U.int a) (2 : Int) != (0 : Int) then R [[U.s (ByteArray.mk #[])], [U.i (0 : Int)], [U.i (6 : Int)]] else thereP [[b], [U.i (IntKind.wrap
  IntKind.i64 (U.int a + (2 : Int)))], [U.i (IntKind.wrap IntKind.i64 (getN (U.list b) (U.int a) (2 : Int)))]] ∧ bif !thereR (U.list b) (IntKind.wrap IntKind.i64 (U.int a + (2 : Int))) (IntKind.wrap IntKind.i64
  (getN (U.list b) (U.int a) (2 : Int))) then R [[U.s (ByteArray.mk #[])], [U.i (0 : Int)], [U.i (6 : Int)]] else R [[U.s (ByteArray.mk (List.toArray (List.map (fun x => UInt8.ofNat (Int.toNat (U.int x)))
  (bif thereR (U.list b) (IntKind.wrap IntKind.i64 (U.int a + (2 : Int))) (IntKind.wrap IntKind.i64 (getN (U.list b) (U.int a) (2 : Int))) then sub (U.list b) (IntKind.wrap IntKind.i64 (U.int a + (2 : Int)))
  (IntKind.wrap IntKind.i64 (getN (U.list b) (U.int a) (2 : Int))) else []))))], [U.i (IntKind.wrap IntKind.i64 (IntKind.wrap IntKind.i64 (U.int a + (2 : Int)) + IntKind.wrap IntKind.i64 (getN (U.list b)
  (U.int a) (2 : Int))))], [U.i (0 : Int)]]) := by kernel_rfl
noncomputable def cloF : Tr := fun vs objs k => match vs, objs with
  | [.val (.int .i64) a, .val (.int .i64) n, .ptr p o], [(i, .box [.val (.sl false [.int .u8]) b])] =>
    (p = 2097153 ∧ o = 0 ∧ i = 2097153 ∧ 1 ≤ n.int ∧ n.int ≤ 4 ∧ b.list.length ≤ 1099511627776) ∧ k (.ret [vi (.i (IntKind.wrap .i64 (getN b.list a.int n.int)))]) [(2097153, .box [vl (.int .u8) b])]
  | _, _ => False
noncomputable def cloC : Ctx := mkC PR eqs0 (fnsConsP 72 getP getS fnsNil) trsNil noLoops noOut noOut
theorem clo_tree (R : RT) (a n b : U) : (runD cloC Try.f82 [vi a, vi n, .ptr 2097153 0] [(2097153, .box [vl (.int .u8) b])] R) = (getP [[b], [a], [n], [U.b false]] ∧ R (Out.ret [SV.val (Ct.int IntKind.i64) (U.i (IntKind.wrap IntKind.i64 (getN (U.list b) (U.int a) (U.int n))))]) [(nat_lit 2097153, Obj.box [SV.val (Ct.sl false [Ct.int
  IntKind.u8]) b])]) := by kernel_rfl
def eK (b : List U) : Int := (U.at b 0).int
def eC (b : List U) : Int := getN b 2 2
def eS (b : List U) : Int := getN b 4 4
def eZ (b : List U) : Int := getN b 8 4
def eM (b : List U) : Int := getN b 12 4
def egetR (b : List U) (k : Int) : Bool := decide (b.length = 16) && ((U.at b 1).int == 0) && mayR (eK b) (eS b) (eC b) (eZ b) (eM b) k
def egetS : List (List U) → List (List U) := fun us =>
  [[.i (bif egetR (nth (.i 0) (nth [] us 0) 0).list (nth (.i 0) (nth [] us 1) 0).int then eK (nth (.i 0) (nth [] us 0) 0).list else 0), .i (bif egetR (nth (.i 0) (nth [] us 0) 0).list (nth (.i 0) (nth [] us 1) 0).int then eS (nth (.i 0) (nth [] us 0) 0).list else 0),
    .i (bif egetR (nth (.i 0) (nth [] us 0) 0).list (nth (.i 0) (nth [] us 1) 0).int then eC (nth (.i 0) (nth [] us 0) 0).list else 0), .i (bif egetR (nth (.i 0) (nth [] us 0) 0).list (nth (.i 0) (nth [] us 1) 0).int then eZ (nth (.i 0) (nth [] us 0) 0).list else 0),
    .i (bif egetR (nth (.i 0) (nth [] us 0) 0).list (nth (.i 0) (nth [] us 1) 0).int then eM (nth (.i 0) (nth [] us 0) 0).list else 0)], [.i (bif egetR (nth (.i 0) (nth [] us 0) 0).list (nth (.i 0) (nth [] us 1) 0).int then 0 else 3)]]
noncomputable def egetC : Ctx := mkC PR eqs0 (fnsCons 65 mayS fnsNil) (trsCons 82 [false, false] cloF trsNil) noLoops noOut noOut
theorem eget_tree_alt (R : RF) (b k : U) : (run egetC Try.f81 [[b], [k]] R) = (bif (↑(List.length (U.list b)) : Int) != (16 : Int) then R [[U.i (0 : Int), U.i (0 : Int), U.i (0 : Int), U.i (0 : Int), U.i (0 : Int)], [U.i (3 : Int)]] else bif decide ((0 : Int) ≤ (1 : Int) ∧ (1 : Int)
  < (↑(List.length (U.list b)) : Int)) then bif U.int (nth (U.i (0 : Int)) (U.list b) (Int.toNat (1 : Int))) != (0 : Int) then R [[U.i (0 : Int), U.i (0 : Int), U.i (0 : Int), U.i (0 : Int), U.i (0 : Int)],
  [U.i (3 : Int)]] else Alt (bif decide ((0 : Int) ≤ (0 : Int) ∧ (0 : Int) < (↑(List.length (U.list b)) : Int)) then Alt ((nat_lit 2097153 = nat_lit 2097153 ∧ nat_lit 0 = nat_lit 0 ∧ nat_lit 2097153 = nat_lit
  2097153 ∧ (1 : Int) ≤ (2 : Int) ∧ (2 : Int) ≤ (4 : Int) ∧ List.length (U.list b) ≤ (1099511627776 : Nat)) ∧ Alt ((nat_lit 2097153 = nat_lit 2097153 ∧ nat_lit 0 = nat_lit 0 ∧ nat_lit 2097153 = nat_lit 2097153
  ∧ (1 : Int) ≤ (4 : Int) ∧ (4 : Int) ≤ (4 : Int) ∧ List.length (U.list b) ≤ (1099511627776 : Nat)) ∧ Alt ((nat_lit 2097153 = nat_lit 2097153 ∧ nat_lit 0 = nat_lit 0 ∧ nat_lit 2097153 = nat_lit 2097153 ∧
  (1 : Int) ≤ (4 : Int) ∧ (4 : Int) ≤ (4 : Int) ∧ List.length (U.list b) ≤ (1099511627776 : Nat)) ∧ (fun T => Alt T T) ((nat_lit 2097153 = nat_lit 2097153 ∧ nat_lit 0 = nat_lit 0 ∧ nat_lit 2097153 = nat_lit
  2097153 ∧ (1 : Int) ≤ (4 : Int) ∧ (4 : Int) ≤ (4 : Int) ∧ List.length (U.list b) ≤ (1099511627776 : Nat)) ∧ bif !mayR (IntKind.wrap IntKind.i64 (U.int (nth (U.i (0 : Int)) (U.list b) (Int.toNat (0 : Int)))))
  (IntKind.wrap IntKind.i64 (getN (U.list b) (4 : Int) (4 : Int))) (IntKind.wrap IntKind.i64 (getN (U.list b) (2 : Int) (2 : Int))) (IntKind.wrap IntKind.i64 (getN (U.list b) (8 : Int) (4 : Int))) (IntKind.wrap
  IntKind.u32 (IntKind.wrap IntKind.i64 (getN (U.list b) (12 : Int) (4 : Int)))) (U.int k) then R [[U.i (0 : Int), U.i (0 : Int), U.i (0 : Int), U.i (0 : Int), U.i (0 : Int)], [U.i (3 : Int)]] else R [[U.i
  (IntKind.wrap IntKind.i64 (U.int (nth (U.i (0 : Int)) (U.list b) (Int.toNat (0 : Int))))), U.i (IntKind.wrap IntKind.i64 (getN (U.list b) (4 : Int) (4 : Int))), U.i (IntKind.wrap IntKind.i64 (getN (U.list
  b) (2 : Int) (2 : Int))), U.i (IntKind.wrap IntKind.i64 (getN (U.list b) (8 : Int) (4 : Int))), U.i (IntKind.wrap IntKind.u32 (IntKind.wrap IntKind.i64 (getN (U.list b) (12 : Int) (4 : Int))))], [U.i (0
  : Int)]])) ((nat_lit 2097153 = nat_lit 2097153 ∧ nat_lit 0 = nat_lit 0 ∧ nat_lit 2097153 = nat_lit 2097153 ∧ (1 : Int) ≤ (4 : Int) ∧ (4 : Int) ≤ (4 : Int) ∧ List.length (U.list b) ≤ (1099511627776 : Nat))
  ∧ (nat_lit 2097153 = nat_lit 2097153 ∧ nat_lit 0 = nat_lit 0 ∧ nat_lit 2097153 = nat_lit 2097153 ∧ (1 : Int) ≤ (4 : Int) ∧ (4 : Int) ≤ (4 : Int) ∧ List.length (U.list b) ≤ (1099511627776 : Nat)) ∧ bif
  !mayR (IntKind.wrap IntKind.i64 (U.int (nth (U.i (0 : Int)) (U.list b) (Int.toNat (0 : Int))))) (IntKind.wrap IntKind.i64 (getN (U.list b) (4 : Int) (4 : Int))) (IntKind.wrap IntKind.i64 (getN (U.list
  b) (2 : Int) (2 : Int))) (IntKind.wrap IntKind.i64 (getN (U.list b) (8 : Int) (4 : Int))) (IntKind.wrap IntKind.u32 (IntKind.wrap IntKind.i64 (getN (U.list b) (12 : Int) (4 : Int)))) (U.int k) then R [[U.i
  (0 : Int), U.i (0 : Int), U.i (0 : Int), U.i (0 : Int), U.i (0 : Int)], [U.i (3 : Int)]] else R [[U.i (IntKind.wrap IntKind.i64 (U.int (nth (U.i (0 : Int)) (U.list b) (Int.toNat (0 : Int))))), U.i (IntKind.wrap
  IntKind.i64 (getN (U.list b) (4 : Int) (4 : Int))), U.i (IntKind.wrap IntKind.i64 (getN (U.list b) (2 : Int) (2 : Int))), U.i (IntKind.wrap IntKind.i64 (getN (U.list b) (8 : Int) (4 : Int))), U.i (IntKind.wrap
  IntKind.u32 (IntKind.wrap IntKind.i64 (getN (U.list b) (12 : Int) (4 : Int))))], [U.i (0 : Int)]])) ((nat_lit 2097153 = nat_lit 2097153 ∧ nat_lit 0 = nat_lit 0 ∧ nat_lit 2097153 = nat_lit 2097153 ∧ (1
  : Int) ≤ (4 : Int) ∧ (4 : Int) ≤ (4 : Int) ∧ List.length (U.list b) ≤ (1099511627776 : Nat)) ∧ (nat_lit 2097153 = nat_lit 2097153 ∧ nat_lit 0 = nat_lit 0 ∧ nat_lit 2097153 = nat_lit 2097153 ∧ (1 : Int)
  ≤ (4 : Int) ∧ (4 : Int) ≤ (4 : Int) ∧ List.length (U.list b) ≤ (1099511627776 : Nat)) ∧ (nat_lit 2097153 = nat_lit 2097153 ∧ nat_lit 0 = nat_lit 0 ∧ nat_lit 2097153 = nat_lit 2097153 ∧ (1 : Int) ≤ (4 :
  Int) ∧ (4 : Int) ≤ (4 : Int) ∧ List.length (U.list b) ≤ (1099511627776 : Nat)) ∧ bif !mayR (IntKind.wrap IntKind.i64 (U.int (nth (U.i (0 : Int)) (U.list b) (Int.toNat (0 : Int))))) (IntKind.wrap IntKind.i64
  (getN (U.list b) (4 : Int) (4 : Int))) (IntKind.wrap IntKind.i64 (getN (U.list b) (2 : Int) (2 : Int))) (IntKind.wrap IntKind.i64 (getN (U.list b) (8 : Int) (4 : Int))) (IntKind.wrap IntKind.u32 (IntKind.wrap
  IntKind.i64 (getN (U.list b) (12 : Int) (4 : Int)))) (U.int k) then R [[U.i (0 : Int), U.i (0 : Int), U.i (0 : Int), U.i (0 : Int), U.i (0 : Int)], [U.i (3 : Int)]] else R [[U.i (IntKind.wrap IntKind.i64
  (U.int (nth (U.i (0 : Int)) (U.list b) (Int.toNat (0 : Int))))), U.i (IntKind.wrap IntKind.i64 (getN (U.list b) (4 : Int) (4 : Int))), U.i (IntKind.wrap IntKind.i64 (getN (U.list b) (2 : Int) (2 : Int))),
  U.i (IntKind.wrap IntKind.i64 (getN (U.list b) (8 : Int) (4 : Int))), U.i (IntKind.wrap IntKind.u32 (IntKind.wrap IntKind.i64 (getN (U.list b) (12 : Int) (4 : Int))))], [U.i (0 : Int)]])) ((nat_lit 2097153
  = nat_lit 2097153 ∧ nat_lit 0 = nat_lit 0 ∧ nat_lit 2097153 = nat_lit 2097153 ∧ (1 : Int) ≤ (2 : Int) ∧ (2 : Int) ≤ (4 : Int) ∧ List.length (U.list b) ≤ (1099511627776 : Nat)) ∧ (nat_lit 2097153 = nat_lit
  2097153 ∧ nat_lit 0 = nat_lit 0 ∧ nat_lit 2097153 = nat_lit 2097153 ∧ (1 : Int) ≤ (4 : Int) ∧ (4 : Int) ≤ (4 : Int) ∧ List.length (U.list b) ≤ (1099511627776 : Nat)) ∧ (nat_lit 2097153 = nat_lit 2097153
  ∧ nat_lit 0 = nat_lit 0 ∧ nat_lit 2097153 = nat_lit 2097153 ∧ (1 : Int) ≤ (4 : Int) ∧ (4 : Int) ≤ (4 : Int) ∧ List.length (U.list b) ≤ (1099511627776 : Nat)) ∧ (nat_lit 2097153 = nat_lit 2097153 ∧ nat_lit
  0 = nat_lit 0 ∧ nat_lit 2097153 = nat_lit 2097153 ∧ (1 : Int) ≤ (4 : Int) ∧ (4 : Int) ≤ (4 : Int) ∧ List.length (U.list b) ≤ (1099511627776 : Nat)) ∧ bif !mayR (IntKind.wrap IntKind.i64 (U.int (nth (U.i
  (0 : Int)) (U.list b) (Int.toNat (0 : Int))))) (IntKind.wrap IntKind.i64 (getN (U.list b) (4 : Int) (4 : Int))) (IntKind.wrap IntKind.i64 (getN (U.list b) (2 : Int) (2 : Int))) (IntKind.wrap IntKind.i64
  (getN (U.list b) (8 : Int) (4 : Int))) (IntKind.wrap IntKind.u32 (IntKind.wrap IntKind.i64 (getN (U.list b) (12 : Int) (4 : Int)))) (U.int k) then R [[U.i (0 : Int), U.i (0 : Int), U.i (0 : Int), U.i (0
  : Int), U.i (0 : Int)], [U.i (3 : Int)]] else R [[U.i (IntKind.wrap IntKind.i64 (U.int (nth (U.i (0 : Int)) (U.list b) (Int.toNat (0 : Int))))), U.i (IntKind.wrap IntKind.i64 (getN (U.list b) (4 : Int)
  (4 : Int))), U.i (IntKind.wrap IntKind.i64 (getN (U.list b) (2 : Int) (2 : Int))), U.i (IntKind.wrap IntKind.i64 (getN (U.list b) (8 : Int) (4 : Int))), U.i (IntKind.wrap IntKind.u32 (IntKind.wrap IntKind.i64
  (getN (U.list b) (12 : Int) (4 : Int))))], [U.i (0 : Int)]]) else False) (Alt ((nat_lit 2097153 = nat_lit 2097153 ∧ nat_lit 0 = nat_lit 0 ∧ nat_lit 2097153 = nat_lit 2097153 ∧ (1 : Int) ≤ (2 : Int) ∧ (2
  : Int) ≤ (4 : Int) ∧ List.length (U.list b) ≤ (1099511627776 : Nat)) ∧ Alt (bif decide ((0 : Int) ≤ (0 : Int) ∧ (0 : Int) < (↑(List.length (U.list b)) : Int)) then Alt ((nat_lit 2097153 = nat_lit 2097153
  ∧ nat_lit 0 = nat_lit 0 ∧ nat_lit 2097153 = nat_lit 2097153 ∧ (1 : Int) ≤ (4 : Int) ∧ (4 : Int) ≤ (4 : Int) ∧ List.length (U.list b) ≤ (1099511627776 : Nat)) ∧ Alt ((nat_lit 2097153 = nat_lit 2097153 ∧
  nat_lit 0 = nat_lit 0 ∧ nat_lit 2097153 = nat_lit 2097153 ∧ (1 : Int) ≤ (4 : Int) ∧ (4 : Int) ≤ (4 : Int) ∧ List.length (U.list b) ≤ (1099511627776 : Nat)) ∧ (fun T => Alt T T) ((nat_lit 2097153 = nat_lit
  2097153 ∧ nat_lit 0 = nat_lit 0 ∧ nat_lit 2097153 = nat_lit 2097153 ∧ (1 : Int) ≤ (4 : Int) ∧ (4 : Int) ≤ (4 : Int) ∧ List.length (U.list b) ≤ (1099511627776 : Nat)) ∧ bif !mayR (IntKind.wrap IntKind.i64
  (U.int (nth (U.i (0 : Int)) (U.list b) (Int.toNat (0 : Int))))) (IntKind.wrap IntKind.i64 (getN (U.list b) (4 : Int) (4 : Int))) (IntKind.wrap IntKind.i64 (getN (U.list b) (2 : Int) (2 : Int))) (IntKind.wrap
  IntKind.i64 (getN (U.list b) (8 : Int) (4 : Int))) (IntKind.wrap IntKind.u32 (IntKind.wrap IntKind.i64 (getN (U.list b) (12 : Int) (4 : Int)))) (U.int k) then R [[U.i (0 : Int), U.i (0 : Int), U.i (0 :
  Int), U.i (0 : Int), U.i (0 : Int)], [U.i (3 : Int)]] else R [[U.i (IntKind.wrap IntKind.i64 (U.int (nth (U.i (0 : Int)) (U.list b) (Int.toNat (0 : Int))))), U.i (IntKind.wrap IntKind.i64 (getN (U.list
  b) (4 : Int) (4 : Int))), U.i (IntKind.wrap IntKind.i64 (getN (U.list b) (2 : Int) (2 : Int))), U.i (IntKind.wrap IntKind.i64 (getN (U.list b) (8 : Int) (4 : Int))), U.i (IntKind.wrap IntKind.u32 (IntKind.wrap
  IntKind.i64 (getN (U.list b) (12 : Int) (4 : Int))))], [U.i (0 : Int)]])) ((nat_lit 2097153 = nat_lit 2097153 ∧ nat_lit 0 = nat_lit 0 ∧ nat_lit 2097153 = nat_lit 2097153 ∧ (1 : Int) ≤ (4 : Int) ∧ (4 :
  Int) ≤ (4 : Int) ∧ List.length (U.list b) ≤ (1099511627776 : Nat)) ∧ (nat_lit 2097153 = nat_lit 2097153 ∧ nat_lit 0 = nat_lit 0 ∧ nat_lit 2097153 = nat_lit 2097153 ∧ (1 : Int) ≤ (4 : Int) ∧ (4 : Int) ≤
  (4 : Int) ∧ List.length (U.list b) ≤ (1099511627776 : Nat)) ∧ bif !mayR (IntKind.wrap IntKind.i64 (U.int (nth (U.i (0 : Int)) (U.list b) (Int.toNat (0 : Int))))) (IntKind.wrap IntKind.i64 (getN (U.list
  b) (4 : Int) (4 : Int))) (IntKind.wrap IntKind.i64 (getN (U.list b) (2 : Int) (2 : Int))) (IntKind.wrap IntKind.i64 (getN (U.list b) (8 : Int) (4 : Int))) (IntKind.wrap IntKind.u32 (IntKind.wrap IntKind.i64
  (getN (U.list b) (12 : Int) (4 : Int)))) (U.int k) then R [[U.i (0 : Int), U.i (0 : Int), U.i (0 : Int), U.i (0 : Int), U.i (0 : Int)], [U.i (3 : Int)]] else R [[U.i (IntKind.wrap IntKind.i64 (U.int (nth
  (U.i (0 : Int)) (U.list b) (Int.toNat (0 : Int))))), U.i (IntKind.wrap IntKind.i64 (getN (U.list b) (4 : Int) (4 : Int))), U.i (IntKind.wrap IntKind.i64 (getN (U.list b) (2 : Int) (2 : Int))), U.i (IntKind.wrap
  IntKind.i64 (getN (U.list b) (8 : Int) (4 : Int))), U.i (IntKind.wrap IntKind.u32 (IntKind.wrap IntKind.i64 (getN (U.list b) (12 : Int) (4 : Int))))], [U.i (0 : Int)]])) ((nat_lit 2097153 = nat_lit 2097153
  ∧ nat_lit 0 = nat_lit 0 ∧ nat_lit 2097153 = nat_lit 2097153 ∧ (1 : Int) ≤ (4 : Int) ∧ (4 : Int) ≤ (4 : Int) ∧ List.length (U.list b) ≤ (1099511627776 : Nat)) ∧ (nat_lit 2097153 = nat_lit 2097153 ∧ nat_lit
  0 = nat_lit 0 ∧ nat_lit 2097153 = nat_lit 2097153 ∧ (1 : Int) ≤ (4 : Int) ∧ (4 : Int) ≤ (4 : Int) ∧ List.length (U.list b) ≤ (1099511627776 : Nat)) ∧ (nat_lit 2097153 = nat_lit 2097153 ∧ nat_lit 0 = nat_lit
  0 ∧ nat_lit 2097153 = nat_lit 2097153 ∧ (1 : Int) ≤ (4 : Int) ∧ (4 : Int) ≤ (4 : Int) ∧ List.length (U.list b) ≤ (1099511627776 : Nat)) ∧ bif !mayR (IntKind.wrap IntKind.i64 (U.int (nth (U.i (0 : Int))
  (U.list b) (Int.toNat (0 : Int))))) (IntKind.wrap IntKind.i64 (getN (U.list b) (4 : Int) (4 : Int))) (IntKind.wrap IntKind.i64 (getN (U.list b) (2 : Int) (2 : Int))) (IntKind.wrap IntKind.i64 (getN (U.list
  b) (8 : Int) (4 : Int))) (IntKind.wrap IntKind.u32 (IntKind.wrap IntKind.i64 (getN (U.list b) (12 : Int) (4 : Int)))) (U.int k) then R [[U.i (0 : Int), U.i (0 : Int), U.i (0 : Int), U.i (0 : Int), U.i
  (0 : Int)], [U.i (3 : Int)]] else R [[U.i (IntKind.wrap IntKind.i64 (U.int (nth (U.i (0 : Int)) (U.list b) (Int.toNat (0 : Int))))), U.i (IntKind.wrap IntKind.i64 (getN (U.list b) (4 : Int) (4 : Int))),
  U.i (IntKind.wrap IntKind.i64 (getN (U.list b) (2 : Int) (2 : Int))), U.i (IntKind.wrap IntKind.i64 (getN (U.list b) (8 : Int) (4 : Int))), U.i (IntKind.wrap IntKind.u32 (IntKind.wrap IntKind.i64 (getN
  (U.list b) (12 : Int) (4 : Int))))], [U.i (0 : Int)]]) else False) (Alt ((nat_lit 2097153 = nat_lit 2097153 ∧ nat_lit 0 = nat_lit 0 ∧ nat_lit 2097153 = nat_lit 2097153 ∧ (1 : Int) ≤ (4 : Int) ∧ (4 : Int)
  ≤ (4 : Int) ∧ List.length (U.list b) ≤ (1099511627776 : Nat)) ∧ Alt (bif decide ((0 : Int) ≤ (0 : Int) ∧ (0 : Int) < (↑(List.length (U.list b)) : Int)) then Alt ((nat_lit 2097153 = nat_lit 2097153 ∧ nat_lit
  0 = nat_lit 0 ∧ nat_lit 2097153 = nat_lit 2097153 ∧ (1 : Int) ≤ (4 : Int) ∧ (4 : Int) ≤ (4 : Int) ∧ List.length (U.list b) ≤ (1099511627776 : Nat)) ∧ (fun T => Alt T T) ((nat_lit 2097153 = nat_lit 2097153
  ∧ nat_lit 0 = nat_lit 0 ∧ nat_lit 2097153 = nat_lit 2097153 ∧ (1 : Int) ≤ (4 : Int) ∧ (4 : Int) ≤ (4 : Int) ∧ List.length (U.list b) ≤ (1099511627776 : Nat)) ∧ bif !mayR (IntKind.wrap IntKind.i64 (U.int
  (nth (U.i (0 : Int)) (U.list b) (Int.toNat (0 : Int))))) (IntKind.wrap IntKind.i64 (getN (U.list b) (4 : Int) (4 : Int))) (IntKind.wrap IntKind.i64 (getN (U.list b) (2 : Int) (2 : Int))) (IntKind.wrap
  IntKind.i64 (getN (U.list b) (8 : Int) (4 : Int))) (IntKind.wrap IntKind.u32 (IntKind.wrap IntKind.i64 (getN (U.list b) (12 : Int) (4 : Int)))) (U.int k) then R [[U.i (0 : Int), U.i (0 : Int), U.i (0 :
  Int), U.i (0 : Int), U.i (0 : Int)], [U.i (3 : Int)]] else R [[U.i (IntKind.wrap IntKind.i64 (U.int (nth (U.i (0 : Int)) (U.list b) (Int.toNat (0 : Int))))), U.i (IntKind.wrap IntKind.i64 (getN (U.list
  b) (4 : Int) (4 : Int))), U.i (IntKind.wrap IntKind.i64 (getN (U.list b) (2 : Int) (2 : Int))), U.i (IntKind.wrap IntKind.i64 (getN (U.list b) (8 : Int) (4 : Int))), U.i (IntKind.wrap IntKind.u32 (IntKind.wrap
  IntKind.i64 (getN (U.list b) (12 : Int) (4 : Int))))], [U.i (0 : Int)]])) ((nat_lit 2097153 = nat_lit 2097153 ∧ nat_lit 0 = nat_lit 0 ∧ nat_lit 2097153 = nat_lit 2097153 ∧ (1 : Int) ≤ (4 : Int) ∧ (4 :
  Int) ≤ (4 : Int) ∧ List.length (U.list b) ≤ (1099511627776 : Nat)) ∧ (nat_lit 2097153 = nat_lit 2097153 ∧ nat_lit 0 = nat_lit 0 ∧ nat_lit 2097153 = nat_lit 2097153 ∧ (1 : Int) ≤ (4 : Int) ∧ (4 : Int) ≤
  (4 : Int) ∧ List.length (U.list b) ≤ (1099511627776 : Nat)) ∧ bif !mayR (IntKind.wrap IntKind.i64 (U.int (nth (U.i (0 : Int)) (U.list b) (Int.toNat (0 : Int))))) (IntKind.wrap IntKind.i64 (getN (U.list
  b) (4 : Int) (4 : Int))) (IntKind.wrap IntKind.i64 (getN (U.list b) (2 : Int) (2 : Int))) (IntKind.wrap IntKind.i64 (getN (U.list b) (8 : Int) (4 : Int))) (IntKind.wrap IntKind.u32 (IntKind.wrap IntKind.i64
  (getN (U.list b) (12 : Int) (4 : Int)))) (U.int k) then R [[U.i (0 : Int), U.i (0 : Int), U.i (0 : Int), U.i (0 : Int), U.i (0 : Int)], [U.i (3 : Int)]] else R [[U.i (IntKind.wrap IntKind.i64 (U.int (nth
  (U.i (0 : Int)) (U.list b) (Int.toNat (0 : Int))))), U.i (IntKind.wrap IntKind.i64 (getN (U.list b) (4 : Int) (4 : Int))), U.i (IntKind.wrap IntKind.i64 (getN (U.list b) (2 : Int) (2 : Int))), U.i (IntKind.wrap
  IntKind.i64 (getN (U.list b) (8 : Int) (4 : Int))), U.i (IntKind.wrap IntKind.u32 (IntKind.wrap IntKind.i64 (getN (U.list b) (12 : Int) (4 : Int))))], [U.i (0 : Int)]]) else False) (Alt ((nat_lit 2097153
  = nat_lit 2097153 ∧ nat_lit 0 = nat_lit 0 ∧ nat_lit 2097153 = nat_lit 2097153 ∧ (1 : Int) ≤ (4 : Int) ∧ (4 : Int) ≤ (4 : Int) ∧ List.length (U.list b) ≤ (1099511627776 : Nat)) ∧ Alt (bif decide ((0 : Int)
  ≤ (0 : Int) ∧ (0 : Int) < (↑(List.length (U.list b)) : Int)) then (fun T => Alt T T) ((nat_lit 2097153 = nat_lit 2097153 ∧ nat_lit 0 = nat_lit 0 ∧ nat_lit 2097153 = nat_lit 2097153 ∧ (1 : Int) ≤ (4 : Int)
  ∧ (4 : Int) ≤ (4 : Int) ∧ List.length (U.list b) ≤ (1099511627776 : Nat)) ∧ bif !mayR (IntKind.wrap IntKind.i64 (U.int (nth (U.i (0 : Int)) (U.list b) (Int.toNat (0 : Int))))) (IntKind.wrap IntKind.i64
  (getN (U.list b) (4 : Int) (4 : Int))) (IntKind.wrap IntKind.i64 (getN (U.list b) (2 : Int) (2 : Int))) (IntKind.wrap IntKind.i64 (getN (U.list b) (8 : Int) (4 : Int))) (IntKind.wrap IntKind.u32 (IntKind.wrap
  IntKind.i64 (getN (U.list b) (12 : Int) (4 : Int)))) (U.int k) then R [[U.i (0 : Int), U.i (0 : Int), U.i (0 : Int), U.i (0 : Int), U.i (0 : Int)], [U.i (3 : Int)]] else R [[U.i (IntKind.wrap IntKind.i64
  (U.int (nth (U.i (0 : Int)) (U.list b) (Int.toNat (0 : Int))))), U.i (IntKind.wrap IntKind.i64 (getN (U.list b) (4 : Int) (4 : Int))), U.i (IntKind.wrap IntKind.i64 (getN (U.list b) (2 : Int) (2 : Int))),
  U.i (IntKind.wrap IntKind.i64 (getN (U.list b) (8 : Int) (4 : Int))), U.i (IntKind.wrap IntKind.u32 (IntKind.wrap IntKind.i64 (getN (U.list b) (12 : Int) (4 : Int))))], [U.i (0 : Int)]]) else False) (Alt
  ((nat_lit 2097153 = nat_lit 2097153 ∧ nat_lit 0 = nat_lit 0 ∧ nat_lit 2097153 = nat_lit 2097153 ∧ (1 : Int) ≤ (4 : Int) ∧ (4 : Int) ≤ (4 : Int) ∧ List.length (U.list b) ≤ (1099511627776 : Nat)) ∧ (fun
  T => Alt T T) (bif decide ((0 : Int) ≤ (0 : Int) ∧ (0 : Int) < (↑(List.length (U.list b)) : Int)) then bif !mayR (IntKind.wrap IntKind.i64 (U.int (nth (U.i (0 : Int)) (U.list b) (Int.toNat (0 : Int)))))
  (IntKind.wrap IntKind.i64 (getN (U.list b) (4 : Int) (4 : Int))) (IntKind.wrap IntKind.i64 (getN (U.list b) (2 : Int) (2 : Int))) (IntKind.wrap IntKind.i64 (getN (U.list b) (8 : Int) (4 : Int))) (IntKind.wrap
  IntKind.u32 (IntKind.wrap IntKind.i64 (getN (U.list b) (12 : Int) (4 : Int)))) (U.int k) then R [[U.i (0 : Int), U.i (0 : Int), U.i (0 : Int), U.i (0 : Int), U.i (0 : Int)], [U.i (3 : Int)]] else R [[U.i
  (IntKind.wrap IntKind.i64 (U.int (nth (U.i (0 : Int)) (U.list b) (Int.toNat (0 : Int))))), U.i (IntKind.wrap IntKind.i64 (getN (U.list b) (4 : Int) (4 : Int))), U.i (IntKind.wrap IntKind.i64 (getN (U.list
  b) (2 : Int) (2 : Int))), U.i (IntKind.wrap IntKind.i64 (getN (U.list b) (8 : Int) (4 : Int))), U.i (IntKind.wrap IntKind.u32 (IntKind.wrap IntKind.i64 (getN (U.list b) (12 : Int) (4 : Int))))], [U.i (0
  : Int)]] else False)) (Alt (bif decide ((0 : Int) ≤ (0 : Int) ∧ (0 : Int) < (↑(List.length (U.list b)) : Int)) then (nat_lit 2097153 = nat_lit 2097153 ∧ nat_lit 0 = nat_lit 0 ∧ nat_lit 2097153 = nat_lit
  2097153 ∧ (1 : Int) ≤ (4 : Int) ∧ (4 : Int) ≤ (4 : Int) ∧ List.length (U.list b) ≤ (1099511627776 : Nat)) ∧ bif !mayR (IntKind.wrap IntKind.i64 (U.int (nth (U.i (0 : Int)) (U.list b) (Int.toNat (0 : Int)))))
  (IntKind.wrap IntKind.i64 (getN (U.list b) (4 : Int) (4 : Int))) (IntKind.wrap IntKind.i64 (getN (U.list b) (2 : Int) (2 : Int))) (IntKind.wrap IntKind.i64 (getN (U.list b) (8 : Int) (4 : Int))) (IntKind.wrap
  IntKind.u32 (IntKind.wrap IntKind.i64 (getN (U.list b) (12 : Int) (4 : Int)))) (U.int k) then R [[U.i (0 : Int), U.i (0 : Int), U.i (0 : Int), U.i (0 : Int), U.i (0 : Int)], [U.i (3 : Int)]] else R [[U.i
  (IntKind.wrap IntKind.i64 (U.int (nth (U.i (0 : Int)) (U.list b) (Int.toNat (0 : Int))))), U.i (IntKind.wrap IntKind.i64 (getN (U.list b) (4 : Int) (4 : Int))), U.i (IntKind.wrap IntKind.i64 (getN (U.list
  b) (2 : Int) (2 : Int))), U.i (IntKind.wrap IntKind.i64 (getN (U.list b) (8 : Int) (4 : Int))), U.i (IntKind.wrap IntKind.u32 (IntKind.wrap IntKind.i64 (getN (U.list b) (12 : Int) (4 : Int))))], [U.i (0
  : Int)]] else False) ((nat_lit 2097153 = nat_lit 2097153 ∧ nat_lit 0 = nat_lit 0 ∧ nat_lit 2097153 = nat_lit 2097153 ∧ (1 : Int) ≤ (4 : Int) ∧ (4 : Int) ≤ (4 : Int) ∧ List.length (U.list b) ≤ (1099511627776
  : Nat)) ∧ bif decide ((0 : Int) ≤ (0 : Int) ∧ (0 : Int) < (↑(List.length (U.list b)) : Int)) then bif !mayR (IntKind.wrap IntKind.i64 (U.int (nth (U.i (0 : Int)) (U.list b) (Int.toNat (0 : Int))))) (IntKind.wrap
  IntKind.i64 (getN (U.list b) (4 : Int) (4 : Int))) (IntKind.wrap IntKind.i64 (getN (U.list b) (2 : Int) (2 : Int))) (IntKind.wrap IntKind.i64 (getN (U.list b) (8 : Int) (4 : Int))) (IntKind.wrap IntKind.u32
  (IntKind.wrap IntKind.i64 (getN (U.list b) (12 : Int) (4 : Int)))) (U.int k) then R [[U.i (0 : Int), U.i (0 : Int), U.i (0 : Int), U.i (0 : Int), U.i (0 : Int)], [U.i (3 : Int)]] else R [[U.i (IntKind.wrap
  IntKind.i64 (U.int (nth (U.i (0 : Int)) (U.list b) (Int.toNat (0 : Int))))), U.i (IntKind.wrap IntKind.i64 (getN (U.list b) (4 : Int) (4 : Int))), U.i (IntKind.wrap IntKind.i64 (getN (U.list b) (2 : Int)
  (2 : Int))), U.i (IntKind.wrap IntKind.i64 (getN (U.list b) (8 : Int) (4 : Int))), U.i (IntKind.wrap IntKind.u32 (IntKind.wrap IntKind.i64 (getN (U.list b) (12 : Int) (4 : Int))))], [U.i (0 : Int)]] else
  False)))) (Alt (bif decide ((0 : Int) ≤ (0 : Int) ∧ (0 : Int) < (↑(List.length (U.list b)) : Int)) then (nat_lit 2097153 = nat_lit 2097153 ∧ nat_lit 0 = nat_lit 0 ∧ nat_lit 2097153 = nat_lit 2097153 ∧
  (1 : Int) ≤ (4 : Int) ∧ (4 : Int) ≤ (4 : Int) ∧ List.length (U.list b) ≤ (1099511627776 : Nat)) ∧ (nat_lit 2097153 = nat_lit 2097153 ∧ nat_lit 0 = nat_lit 0 ∧ nat_lit 2097153 = nat_lit 2097153 ∧ (1 : Int)
  ≤ (4 : Int) ∧ (4 : Int) ≤ (4 : Int) ∧ List.length (U.list b) ≤ (1099511627776 : Nat)) ∧ bif !mayR (IntKind.wrap IntKind.i64 (U.int (nth (U.i (0 : Int)) (U.list b) (Int.toNat (0 : Int))))) (IntKind.wrap
  IntKind.i64 (getN (U.list b) (4 : Int) (4 : Int))) (IntKind.wrap IntKind.i64 (getN (U.list b) (2 : Int) (2 : Int))) (IntKind.wrap IntKind.i64 (getN (U.list b) (8 : Int) (4 : Int))) (IntKind.wrap IntKind.u32
  (IntKind.wrap IntKind.i64 (getN (U.list b) (12 : Int) (4 : Int)))) (U.int k) then R [[U.i (0 : Int), U.i (0 : Int), U.i (0 : Int), U.i (0 : Int), U.i (0 : Int)], [U.i (3 : Int)]] else R [[U.i (IntKind.wrap
  IntKind.i64 (U.int (nth (U.i (0 : Int)) (U.list b) (Int.toNat (0 : Int))))), U.i (IntKind.wrap IntKind.i64 (getN (U.list b) (4 : Int) (4 : Int))), U.i (IntKind.wrap IntKind.i64 (getN (U.list b) (2 : Int)
  (2 : Int))), U.i (IntKind.wrap IntKind.i64 (getN (U.list b) (8 : Int) (4 : Int))), U.i (IntKind.wrap IntKind.u32 (IntKind.wrap IntKind.i64 (getN (U.list b) (12 : Int) (4 : Int))))], [U.i (0 : Int)]] else
  False) ((nat_lit 2097153 = nat_lit 2097153 ∧ nat_lit 0 = nat_lit 0 ∧ nat_lit 2097153 = nat_lit 2097153 ∧ (1 : Int) ≤ (4 : Int) ∧ (4 : Int) ≤ (4 : Int) ∧ List.length (U.list b) ≤ (1099511627776 : Nat))
  ∧ Alt (bif decide ((0 : Int) ≤ (0 : Int) ∧ (0 : Int) < (↑(List.length (U.list b)) : Int)) then (nat_lit 2097153 = nat_lit 2097153 ∧ nat_lit 0 = nat_lit 0 ∧ nat_lit 2097153 = nat_lit 2097153 ∧ (1 : Int)
  ≤ (4 : Int) ∧ (4 : Int) ≤ (4 : Int) ∧ List.length (U.list b) ≤ (1099511627776 : Nat)) ∧ bif !mayR (IntKind.wrap IntKind.i64 (U.int (nth (U.i (0 : Int)) (U.list b) (Int.toNat (0 : Int))))) (IntKind.wrap
  IntKind.i64 (getN (U.list b) (4 : Int) (4 : Int))) (IntKind.wrap IntKind.i64 (getN (U.list b) (2 : Int) (2 : Int))) (IntKind.wrap IntKind.i64 (getN (U.list b) (8 : Int) (4 : Int))) (IntKind.wrap IntKind.u32
  (IntKind.wrap IntKind.i64 (getN (U.list b) (12 : Int) (4 : Int)))) (U.int k) then R [[U.i (0 : Int), U.i (0 : Int), U.i (0 : Int), U.i (0 : Int), U.i (0 : Int)], [U.i (3 : Int)]] else R [[U.i (IntKind.wrap
  IntKind.i64 (U.int (nth (U.i (0 : Int)) (U.list b) (Int.toNat (0 : Int))))), U.i (IntKind.wrap IntKind.i64 (getN (U.list b) (4 : Int) (4 : Int))), U.i (IntKind.wrap IntKind.i64 (getN (U.list b) (2 : Int)
  (2 : Int))), U.i (IntKind.wrap IntKind.i64 (getN (U.list b) (8 : Int) (4 : Int))), U.i (IntKind.wrap IntKind.u32 (IntKind.wrap IntKind.i64 (getN (U.list b) (12 : Int) (4 : Int))))], [U.i (0 : Int)]] else
  False) ((nat_lit 2097153 = nat_lit 2097153 ∧ nat_lit 0 = nat_lit 0 ∧ nat_lit 2097153 = nat_lit 2097153 ∧ (1 : Int) ≤ (4 : Int) ∧ (4 : Int) ≤ (4 : Int) ∧ List.length (U.list b) ≤ (1099511627776 : Nat))
  ∧ bif decide ((0 : Int) ≤ (0 : Int) ∧ (0 : Int) < (↑(List.length (U.list b)) : Int)) then bif !mayR (IntKind.wrap IntKind.i64 (U.int (nth (U.i (0 : Int)) (U.list b) (Int.toNat (0 : Int))))) (IntKind.wrap
  IntKind.i64 (getN (U.list b) (4 : Int) (4 : Int))) (IntKind.wrap IntKind.i64 (getN (U.list b) (2 : Int) (2 : Int))) (IntKind.wrap IntKind.i64 (getN (U.list b) (8 : Int) (4 : Int))) (IntKind.wrap IntKind.u32
  (IntKind.wrap IntKind.i64 (getN (U.list b) (12 : Int) (4 : Int)))) (U.int k) then R [[U.i (0 : Int), U.i (0 : Int), U.i (0 : Int), U.i (0 : Int), U.i (0 : Int)], [U.i (3 : Int)]] else R [[U.i (IntKind.wrap
  IntKind.i64 (U.int (nth (U.i (0 : Int)) (U.list b) (Int.toNat (0 : Int))))), U.i (IntKind.wrap IntKind.i64 (getN (U.list b) (4 : Int) (4 : Int))), U.i (IntKind.wrap IntKind.i64 (getN (U.list b) (2 : Int)
  (2 : Int))), U.i (IntKind.wrap IntKind.i64 (getN (U.list b) (8 : Int) (4 : Int))), U.i (IntKind.wrap IntKind.u32 (IntKind.wrap IntKind.i64 (getN (U.list b) (12 : Int) (4 : Int))))], [U.i (0 : Int)]] else
  False))))) (Alt (bif decide ((0 : Int) ≤ (0 : Int) ∧ (0 : Int) < (↑(List.length (U.list b)) : Int)) then (nat_lit 2097153 = nat_lit 2097153 ∧ nat_lit 0 = nat_lit 0 ∧ nat_lit 2097153 = nat_lit 2097153 ∧
  (1 : Int) ≤ (4 : Int) ∧ (4 : Int) ≤ (4 : Int) ∧ List.length (U.list b) ≤ (1099511627776 : Nat)) ∧ (nat_lit 2097153 = nat_lit 2097153 ∧ nat_lit 0 = nat_lit 0 ∧ nat_lit 2097153 = nat_lit 2097153 ∧ (1 : Int)
  ≤ (4 : Int) ∧ (4 : Int) ≤ (4 : Int) ∧ List.length (U.list b) ≤ (1099511627776 : Nat)) ∧ (nat_lit 2097153 = nat_lit 2097153 ∧ nat_lit 0 = nat_lit 0 ∧ nat_lit 2097153 = nat_lit 2097153 ∧ (1 : Int) ≤ (4 :
  Int) ∧ (4 : Int) ≤ (4 : Int) ∧ List.length (U.list b) ≤ (1099511627776 : Nat)) ∧ bif !mayR (IntKind.wrap IntKind.i64 (U.int (nth (U.i (0 : Int)) (U.list b) (Int.toNat (0 : Int))))) (IntKind.wrap IntKind.i64
  (getN (U.list b) (4 : Int) (4 : Int))) (IntKind.wrap IntKind.i64 (getN (U.list b) (2 : Int) (2 : Int))) (IntKind.wrap IntKind.i64 (getN (U.list b) (8 : Int) (4 : Int))) (IntKind.wrap IntKind.u32 (IntKind.wrap
  IntKind.i64 (getN (U.list b) (12 : Int) (4 : Int)))) (U.int k) then R [[U.i (0 : Int), U.i (0 : Int), U.i (0 : Int), U.i (0 : Int), U.i (0 : Int)], [U.i (3 : Int)]] else R [[U.i (IntKind.wrap IntKind.i64
  (U.int (nth (U.i (0 : Int)) (U.list b) (Int.toNat (0 : Int))))), U.i (IntKind.wrap IntKind.i64 (getN (U.list b) (4 : Int) (4 : Int))), U.i (IntKind.wrap IntKind.i64 (getN (U.list b) (2 : Int) (2 : Int))),
  U.i (IntKind.wrap IntKind.i64 (getN (U.list b) (8 : Int) (4 : Int))), U.i (IntKind.wrap IntKind.u32 (IntKind.wrap IntKind.i64 (getN (U.list b) (12 : Int) (4 : Int))))], [U.i (0 : Int)]] else False) ((nat_lit
  2097153 = nat_lit 2097153 ∧ nat_lit 0 = nat_lit 0 ∧ nat_lit 2097153 = nat_lit 2097153 ∧ (1 : Int) ≤ (4 : Int) ∧ (4 : Int) ≤ (4 : Int) ∧ List.length (U.list b) ≤ (1099511627776 : Nat)) ∧ Alt (bif decide
  ((0 : Int) ≤ (0 : Int) ∧ (0 : Int) < (↑(List.length (U.list b)) : Int)) then (nat_lit 2097153 = nat_lit 2097153 ∧ nat_lit 0 = nat_lit 0 ∧ nat_lit 2097153 = nat_lit 2097153 ∧ (1 : Int) ≤ (4 : Int) ∧ (4
  : Int) ≤ (4 : Int) ∧ List.length (U.list b) ≤ (1099511627776 : Nat)) ∧ (nat_lit 2097153 = nat_lit 2097153 ∧ nat_lit 0 = nat_lit 0 ∧ nat_lit 2097153 = nat_lit 2097153 ∧ (1 : Int) ≤ (4 : Int) ∧ (4 : Int)
  ≤ (4 : Int) ∧ List.length (U.list b) ≤ (1099511627776 : Nat)) ∧ bif !mayR (IntKind.wrap IntKind.i64 (U.int (nth (U.i (0 : Int)) (U.list b) (Int.toNat (0 : Int))))) (IntKind.wrap IntKind.i64 (getN (U.list
  b) (4 : Int) (4 : Int))) (IntKind.wrap IntKind.i64 (getN (U.list b) (2 : Int) (2 : Int))) (IntKind.wrap IntKind.i64 (getN (U.list b) (8 : Int) (4 : Int))) (IntKind.wrap IntKind.u32 (IntKind.wrap IntKind.i64
  (getN (U.list b) (12 : Int) (4 : Int)))) (U.int k) then R [[U.i (0 : Int), U.i (0 : Int), U.i (0 : Int), U.i (0 : Int), U.i (0 : Int)], [U.i (3 : Int)]] else R [[U.i (IntKind.wrap IntKind.i64 (U.int (nth
  (U.i (0 : Int)) (U.list b) (Int.toNat (0 : Int))))), U.i (IntKind.wrap IntKind.i64 (getN (U.list b) (4 : Int) (4 : Int))), U.i (IntKind.wrap IntKind.i64 (getN (U.list b) (2 : Int) (2 : Int))), U.i (IntKind.wrap
  IntKind.i64 (getN (U.list b) (8 : Int) (4 : Int))), U.i (IntKind.wrap IntKind.u32 (IntKind.wrap IntKind.i64 (getN (U.list b) (12 : Int) (4 : Int))))], [U.i (0 : Int)]] else False) ((nat_lit 2097153 = nat_lit
  2097153 ∧ nat_lit 0 = nat_lit 0 ∧ nat_lit 2097153 = nat_lit 2097153 ∧ (1 : Int) ≤ (4 : Int) ∧ (4 : Int) ≤ (4 : Int) ∧ List.length (U.list b) ≤ (1099511627776 : Nat)) ∧ Alt (bif decide ((0 : Int) ≤ (0 :
  Int) ∧ (0 : Int) < (↑(List.length (U.list b)) : Int)) then (nat_lit 2097153 = nat_lit 2097153 ∧ nat_lit 0 = nat_lit 0 ∧ nat_lit 2097153 = nat_lit 2097153 ∧ (1 : Int) ≤ (4 : Int) ∧ (4 : Int) ≤ (4 : Int)
  ∧ List.length (U.list b) ≤ (1099511627776 : Nat)) ∧ bif !mayR (IntKind.wrap IntKind.i64 (U.int (nth (U.i (0 : Int)) (U.list b) (Int.toNat (0 : Int))))) (IntKind.wrap IntKind.i64 (getN (U.list b) (4 : Int)
  (4 : Int))) (IntKind.wrap IntKind.i64 (getN (U.list b) (2 : Int) (2 : Int))) (IntKind.wrap IntKind.i64 (getN (U.list b) (8 : Int) (4 : Int))) (IntKind.wrap IntKind.u32 (IntKind.wrap IntKind.i64 (getN (U.list
  b) (12 : Int) (4 : Int)))) (U.int k) then R [[U.i (0 : Int), U.i (0 : Int), U.i (0 : Int), U.i (0 : Int), U.i (0 : Int)], [U.i (3 : Int)]] else R [[U.i (IntKind.wrap IntKind.i64 (U.int (nth (U.i (0 : Int))
  (U.list b) (Int.toNat (0 : Int))))), U.i (IntKind.wrap IntKind.i64 (getN (U.list b) (4 : Int) (4 : Int))), U.i (IntKind.wrap IntKind.i64 (getN (U.list b) (2 : Int) (2 : Int))), U.i (IntKind.wrap IntKind.i64
  (getN (U.list b) (8 : Int) (4 : Int))), U.i (IntKind.wrap IntKind.u32 (IntKind.wrap IntKind.i64 (getN (U.list b) (12 : Int) (4 : Int))))], [U.i (0 : Int)]] else False) ((nat_lit 2097153 = nat_lit 2097153
  ∧ nat_lit 0 = nat_lit 0 ∧ nat_lit 2097153 = nat_lit 2097153 ∧ (1 : Int) ≤ (4 : Int) ∧ (4 : Int) ≤ (4 : Int) ∧ List.length (U.list b) ≤ (1099511627776 : Nat)) ∧ bif decide ((0 : Int) ≤ (0 : Int) ∧ (0 :
  Int) < (↑(List.length (U.list b)) : Int)) then bif !mayR (IntKind.wrap IntKind.i64 (U.int (nth (U.i (0 : Int)) (U.list b) (Int.toNat (0 : Int))))) (IntKind.wrap IntKind.i64 (getN (U.list b) (4 : Int) (4
  : Int))) (IntKind.wrap IntKind.i64 (getN (U.list b) (2 : Int) (2 : Int))) (IntKind.wrap IntKind.i64 (getN (U.list b) (8 : Int) (4 : Int))) (IntKind.wrap IntKind.u32 (IntKind.wrap IntKind.i64 (getN (U.list
  b) (12 : Int) (4 : Int)))) (U.int k) then R [[U.i (0 : Int), U.i (0 : Int), U.i (0 : Int), U.i (0 : Int), U.i (0 : Int)], [U.i (3 : Int)]] else R [[U.i (IntKind.wrap IntKind.i64 (U.int (nth (U.i (0 : Int))
  (U.list b) (Int.toNat (0 : Int))))), U.i (IntKind.wrap IntKind.i64 (getN (U.list b) (4 : Int) (4 : Int))), U.i (IntKind.wrap IntKind.i64 (getN (U.list b) (2 : Int) (2 : Int))), U.i (IntKind.wrap IntKind.i64
  (getN (U.list b) (8 : Int) (4 : Int))), U.i (IntKind.wrap IntKind.u32 (IntKind.wrap IntKind.i64 (getN (U.list b) (12 : Int) (4 : Int))))], [U.i (0 : Int)]] else False)))))) (Alt (bif decide ((0 : Int)
  ≤ (0 : Int) ∧ (0 : Int) < (↑(List.length (U.list b)) : Int)) then (nat_lit 2097153 = nat_lit 2097153 ∧ nat_lit 0 = nat_lit 0 ∧ nat_lit 2097153 = nat_lit 2097153 ∧ (1 : Int) ≤ (2 : Int) ∧ (2 : Int) ≤ (4
  : Int) ∧ List.length (U.list b) ≤ (1099511627776 : Nat)) ∧ (nat_lit 2097153 = nat_lit 2097153 ∧ nat_lit 0 = nat_lit 0 ∧ nat_lit 2097153 = nat_lit 2097153 ∧ (1 : Int) ≤ (4 : Int) ∧ (4 : Int) ≤ (4 : Int)
  ∧ List.length (U.list b) ≤ (1099511627776 : Nat)) ∧ (nat_lit 2097153 = nat_lit 2097153 ∧ nat_lit 0 = nat_lit 0 ∧ nat_lit 2097153 = nat_lit 2097153 ∧ (1 : Int) ≤ (4 : Int) ∧ (4 : Int) ≤ (4 : Int) ∧ List.length
  (U.list b) ≤ (1099511627776 : Nat)) ∧ (nat_lit 2097153 = nat_lit 2097153 ∧ nat_lit 0 = nat_lit 0 ∧ nat_lit 2097153 = nat_lit 2097153 ∧ (1 : Int) ≤ (4 : Int) ∧ (4 : Int) ≤ (4 : Int) ∧ List.length (U.list
  b) ≤ (1099511627776 : Nat)) ∧ bif !mayR (IntKind.wrap IntKind.i64 (U.int (nth (U.i (0 : Int)) (U.list b) (Int.toNat (0 : Int))))) (IntKind.wrap IntKind.i64 (getN (U.list b) (4 : Int) (4 : Int))) (IntKind.wrap
  IntKind.i64 (getN (U.list b) (2 : Int) (2 : Int))) (IntKind.wrap IntKind.i64 (getN (U.list b) (8 : Int) (4 : Int))) (IntKind.wrap IntKind.u32 (IntKind.wrap IntKind.i64 (getN (U.list b) (12 : Int) (4 :
  Int)))) (U.int k) then R [[U.i (0 : Int), U.i (0 : Int), U.i (0 : Int), U.i (0 : Int), U.i (0 : Int)], [U.i (3 : Int)]] else R [[U.i (IntKind.wrap IntKind.i64 (U.int (nth (U.i (0 : Int)) (U.list b) (Int.toNat
  (0 : Int))))), U.i (IntKind.wrap IntKind.i64 (getN (U.list b) (4 : Int) (4 : Int))), U.i (IntKind.wrap IntKind.i64 (getN (U.list b) (2 : Int) (2 : Int))), U.i (IntKind.wrap IntKind.i64 (getN (U.list b)
  (8 : Int) (4 : Int))), U.i (IntKind.wrap IntKind.u32 (IntKind.wrap IntKind.i64 (getN (U.list b) (12 : Int) (4 : Int))))], [U.i (0 : Int)]] else False) ((nat_lit 2097153 = nat_lit 2097153 ∧ nat_lit 0 =
  nat_lit 0 ∧ nat_lit 2097153 = nat_lit 2097153 ∧ (1 : Int) ≤ (2 : Int) ∧ (2 : Int) ≤ (4 : Int) ∧ List.length (U.list b) ≤ (1099511627776 : Nat)) ∧ Alt (bif decide ((0 : Int) ≤ (0 : Int) ∧ (0 : Int) < (↑(List.length
  (U.list b)) : Int)) then (nat_lit 2097153 = nat_lit 2097153 ∧ nat_lit 0 = nat_lit 0 ∧ nat_lit 2097153 = nat_lit 2097153 ∧ (1 : Int) ≤ (4 : Int) ∧ (4 : Int) ≤ (4 : Int) ∧ List.length (U.list b) ≤ (1099511627776
  : Nat)) ∧ (nat_lit 2097153 = nat_lit 2097153 ∧ nat_lit 0 = nat_lit 0 ∧ nat_lit 2097153 = nat_lit 2097153 ∧ (1 : Int) ≤ (4 : Int) ∧ (4 : Int) ≤ (4 : Int) ∧ List.length (U.list b) ≤ (1099511627776 : Nat))
  ∧ (nat_lit 2097153 = nat_lit 2097153 ∧ nat_lit 0 = nat_lit 0 ∧ nat_lit 2097153 = nat_lit 2097153 ∧ (1 : Int) ≤ (4 : Int) ∧ (4 : Int) ≤ (4 : Int) ∧ List.length (U.list b) ≤ (1099511627776 : Nat)) ∧ bif
  !mayR (IntKind.wrap IntKind.i64 (U.int (nth (U.i (0 : Int)) (U.list b) (Int.toNat (0 : Int))))) (IntKind.wrap IntKind.i64 (getN (U.list b) (4 : Int) (4 : Int))) (IntKind.wrap IntKind.i64 (getN (U.list
  b) (2 : Int) (2 : Int))) (IntKind.wrap IntKind.i64 (getN (U.list b) (8 : Int) (4 : Int))) (IntKind.wrap IntKind.u32 (IntKind.wrap IntKind.i64 (getN (U.list b) (12 : Int) (4 : Int)))) (U.int k) then R [[U.i
  (0 : Int), U.i (0 : Int), U.i (0 : Int), U.i (0 : Int), U.i (0 : Int)], [U.i (3 : Int)]] else R [[U.i (IntKind.wrap IntKind.i64 (U.int (nth (U.i (0 : Int)) (U.list b) (Int.toNat (0 : Int))))), U.i (IntKind.wrap
  IntKind.i64 (getN (U.list b) (4 : Int) (4 : Int))), U.i (IntKind.wrap IntKind.i64 (getN (U.list b) (2 : Int) (2 : Int))), U.i (IntKind.wrap IntKind.i64 (getN (U.list b) (8 : Int) (4 : Int))), U.i (IntKind.wrap
  IntKind.u32 (IntKind.wrap IntKind.i64 (getN (U.list b) (12 : Int) (4 : Int))))], [U.i (0 : Int)]] else False) ((nat_lit 2097153 = nat_lit 2097153 ∧ nat_lit 0 = nat_lit 0 ∧ nat_lit 2097153 = nat_lit 2097153
  ∧ (1 : Int) ≤ (4 : Int) ∧ (4 : Int) ≤ (4 : Int) ∧ List.length (U.list b) ≤ (1099511627776 : Nat)) ∧ Alt (bif decide ((0 : Int) ≤ (0 : Int) ∧ (0 : Int) < (↑(List.length (U.list b)) : Int)) then (nat_lit
  2097153 = nat_lit 2097153 ∧ nat_lit 0 = nat_lit 0 ∧ nat_lit 2097153 = nat_lit 2097153 ∧ (1 : Int) ≤ (4 : Int) ∧ (4 : Int) ≤ (4 : Int) ∧ List.length (U.list b) ≤ (1099511627776 : Nat)) ∧ (nat_lit 2097153
  = nat_lit 2097153 ∧ nat_lit 0 = nat_lit 0 ∧ nat_lit 2097153 = nat_lit 2097153 ∧ (1 : Int) ≤ (4 : Int) ∧ (4 : Int) ≤ (4 : Int) ∧ List.length (U.list b) ≤ (1099511627776 : Nat)) ∧ bif !mayR (IntKind.wrap
  IntKind.i64 (U.int (nth (U.i (0 : Int)) (U.list b) (Int.toNat (0 : Int))))) (IntKind.wrap IntKind.i64 (getN (U.list b) (4 : Int) (4 : Int))) (IntKind.wrap IntKind.i64 (getN (U.list b) (2 : Int) (2 : Int)))
  (IntKind.wrap IntKind.i64 (getN (U.list b) (8 : Int) (4 : Int))) (IntKind.wrap IntKind.u32 (IntKind.wrap IntKind.i64 (getN (U.list b) (12 : Int) (4 : Int)))) (U.int k) then R [[U.i (0 : Int), U.i (0 :
  Int), U.i (0 : Int), U.i (0 : Int), U.i (0 : Int)], [U.i (3 : Int)]] else R [[U.i (IntKind.wrap IntKind.i64 (U.int (nth (U.i (0 : Int)) (U.list b) (Int.toNat (0 : Int))))), U.i (IntKind.wrap IntKind.i64
  (getN (U.list b) (4 : Int) (4 : Int))), U.i (IntKind.wrap IntKind.i64 (getN (U.list b) (2 : Int) (2 : Int))), U.i (IntKind.wrap IntKind.i64 (getN (U.list b) (8 : Int) (4 : Int))), U.i (IntKind.wrap IntKind.u32
  (IntKind.wrap IntKind.i64 (getN (U.list b) (12 : Int) (4 : Int))))], [U.i (0 : Int)]] else False) ((nat_lit 2097153 = nat_lit 2097153 ∧ nat_lit 0 = nat_lit 0 ∧ nat_lit 2097153 = nat_lit 2097153 ∧ (1 :
  Int) ≤ (4 : Int) ∧ (4 : Int) ≤ (4 : Int) ∧ List.length (U.list b) ≤ (1099511627776 : Nat)) ∧ Alt (bif decide ((0 : Int) ≤ (0 : Int) ∧ (0 : Int) < (↑(List.length (U.list b)) : Int)) then (nat_lit 2097153
  = nat_lit 2097153 ∧ nat_lit 0 = nat_lit 0 ∧ nat_lit 2097153 = nat_lit 2097153 ∧ (1 : Int) ≤ (4 : Int) ∧ (4 : Int) ≤ (4 : Int) ∧ List.length (U.list b) ≤ (1099511627776 : Nat)) ∧ bif !mayR (IntKind.wrap
  IntKind.i64 (U.int (nth (U.i (0 : Int)) (U.list b) (Int.toNat (0 : Int))))) (IntKind.wrap IntKind.i64 (getN (U.list b) (4 : Int) (4 : Int))) (IntKind.wrap IntKind.i64 (getN (U.list b) (2 : Int) (2 : Int)))
  (IntKind.wrap IntKind.i64 (getN (U.list b) (8 : Int) (4 : Int))) (IntKind.wrap IntKind.u32 (IntKind.wrap IntKind.i64 (getN (U.list b) (12 : Int) (4 : Int)))) (U.int k) then R [[U.i (0 : Int), U.i (0 :
  Int), U.i (0 : Int), U.i (0 : Int), U.i (0 : Int)], [U.i (3 : Int)]] else R [[U.i (IntKind.wrap IntKind.i64 (U.int (nth (U.i (0 : Int)) (U.list b) (Int.toNat (0 : Int))))), U.i (IntKind.wrap IntKind.i64
  (getN (U.list b) (4 : Int) (4 : Int))), U.i (IntKind.wrap IntKind.i64 (getN (U.list b) (2 : Int) (2 : Int))), U.i (IntKind.wrap IntKind.i64 (getN (U.list b) (8 : Int) (4 : Int))), U.i (IntKind.wrap IntKind.u32
  (IntKind.wrap IntKind.i64 (getN (U.list b) (12 : Int) (4 : Int))))], [U.i (0 : Int)]] else False) ((nat_lit 2097153 = nat_lit 2097153 ∧ nat_lit 0 = nat_lit 0 ∧ nat_lit 2097153 = nat_lit 2097153 ∧ (1 :
  Int) ≤ (4 : Int) ∧ (4 : Int) ≤ (4 : Int) ∧ List.length (U.list b) ≤ (1099511627776 : Nat)) ∧ bif decide ((0 : Int) ≤ (0 : Int) ∧ (0 : Int) < (↑(List.length (U.list b)) : Int)) then bif !mayR (IntKind.wrap
  IntKind.i64 (U.int (nth (U.i (0 : Int)) (U.list b) (Int.toNat (0 : Int))))) (IntKind.wrap IntKind.i64 (getN (U.list b) (4 : Int) (4 : Int))) (IntKind.wrap IntKind.i64 (getN (U.list b) (2 : Int) (2 : Int)))
  (IntKind.wrap IntKind.i64 (getN (U.list b) (8 : Int) (4 : Int))) (IntKind.wrap IntKind.u32 (IntKind.wrap IntKind.i64 (getN (U.list b) (12 : Int) (4 : Int)))) (U.int k) then R [[U.i (0 : Int), U.i (0 :
  Int), U.i (0 : Int), U.i (0 : Int), U.i (0 : Int)], [U.i (3 : Int)]] else R [[U.i (IntKind.wrap IntKind.i64 (U.int (nth (U.i (0 : Int)) (U.list b) (Int.toNat (0 : Int))))), U.i (IntKind.wrap IntKind.i64
  (getN (U.list b) (4 : Int) (4 : Int))), U.i (IntKind.wrap IntKind.i64 (getN (U.list b) (2 : Int) (2 : Int))), U.i (IntKind.wrap IntKind.i64 (getN (U.list b) (8 : Int) (4 : Int))), U.i (IntKind.wrap IntKind.u32
  (IntKind.wrap IntKind.i64 (getN (U.list b) (12 : Int) (4 : Int))))], [U.i (0 : Int)]] else False)))))) else False) := by kernel_rfl
theorem eget_tree (R : RF) (b k : U) : (run egetC Try.f81 [[b], [k]] R) = (bif (↑(List.length (U.list b)) : Int) != (16 : Int) then R [[U.i (0 : Int), U.i (0 : Int), U.i (0 : Int), U.i (0 : Int), U.i (0 : Int)], [U.i (3 : Int)]] else bif decide ((0 : Int) ≤ (1 : Int) ∧ (1 : Int) < (↑(List.length (U.list b)) : Int)) then bif U.int (nth (U.i (0 : Int)) (U.list b) (Int.toNat (1 : Int))) != (0 : Int) then R [[U.i (0 : Int), U.i (0 : Int), U.i (0 : Int), U.i (0 : Int), U.i (0 : Int)], [U.i (3 : Int)]] else Alt (bif decide ((0 : Int) ≤ (0 : Int) ∧ (0 : Int) < (↑(List.length (U.list b)) : Int)) then Alt ((nat_lit 2097153 = nat_lit 2097153 ∧ nat_lit 0 = nat_lit 0 ∧ nat_lit 2097153 = nat_lit 2097153 ∧ (1 : Int) ≤ (2 : Int) ∧ (2 : Int) ≤ (4 : Int) ∧ List.length (U.list b) ≤ (1099511627776 : Nat)) ∧ Alt ((nat_lit 2097153 = nat_lit 2097153 ∧ nat_lit 0 = nat_lit 0 ∧ nat_lit 2097153 = nat_lit 2097153 ∧ (1 : Int) ≤ (4 : Int) ∧ (4 : Int) ≤ (4 : Int) ∧ List.length (U.list b) ≤ (1099511627776 : Nat)) ∧ Alt ((nat_lit 2097153 = nat_lit 2097153 ∧ nat_lit 0 = nat_lit 0 ∧ nat_lit 2097153 = nat_lit 2097153 ∧ (1 : Int) ≤ (4 : Int) ∧ (4 : Int) ≤ (4 : Int) ∧ List.length (U.list b) ≤ (1099511627776 : Nat)) ∧ ((nat_lit 2097153 = nat_lit 2097153 ∧ nat_lit 0 = nat_lit 0 ∧ nat_lit 2097153 = nat_lit 2097153 ∧ (1 : Int) ≤ (4 : Int) ∧ (4 : Int) ≤ (4 : Int) ∧ List.length (U.list b) ≤ (1099511627776 : Nat)) ∧ bif !mayR (IntKind.wrap IntKind.i64 (U.int (nth (U.i (0 : Int)) (U.list b) (Int.toNat (0 : Int))))) (IntKind.wrap IntKind.i64 (getN (U.list b) (4 : Int) (4 : Int))) (IntKind.wrap IntKind.i64 (getN (U.list b) (2 : Int) (2 : Int))) (IntKind.wrap IntKind.i64 (getN (U.list b) (8 : Int) (4 : Int))) (IntKind.wrap IntKind.u32 (IntKind.wrap IntKind.i64 (getN (U.list b) (12 : Int) (4 : Int)))) (U.int k) then R [[U.i (0 : Int), U.i (0 : Int), U.i (0 : Int), U.i (0 : Int), U.i (0 : Int)], [U.i (3 : Int)]] else R [[U.i (IntKind.wrap IntKind.i64 (U.int (nth (U.i (0 : Int)) (U.list b) (Int.toNat (0 : Int))))), U.i (IntKind.wrap IntKind.i64 (getN (U.list b) (4 : Int) (4 : Int))), U.i (IntKind.wrap IntKind.i64 (getN (U.list b) (2 : Int) (2 : Int))), U.i (IntKind.wrap IntKind.i64 (getN (U.list b) (8 : Int) (4 : Int))), U.i (IntKind.wrap IntKind.u32 (IntKind.wrap IntKind.i64 (getN (U.list b) (12 : Int) (4 : Int))))], [U.i (0 : Int)]])) ((nat_lit 2097153 = nat_lit 2097153 ∧ nat_lit 0 = nat_lit 0 ∧ nat_lit 2097153 = nat_lit 2097153 ∧ (1 : Int) ≤ (4 : Int) ∧ (4 : Int) ≤ (4 : Int) ∧ List.length (U.list b) ≤ (1099511627776 : Nat)) ∧ (nat_lit 2097153 = nat_lit 2097153 ∧ nat_lit 0 = nat_lit 0 ∧ nat_lit 2097153 = nat_lit 2097153 ∧ (1 : Int) ≤ (4 : Int) ∧ (4 : Int) ≤ (4 : Int) ∧ List.length (U.list b) ≤ (1099511627776 : Nat)) ∧ bif !mayR (IntKind.wrap IntKind.i64 (U.int (nth (U.i (0 : Int)) (U.list b) (Int.toNat (0 : Int))))) (IntKind.wrap IntKind.i64 (getN (U.list b) (4 : Int) (4 : Int))) (IntKind.wrap IntKind.i64 (getN (U.list b) (2 : Int) (2 : Int))) (IntKind.wrap IntKind.i64 (getN (U.list b) (8 : Int) (4 : Int))) (IntKind.wrap IntKind.u32 (IntKind.wrap IntKind.i64 (getN (U.list b) (12 : Int) (4 : Int)))) (U.int k) then R [[U.i (0 : Int), U.i (0 : Int), U.i (0 : Int), U.i (0 : Int), U.i (0 : Int)], [U.i (3 : Int)]] else R [[U.i (IntKind.wrap IntKind.i64 (U.int (nth (U.i (0 : Int)) (U.list b) (Int.toNat (0 : Int))))), U.i (IntKind.wrap IntKind.i64 (getN (U.list b) (4 : Int) (4 : Int))), U.i (IntKind.wrap IntKind.i64 (getN (U.list b) (2 : Int) (2 : Int))), U.i (IntKind.wrap IntKind.i64 (getN (U.list b) (8 : Int) (4 : Int))), U.i (IntKind.wrap IntKind.u32 (IntKind.wrap IntKind.i64 (getN (U.list b) (12 : Int) (4 : Int))))], [U.i (0 : Int)]])) ((nat_lit 2097153 = nat_lit 2097153 ∧ nat_lit 0 = nat_lit 0 ∧ nat_lit 2097153 = nat_lit 2097153 ∧ (1 : Int) ≤ (4 : Int) ∧ (4 : Int) ≤ (4 : Int) ∧ List.length (U.list b) ≤ (1099511627776 : Nat)) ∧ (nat_lit 2097153 = nat_lit 2097153 ∧ nat_lit 0 = nat_lit 0 ∧ nat_lit 2097153 = nat_lit 2097153 ∧ (1 : Int) ≤ (4 : Int) ∧ (4 : Int) ≤ (4 : Int) ∧ List.length (U.list b) ≤ (1099511627776 : Nat)) ∧ (nat_lit 2097153 = nat_lit 2097153 ∧ nat_lit 0 = nat_lit 0 ∧ nat_lit 2097153 = nat_lit 2097153 ∧ (1 : Int) ≤ (4 : Int) ∧ (4 : Int) ≤ (4 : Int) ∧ List.length (U.list b) ≤ (1099511627776 : Nat)) ∧ bif !mayR (IntKind.wrap IntKind.i64 (U.int (nth (U.i (0 : Int)) (U.list b) (Int.toNat (0 : Int))))) (IntKind.wrap IntKind.i64 (getN (U.list b) (4 : Int) (4 : Int))) (IntKind.wrap IntKind.i64 (getN (U.list b) (2 : Int) (2 : Int))) (IntKind.wrap IntKind.i64 (getN (U.list b) (8 : Int) (4 : Int))) (IntKind.wrap IntKind.u32 (IntKind.wrap IntKind.i64 (getN (U.list b) (12 : Int) (4 : Int)))) (U.int k) then R [[U.i (0 : Int), U.i (0 : Int), U.i (0 : Int), U.i (0 : Int), U.i (0 : Int)], [U.i (3 : Int)]] else R [[U.i (IntKind.wrap IntKind.i64 (U.int (nth (U.i (0 : Int)) (U.list b) (Int.toNat (0 : Int))))), U.i (IntKind.wrap IntKind.i64 (getN (U.list b) (4 : Int) (4 : Int))), U.i (IntKind.wrap IntKind.i64 (getN (U.list b) (2 : Int) (2 : Int))), U.i (IntKind.wrap IntKind.i64 (getN (U.list b) (8 : Int) (4 : Int))), U.i (IntKind.wrap IntKind.u32 (IntKind.wrap IntKind.i64 (getN (U.list b) (12 : Int) (4 : Int))))], [U.i (0 : Int)]])) ((nat_lit 2097153 = nat_lit 2097153 ∧ nat_lit 0 = nat_lit 0 ∧ nat_lit 2097153 = nat_lit 2097153 ∧ (1 : Int) ≤ (2 : Int) ∧ (2 : Int) ≤ (4 : Int) ∧ List.length (U.list b) ≤ (1099511627776 : Nat)) ∧ (nat_lit 2097153 = nat_lit 2097153 ∧ nat_lit 0 = nat_lit 0 ∧ nat_lit 2097153 = nat_lit 2097153 ∧ (1 : Int) ≤ (4 : Int) ∧ (4 : Int) ≤ (4 : Int) ∧ List.length (U.list b) ≤ (1099511627776 : Nat)) ∧ (nat_lit 2097153 = nat_lit 2097153 ∧ nat_lit 0 = nat_lit 0 ∧ nat_lit 2097153 = nat_lit 2097153 ∧ (1 : Int) ≤ (4 : Int) ∧ (4 : Int) ≤ (4 : Int) ∧ List.length (U.list b) ≤ (1099511627776 : Nat)) ∧ (nat_lit 2097153 = nat_lit 2097153 ∧ nat_lit 0 = nat_lit 0 ∧ nat_lit 2097153 = nat_lit 2097153 ∧ (1 : Int) ≤ (4 : Int) ∧ (4 : Int) ≤ (4 : Int) ∧ List.length (U.list b) ≤ (1099511627776 : Nat)) ∧ bif !mayR (IntKind.wrap IntKind.i64 (U.int (nth (U.i (0 : Int)) (U.list b) (Int.toNat (0 : Int))))) (IntKind.wrap IntKind.i64 (getN (U.list b) (4 : Int) (4 : Int))) (IntKind.wrap IntKind.i64 (getN (U.list b) (2 : Int) (2 : Int))) (IntKind.wrap IntKind.i64 (getN (U.list b) (8 : Int) (4 : Int))) (IntKind.wrap IntKind.u32 (IntKind.wrap IntKind.i64 (getN (U.list b) (12 : Int) (4 : Int)))) (U.int k) then R [[U.i (0 : Int), U.i (0 : Int), U.i (0 : Int), U.i (0 : Int), U.i (0 : Int)], [U.i (3 : Int)]] else R [[U.i (IntKind.wrap IntKind.i64 (U.int (nth (U.i (0 : Int)) (U.list b) (Int.toNat (0 : Int))))), U.i (IntKind.wrap IntKind.i64 (getN (U.list b) (4 : Int) (4 : Int))), U.i (IntKind.wrap IntKind.i64 (getN (U.list b) (2 : Int) (2 : Int))), U.i (IntKind.wrap IntKind.i64 (getN (U.list b) (8 : Int) (4 : Int))), U.i (IntKind.wrap IntKind.u32 (IntKind.wrap IntKind.i64 (getN (U.list b) (12 : Int) (4 : Int))))], [U.i (0 : Int)]]) else False) (Alt ((nat_lit 2097153 = nat_lit 2097153 ∧ nat_lit 0 = nat_lit 0 ∧ nat_lit 2097153 = nat_lit 2097153 ∧ (1 : Int) ≤ (2 : Int) ∧ (2 : Int) ≤ (4 : Int) ∧ List.length (U.list b) ≤ (1099511627776 : Nat)) ∧ Alt (bif decide ((0 : Int) ≤ (0 : Int) ∧ (0 : Int) < (↑(List.length (U.list b)) : Int)) then Alt ((nat_lit 2097153 = nat_lit 2097153 ∧ nat_lit 0 = nat_lit 0 ∧ nat_lit 2097153 = nat_lit 2097153 ∧ (1 : Int) ≤ (4 : Int) ∧ (4 : Int) ≤ (4 : Int) ∧ List.length (U.list b) ≤ (1099511627776 : Nat)) ∧ Alt ((nat_lit 2097153 = nat_lit 2097153 ∧ nat_lit 0 = nat_lit 0 ∧ nat_lit 2097153 = nat_lit 2097153 ∧ (1 : Int) ≤ (4 : Int) ∧ (4 : Int) ≤ (4 : Int) ∧ List.length (U.list b) ≤ (1099511627776 : Nat)) ∧ ((nat_lit 2097153 = nat_lit 2097153 ∧ nat_lit 0 = nat_lit 0 ∧ nat_lit 2097153 = nat_lit 2097153 ∧ (1 : Int) ≤ (4 : Int) ∧ (4 : Int) ≤ (4 : Int) ∧ List.length (U.list b) ≤ (1099511627776 : Nat)) ∧ bif !mayR (IntKind.wrap IntKind.i64 (U.int (nth (U.i (0 : Int)) (U.list b) (Int.toNat (0 : Int))))) (IntKind.wrap IntKind.i64 (getN (U.list b) (4 : Int) (4 : Int))) (IntKind.wrap IntKind.i64 (getN (U.list b) (2 : Int) (2 : Int))) (IntKind.wrap IntKind.i64 (getN (U.list b) (8 : Int) (4 : Int))) (IntKind.wrap IntKind.u32 (IntKind.wrap IntKind.i64 (getN (U.list b) (12 : Int) (4 : Int)))) (U.int k) then R [[U.i (0 : Int), U.i (0 : Int), U.i (0 : Int), U.i (0 : Int), U.i (0 : Int)], [U.i (3 : Int)]] else R [[U.i (IntKind.wrap IntKind.i64 (U.int (nth (U.i (0 : Int)) (U.list b) (Int.toNat (0 : Int))))), U.i (IntKind.wrap IntKind.i64 (getN (U.list b) (4 : Int) (4 : Int))), U.i (IntKind.wrap IntKind.i64 (getN (U.list b) (2 : Int) (2 : Int))), U.i (IntKind.wrap IntKind.i64 (getN (U.list b) (8 : Int) (4 : Int))), U.i (IntKind.wrap IntKind.u32 (IntKind.wrap IntKind.i64 (getN (U.list b) (12 : Int) (4 : Int))))], [U.i (0 : Int)]])) ((nat_lit 2097153 = nat_lit 2097153 ∧ nat_lit 0 = nat_lit 0 ∧ nat_lit 2097153 = nat_lit 2097153 ∧ (1 : Int) ≤ (4 : Int) ∧ (4 : Int) ≤ (4 : Int) ∧ List.length (U.list b) ≤ (1099511627776 : Nat)) ∧ (nat_lit 2097153 = nat_lit 2097153 ∧ nat_lit 0 = nat_lit 0 ∧ nat_lit 2097153 = nat_lit 2097153 ∧ (1 : Int) ≤ (4 : Int) ∧ (4 : Int) ≤ (4 : Int) ∧ List.length (U.list b) ≤ (1099511627776 : Nat)) ∧ bif !mayR (IntKind.wrap IntKind.i64 (U.int (nth (U.i (0 : Int)) (U.list b) (Int.toNat (0 : Int))))) (IntKind.wrap IntKind.i64 (getN (U.list b) (4 : Int) (4 : Int))) (IntKind.wrap IntKind.i64 (getN (U.list b) (2 : Int) (2 : Int))) (IntKind.wrap IntKind.i64 (getN (U.list b) (8 : Int) (4 : Int))) (IntKind.wrap IntKind.u32 (IntKind.wrap IntKind.i64 (getN (U.list b) (12 : Int) (4 : Int)))) (U.int k) then R [[U.i (0 : Int), U.i (0 : Int), U.i (0 : Int), U.i (0 : Int), U.i (0 : Int)], [U.i (3 : Int)]] else R [[U.i (IntKind.wrap IntKind.i64 (U.int (nth (U.i (0 : Int)) (U.list b) (Int.toNat (0 : Int))))), U.i (IntKind.wrap IntKind.i64 (getN (U.list b) (4 : Int) (4 : Int))), U.i (IntKind.wrap IntKind.i64 (getN (U.list b) (2 : Int) (2 : Int))), U.i (IntKind.wrap IntKind.i64 (getN (U.list b) (8 : Int) (4 : Int))), U.i (IntKind.wrap IntKind.u32 (IntKind.wrap IntKind.i64 (getN (U.list b) (12 : Int) (4 : Int))))], [U.i (0 : Int)]])) ((nat_lit 2097153 = nat_lit 2097153 ∧ nat_lit 0 = nat_lit 0 ∧ nat_lit 2097153 = nat_lit 2097153 ∧ (1 : Int) ≤ (4 : Int) ∧ (4 : Int) ≤ (4 : Int) ∧ List.length (U.list b) ≤ (1099511627776 : Nat)) ∧ (nat_lit 2097153 = nat_lit 2097153 ∧ nat_lit 0 = nat_lit 0 ∧ nat_lit 2097153 = nat_lit 2097153 ∧ (1 : Int) ≤ (4 : Int) ∧ (4 : Int) ≤ (4 : Int) ∧ List.length (U.list b) ≤ (1099511627776 : Nat)) ∧ (nat_lit 2097153 = nat_lit 2097153 ∧ nat_lit 0 = nat_lit 0 ∧ nat_lit 2097153 = nat_lit 2097153 ∧ (1 : Int) ≤ (4 : Int) ∧ (4 : Int) ≤ (4 : Int) ∧ List.length (U.list b) ≤ (1099511627776 : Nat)) ∧ bif !mayR (IntKind.wrap IntKind.i64 (U.int (nth (U.i (0 : Int)) (U.list b) (Int.toNat (0 : Int))))) (IntKind.wrap IntKind.i64 (getN (U.list b) (4 : Int) (4 : Int))) (IntKind.wrap IntKind.i64 (getN (U.list b) (2 : Int) (2 : Int))) (IntKind.wrap IntKind.i64 (getN (U.list b) (8 : Int) (4 : Int))) (IntKind.wrap IntKind.u32 (IntKind.wrap IntKind.i64 (getN (U.list b) (12 : Int) (4 : Int)))) (U.int k) then R [[U.i (0 : Int), U.i (0 : Int), U.i (0 : Int), U.i (0 : Int), U.i (0 : Int)], [U.i (3 : Int)]] else R [[U.i (IntKind.wrap IntKind.i64 (U.int (nth (U.i (0 : Int)) (U.list b) (Int.toNat (0 : Int))))), U.i (IntKind.wrap IntKind.i64 (getN (U.list b) (4 : Int) (4 : Int))), U.i (IntKind.wrap IntKind.i64 (getN (U.list b) (2 : Int) (2 : Int))), U.i (IntKind.wrap IntKind.i64 (getN (U.list b) (8 : Int) (4 : Int))), U.i (IntKind.wrap IntKind.u32 (IntKind.wrap IntKind.i64 (getN (U.list b) (12 : Int) (4 : Int))))], [U.i (0 : Int)]]) else False) (Alt ((nat_lit 2097153 = nat_lit 2097153 ∧ nat_lit 0 = nat_lit 0 ∧ nat_lit 2097153 = nat_lit 2097153 ∧ (1 : Int) ≤ (4 : Int) ∧ (4 : Int) ≤ (4 : Int) ∧ List.length (U.list b) ≤ (1099511627776 : Nat)) ∧ Alt (bif decide ((0 : Int) ≤ (0 : Int) ∧ (0 : Int) < (↑(List.length (U.list b)) : Int)) then Alt ((nat_lit 2097153 = nat_lit 2097153 ∧ nat_lit 0 = nat_lit 0 ∧ nat_lit 2097153 = nat_lit 2097153 ∧ (1 : Int) ≤ (4 : Int) ∧ (4 : Int) ≤ (4 : Int) ∧ List.length (U.list b) ≤ (1099511627776 : Nat)) ∧ ((nat_lit 2097153 = nat_lit 2097153 ∧ nat_lit 0 = nat_lit 0 ∧ nat_lit 2097153 = nat_lit 2097153 ∧ (1 : Int) ≤ (4 : Int) ∧ (4 : Int) ≤ (4 : Int) ∧ List.length (U.list b) ≤ (1099511627776 : Nat)) ∧ bif !mayR (IntKind.wrap IntKind.i64 (U.int (nth (U.i (0 : Int)) (U.list b) (Int.toNat (0 : Int))))) (IntKind.wrap IntKind.i64 (getN (U.list b) (4 : Int) (4 : Int))) (IntKind.wrap IntKind.i64 (getN (U.list b) (2 : Int) (2 : Int))) (IntKind.wrap IntKind.i64 (getN (U.list b) (8 : Int) (4 : Int))) (IntKind.wrap IntKind.u32 (IntKind.wrap IntKind.i64 (getN (U.list b) (12 : Int) (4 : Int)))) (U.int k) then R [[U.i (0 : Int), U.i (0 : Int), U.i (0 : Int), U.i (0 : Int), U.i (0 : Int)], [U.i (3 : Int)]] else R [[U.i (IntKind.wrap IntKind.i64 (U.int (nth (U.i (0 : Int)) (U.list b) (Int.toNat (0 : Int))))), U.i (IntKind.wrap IntKind.i64 (getN (U.list b) (4 : Int) (4 : Int))), U.i (IntKind.wrap IntKind.i64 (getN (U.list b) (2 : Int) (2 : Int))), U.i (IntKind.wrap IntKind.i64 (getN (U.list b) (8 : Int) (4 : Int))), U.i (IntKind.wrap IntKind.u32 (IntKind.wrap IntKind.i64 (getN (U.list b) (12 : Int) (4 : Int))))], [U.i (0 : Int)]])) ((nat_lit 2097153 = nat_lit 2097153 ∧ nat_lit 0 = nat_lit 0 ∧ nat_lit 2097153 = nat_lit 2097153 ∧ (1 : Int) ≤ (4 : Int) ∧ (4 : Int) ≤ (4 : Int) ∧ List.length (U.list b) ≤ (1099511627776 : Nat)) ∧ (nat_lit 2097153 = nat_lit 2097153 ∧ nat_lit 0 = nat_lit 0 ∧ nat_lit 2097153 = nat_lit 2097153 ∧ (1 : Int) ≤ (4 : Int) ∧ (4 : Int) ≤ (4 : Int) ∧ List.length (U.list b) ≤ (1099511627776 : Nat)) ∧ bif !mayR (IntKind.wrap IntKind.i64 (U.int (nth (U.i (0 : Int)) (U.list b) (Int.toNat (0 : Int))))) (IntKind.wrap IntKind.i64 (getN (U.list b) (4 : Int) (4 : Int))) (IntKind.wrap IntKind.i64 (getN (U.list b) (2 : Int) (2 : Int))) (IntKind.wrap IntKind.i64 (getN (U.list b) (8 : Int) (4 : Int))) (IntKind.wrap IntKind.u32 (IntKind.wrap IntKind.i64 (getN (U.list b) (12 : Int) (4 : Int)))) (U.int k) then R [[U.i (0 : Int), U.i (0 : Int), U.i (0 : Int), U.i (0 : Int), U.i (0 : Int)], [U.i (3 : Int)]] else R [[U.i (IntKind.wrap IntKind.i64 (U.int (nth (U.i (0 : Int)) (U.list b) (Int.toNat (0 : Int))))), U.i (IntKind.wrap IntKind.i64 (getN (U.list b) (4 : Int) (4 : Int))), U.i (IntKind.wrap IntKind.i64 (getN (U.list b) (2 : Int) (2 : Int))), U.i (IntKind.wrap IntKind.i64 (getN (U.list b) (8 : Int) (4 : Int))), U.i (IntKind.wrap IntKind.u32 (IntKind.wrap IntKind.i64 (getN (U.list b) (12 : Int) (4 : Int))))], [U.i (0 : Int)]]) else False) (Alt ((nat_lit 2097153 = nat_lit 2097153 ∧ nat_lit 0 = nat_lit 0 ∧ nat_lit 2097153 = nat_lit 2097153 ∧ (1 : Int) ≤ (4 : Int) ∧ (4 : Int) ≤ (4 : Int) ∧ List.length (U.list b) ≤ (1099511627776 : Nat)) ∧ Alt (bif decide ((0 : Int) ≤ (0 : Int) ∧ (0 : Int) < (↑(List.length (U.list b)) : Int)) then ((nat_lit 2097153 = nat_lit 2097153 ∧ nat_lit 0 = nat_lit 0 ∧ nat_lit 2097153 = nat_lit 2097153 ∧ (1 : Int) ≤ (4 : Int) ∧ (4 : Int) ≤ (4 : Int) ∧ List.length (U.list b) ≤ (1099511627776 : Nat)) ∧ bif !mayR (IntKind.wrap IntKind.i64 (U.int (nth (U.i (0 : Int)) (U.list b) (Int.toNat (0 : Int))))) (IntKind.wrap IntKind.i64 (getN (U.list b) (4 : Int) (4 : Int))) (IntKind.wrap IntKind.i64 (getN (U.list b) (2 : Int) (2 : Int))) (IntKind.wrap IntKind.i64 (getN (U.list b) (8 : Int) (4 : Int))) (IntKind.wrap IntKind.u32 (IntKind.wrap IntKind.i64 (getN (U.list b) (12 : Int) (4 : Int)))) (U.int k) then R [[U.i (0 : Int), U.i (0 : Int), U.i (0 : Int), U.i (0 : Int), U.i (0 : Int)], [U.i (3 : Int)]] else R [[U.i (IntKind.wrap IntKind.i64 (U.int (nth (U.i (0 : Int)) (U.list b) (Int.toNat (0 : Int))))), U.i (IntKind.wrap IntKind.i64 (getN (U.list b) (4 : Int) (4 : Int))), U.i (IntKind.wrap IntKind.i64 (getN (U.list b) (2 : Int) (2 : Int))), U.i (IntKind.wrap IntKind.i64 (getN (U.list b) (8 : Int) (4 : Int))), U.i (IntKind.wrap IntKind.u32 (IntKind.wrap IntKind.i64 (getN (U.list b) (12 : Int) (4 : Int))))], [U.i (0 : Int)]]) else False) (Alt ((nat_lit 2097153 = nat_lit 2097153 ∧ nat_lit 0 = nat_lit 0 ∧ nat_lit 2097153 = nat_lit 2097153 ∧ (1 : Int) ≤ (4 : Int) ∧ (4 : Int) ≤ (4 : Int) ∧ List.length (U.list b) ≤ (1099511627776 : Nat)) ∧ (bif decide ((0 : Int) ≤ (0 : Int) ∧ (0 : Int) < (↑(List.length (U.list b)) : Int)) then bif !mayR (IntKind.wrap IntKind.i64 (U.int (nth (U.i (0 : Int)) (U.list b) (Int.toNat (0 : Int))))) (IntKind.wrap IntKind.i64 (getN (U.list b) (4 : Int) (4 : Int))) (IntKind.wrap IntKind.i64 (getN (U.list b) (2 : Int) (2 : Int))) (IntKind.wrap IntKind.i64 (getN (U.list b) (8 : Int) (4 : Int))) (IntKind.wrap IntKind.u32 (IntKind.wrap IntKind.i64 (getN (U.list b) (12 : Int) (4 : Int)))) (U.int k) then R [[U.i (0 : Int), U.i (0 : Int), U.i (0 : Int), U.i (0 : Int), U.i (0 : Int)], [U.i (3 : Int)]] else R [[U.i (IntKind.wrap IntKind.i64 (U.int (nth (U.i (0 : Int)) (U.list b) (Int.toNat (0 : Int))))), U.i (IntKind.wrap IntKind.i64 (getN (U.list b) (4 : Int) (4 : Int))), U.i (IntKind.wrap IntKind.i64 (getN (U.list b) (2 : Int) (2 : Int))), U.i (IntKind.wrap IntKind.i64 (getN (U.list b) (8 : Int) (4 : Int))), U.i (IntKind.wrap IntKind.u32 (IntKind.wrap IntKind.i64 (getN (U.list b) (12 : Int) (4 : Int))))], [U.i (0 : Int)]] else False)) (Alt (bif decide ((0 : Int) ≤ (0 : Int) ∧ (0 : Int) < (↑(List.length (U.list b)) : Int)) then (nat_lit 2097153 = nat_lit 2097153 ∧ nat_lit 0 = nat_lit 0 ∧ nat_lit 2097153 = nat_lit 2097153 ∧ (1 : Int) ≤ (4 : Int) ∧ (4 : Int) ≤ (4 : Int) ∧ List.length (U.list b) ≤ (1099511627776 : Nat)) ∧ bif !mayR (IntKind.wrap IntKind.i64 (U.int (nth (U.i (0 : Int)) (U.list b) (Int.toNat (0 : Int))))) (IntKind.wrap IntKind.i64 (getN (U.list b) (4 : Int) (4 : Int))) (IntKind.wrap IntKind.i64 (getN (U.list b) (2 : Int) (2 : Int))) (IntKind.wrap IntKind.i64 (getN (U.list b) (8 : Int) (4 : Int))) (IntKind.wrap IntKind.u32 (IntKind.wrap IntKind.i64 (getN (U.list b) (12 : Int) (4 : Int)))) (U.int k) then R [[U.i (0 : Int), U.i (0 : Int), U.i (0 : Int), U.i (0 : Int), U.i (0 : Int)], [U.i (3 : Int)]] else R [[U.i (IntKind.wrap IntKind.i64 (U.int (nth (U.i (0 : Int)) (U.list b) (Int.toNat (0 : Int))))), U.i (IntKind.wrap IntKind.i64 (getN (U.list b) (4 : Int) (4 : Int))), U.i (IntKind.wrap IntKind.i64 (getN (U.list b) (2 : Int) (2 : Int))), U.i (IntKind.wrap IntKind.i64 (getN (U.list b) (8 : Int) (4 : Int))), U.i (IntKind.wrap IntKind.u32 (IntKind.wrap IntKind.i64 (getN (U.list b) (12 : Int) (4 : Int))))], [U.i (0 : Int)]] else False) ((nat_lit 2097153 = nat_lit 2097153 ∧ nat_lit 0 = nat_lit 0 ∧ nat_lit 2097153 = nat_lit 2097153 ∧ (1 : Int) ≤ (4 : Int) ∧ (4 : Int) ≤ (4 : Int) ∧ List.length (U.list b) ≤ (1099511627776 : Nat)) ∧ bif decide ((0 : Int) ≤ (0 : Int) ∧ (0 : Int) < (↑(List.length (U.list b)) : Int)) then bif !mayR (IntKind.wrap IntKind.i64 (U.int (nth (U.i (0 : Int)) (U.list b) (Int.toNat (0 : Int))))) (IntKind.wrap IntKind.i64 (getN (U.list b) (4 : Int) (4 : Int))) (IntKind.wrap IntKind.i64 (getN (U.list b) (2 : Int) (2 : Int))) (IntKind.wrap IntKind.i64 (getN (U.list b) (8 : Int) (4 : Int))) (IntKind.wrap IntKind.u32 (IntKind.wrap IntKind.i64 (getN (U.list b) (12 : Int) (4 : Int)))) (U.int k) then R [[U.i (0 : Int), U.i (0 : Int), U.i (0 : Int), U.i (0 : Int), U.i (0 : Int)], [U.i (3 : Int)]] else R [[U.i (IntKind.wrap IntKind.i64 (U.int (nth (U.i (0 : Int)) (U.list b) (Int.toNat (0 : Int))))), U.i (IntKind.wrap IntKind.i64 (getN (U.list b) (4 : Int) (4 : Int))), U.i (IntKind.wrap IntKind.i64 (getN (U.list b) (2 : Int) (2 : Int))), U.i (IntKind.wrap IntKind.i64 (getN (U.list b) (8 : Int) (4 : Int))), U.i (IntKind.wrap IntKind.u32 (IntKind.wrap IntKind.i64 (getN (U.list b) (12 : Int) (4 : Int))))], [U.i (0 : Int)]] else False)))) (Alt (bif decide ((0 : Int) ≤ (0 : Int) ∧ (0 : Int) < (↑(List.length (U.list b)) : Int)) then (nat_lit 2097153 = nat_lit 2097153 ∧ nat_lit 0 = nat_lit 0 ∧ nat_lit 2097153 = nat_lit 2097153 ∧ (1 : Int) ≤ (4 : Int) ∧ (4 : Int) ≤ (4 : Int) ∧ List.length (U.list b) ≤ (1099511627776 : Nat)) ∧ (nat_lit 2097153 = nat_lit 2097153 ∧ nat_lit 0 = nat_lit 0 ∧ nat_lit 2097153 = nat_lit 2097153 ∧ (1 : Int) ≤ (4 : Int) ∧ (4 : Int) ≤ (4 : Int) ∧ List.length (U.list b) ≤ (1099511627776 : Nat)) ∧ bif !mayR (IntKind.wrap IntKind.i64 (U.int (nth (U.i (0 : Int)) (U.list b) (Int.toNat (0 : Int))))) (IntKind.wrap IntKind.i64 (getN (U.list b) (4 : Int) (4 : Int))) (IntKind.wrap IntKind.i64 (getN (U.list b) (2 : Int) (2 : Int))) (IntKind.wrap IntKind.i64 (getN (U.list b) (8 : Int) (4 : Int))) (IntKind.wrap IntKind.u32 (IntKind.wrap IntKind.i64 (getN (U.list b) (12 : Int) (4 : Int)))) (U.int k) then R [[U.i (0 : Int), U.i (0 : Int), U.i (0 : Int), U.i (0 : Int), U.i (0 : Int)], [U.i (3 : Int)]] else R [[U.i (IntKind.wrap IntKind.i64 (U.int (nth (U.i (0 : Int)) (U.list b) (Int.toNat (0 : Int))))), U.i (IntKind.wrap IntKind.i64 (getN (U.list b) (4 : Int) (4 : Int))), U.i (IntKind.wrap IntKind.i64 (getN (U.list b) (2 : Int) (2 : Int))), U.i (IntKind.wrap IntKind.i64 (getN (U.list b) (8 : Int) (4 : Int))), U.i (IntKind.wrap IntKind.u32 (IntKind.wrap IntKind.i64 (getN (U.list b) (12 : Int) (4 : Int))))], [U.i (0 : Int)]] else False) ((nat_lit 2097153 = nat_lit 2097153 ∧ nat_lit 0 = nat_lit 0 ∧ nat_lit 2097153 = nat_lit 2097153 ∧ (1 : Int) ≤ (4 : Int) ∧ (4 : Int) ≤ (4 : Int) ∧ List.length (U.list b) ≤ (1099511627776 : Nat)) ∧ Alt (bif decide ((0 : Int) ≤ (0 : Int) ∧ (0 : Int) < (↑(List.length (U.list b)) : Int)) then (nat_lit 2097153 = nat_lit 2097153 ∧ nat_lit 0 = nat_lit 0 ∧ nat_lit 2097153 = nat_lit 2097153 ∧ (1 : Int) ≤ (4 : Int) ∧ (4 : Int) ≤ (4 : Int) ∧ List.length (U.list b) ≤ (1099511627776 : Nat)) ∧ bif !mayR (IntKind.wrap IntKind.i64 (U.int (nth (U.i (0 : Int)) (U.list b) (Int.toNat (0 : Int))))) (IntKind.wrap IntKind.i64 (getN (U.list b) (4 : Int) (4 : Int))) (IntKind.wrap IntKind.i64 (getN (U.list b) (2 : Int) (2 : Int))) (IntKind.wrap IntKind.i64 (getN (U.list b) (8 : Int) (4 : Int))) (IntKind.wrap IntKind.u32 (IntKind.wrap IntKind.i64 (getN (U.list b) (12 : Int) (4 : Int)))) (U.int k) then R [[U.i (0 : Int), U.i (0 : Int), U.i (0 : Int), U.i (0 : Int), U.i (0 : Int)], [U.i (3 : Int)]] else R [[U.i (IntKind.wrap IntKind.i64 (U.int (nth (U.i (0 : Int)) (U.list b) (Int.toNat (0 : Int))))), U.i (IntKind.wrap IntKind.i64 (getN (U.list b) (4 : Int) (4 : Int))), U.i (IntKind.wrap IntKind.i64 (getN (U.list b) (2 : Int) (2 : Int))), U.i (IntKind.wrap IntKind.i64 (getN (U.list b) (8 : Int) (4 : Int))), U.i (IntKind.wrap IntKind.u32 (IntKind.wrap IntKind.i64 (getN (U.list b) (12 : Int) (4 : Int))))], [U.i (0 : Int)]] else False) ((nat_lit 2097153 = nat_lit 2097153 ∧ nat_lit 0 = nat_lit 0 ∧ nat_lit 2097153 = nat_lit 2097153 ∧ (1 : Int) ≤ (4 : Int) ∧ (4 : Int) ≤ (4 : Int) ∧ List.length (U.list b) ≤ (1099511627776 : Nat)) ∧ bif decide ((0 : Int) ≤ (0 : Int) ∧ (0 : Int) < (↑(List.length (U.list b)) : Int)) then bif !mayR (IntKind.wrap IntKind.i64 (U.int (nth (U.i (0 : Int)) (U.list b) (Int.toNat (0 : Int))))) (IntKind.wrap IntKind.i64 (getN (U.list b) (4 : Int) (4 : Int))) (IntKind.wrap IntKind.i64 (getN (U.list b) (2 : Int) (2 : Int))) (IntKind.wrap IntKind.i64 (getN (U.list b) (8 : Int) (4 : Int))) (IntKind.wrap IntKind.u32 (IntKind.wrap IntKind.i64 (getN (U.list b) (12 : Int) (4 : Int)))) (U.int k) then R [[U.i (0 : Int), U.i (0 : Int), U.i (0 : Int), U.i (0 : Int), U.i (0 : Int)], [U.i (3 : Int)]] else R [[U.i (IntKind.wrap IntKind.i64 (U.int (nth (U.i (0 : Int)) (U.list b) (Int.toNat (0 : Int))))), U.i (IntKind.wrap IntKind.i64 (getN (U.list b) (4 : Int) (4 : Int))), U.i (IntKind.wrap IntKind.i64 (getN (U.list b) (2 : Int) (2 : Int))), U.i (IntKind.wrap IntKind.i64 (getN (U.list b) (8 : Int) (4 : Int))), U.i (IntKind.wrap IntKind.u32 (IntKind.wrap IntKind.i64 (getN (U.list b) (12 : Int) (4 : Int))))], [U.i (0 : Int)]] else False))))) (Alt (bif decide ((0 : Int) ≤ (0 : Int) ∧ (0 : Int) < (↑(List.length (U.list b)) : Int)) then (nat_lit 2097153 = nat_lit 2097153 ∧ nat_lit 0 = nat_lit 0 ∧ nat_lit 2097153 = nat_lit 2097153 ∧ (1 : Int) ≤ (4 : Int) ∧ (4 : Int) ≤ (4 : Int) ∧ List.length (U.list b) ≤ (1099511627776 : Nat)) ∧ (nat_lit 2097153 = nat_lit 2097153 ∧ nat_lit 0 = nat_lit 0 ∧ nat_lit 2097153 = nat_lit 2097153 ∧ (1 : Int) ≤ (4 : Int) ∧ (4 : Int) ≤ (4 : Int) ∧ List.length (U.list b) ≤ (1099511627776 : Nat)) ∧ (nat_lit 2097153 = nat_lit 2097153 ∧ nat_lit 0 = nat_lit 0 ∧ nat_lit 2097153 = nat_lit 2097153 ∧ (1 : Int) ≤ (4 : Int) ∧ (4 : Int) ≤ (4 : Int) ∧ List.length (U.list b) ≤ (1099511627776 : Nat)) ∧ bif !mayR (IntKind.wrap IntKind.i64 (U.int (nth (U.i (0 : Int)) (U.list b) (Int.toNat (0 : Int))))) (IntKind.wrap IntKind.i64 (getN (U.list b) (4 : Int) (4 : Int))) (IntKind.wrap IntKind.i64 (getN (U.list b) (2 : Int) (2 : Int))) (IntKind.wrap IntKind.i64 (getN (U.list b) (8 : Int) (4 : Int))) (IntKind.wrap IntKind.u32 (IntKind.wrap IntKind.i64 (getN (U.list b) (12 : Int) (4 : Int)))) (U.int k) then R [[U.i (0 : Int), U.i (0 : Int), U.i (0 : Int), U.i (0 : Int), U.i (0 : Int)], [U.i (3 : Int)]] else R [[U.i (IntKind.wrap IntKind.i64 (U.int (nth (U.i (0 : Int)) (U.list b) (Int.toNat (0 : Int))))), U.i (IntKind.wrap IntKind.i64 (getN (U.list b) (4 : Int) (4 : Int))), U.i (IntKind.wrap IntKind.i64 (getN (U.list b) (2 : Int) (2 : Int))), U.i (IntKind.wrap IntKind.i64 (getN (U.list b) (8 : Int) (4 : Int))), U.i (IntKind.wrap IntKind.u32 (IntKind.wrap IntKind.i64 (getN (U.list b) (12 : Int) (4 : Int))))], [U.i (0 : Int)]] else False) ((nat_lit 2097153 = nat_lit 2097153 ∧ nat_lit 0 = nat_lit 0 ∧ nat_lit 2097153 = nat_lit 2097153 ∧ (1 : Int) ≤ (4 : Int) ∧ (4 : Int) ≤ (4 : Int) ∧ List.length (U.list b) ≤ (1099511627776 : Nat)) ∧ Alt (bif decide ((0 : Int) ≤ (0 : Int) ∧ (0 : Int) < (↑(List.length (U.list b)) : Int)) then (nat_lit 2097153 = nat_lit 2097153 ∧ nat_lit 0 = nat_lit 0 ∧ nat_lit 2097153 = nat_lit 2097153 ∧ (1 : Int) ≤ (4 : Int) ∧ (4 : Int) ≤ (4 : Int) ∧ List.length (U.list b) ≤ (1099511627776 : Nat)) ∧ (nat_lit 2097153 = nat_lit 2097153 ∧ nat_lit 0 = nat_lit 0 ∧ nat_lit 2097153 = nat_lit 2097153 ∧ (1 : Int) ≤ (4 : Int) ∧ (4 : Int) ≤ (4 : Int) ∧ List.length (U.list b) ≤ (1099511627776 : Nat)) ∧ bif !mayR (IntKind.wrap IntKind.i64 (U.int (nth (U.i (0 : Int)) (U.list b) (Int.toNat (0 : Int))))) (IntKind.wrap IntKind.i64 (getN (U.list b) (4 : Int) (4 : Int))) (IntKind.wrap IntKind.i64 (getN (U.list b) (2 : Int) (2 : Int))) (IntKind.wrap IntKind.i64 (getN (U.list b) (8 : Int) (4 : Int))) (IntKind.wrap IntKind.u32 (IntKind.wrap IntKind.i64 (getN (U.list b) (12 : Int) (4 : Int)))) (U.int k) then R [[U.i (0 : Int), U.i (0 : Int), U.i (0 : Int), U.i (0 : Int), U.i (0 : Int)], [U.i (3 : Int)]] else R [[U.i (IntKind.wrap IntKind.i64 (U.int (nth (U.i (0 : Int)) (U.list b) (Int.toNat (0 : Int))))), U.i (IntKind.wrap IntKind.i64 (getN (U.list b) (4 : Int) (4 : Int))), U.i (IntKind.wrap IntKind.i64 (getN (U.list b) (2 : Int) (2 : Int))), U.i (IntKind.wrap IntKind.i64 (getN (U.list b) (8 : Int) (4 : Int))), U.i (IntKind.wrap IntKind.u32 (IntKind.wrap IntKind.i64 (getN (U.list b) (12 : Int) (4 : Int))))], [U.i (0 : Int)]] else False) ((nat_lit 2097153 = nat_lit 2097153 ∧ nat_lit 0 = nat_lit 0 ∧ nat_lit 2097153 = nat_lit 2097153 ∧ (1 : Int) ≤ (4 : Int) ∧ (4 : Int) ≤ (4 : Int) ∧ List.length (U.list b) ≤ (1099511627776 : Nat)) ∧ Alt (bif decide ((0 : Int) ≤ (0 : Int) ∧ (0 : Int) < (↑(List.length (U.list b)) : Int)) then (nat_lit 2097153 = nat_lit 2097153 ∧ nat_lit 0 = nat_lit 0 ∧ nat_lit 2097153 = nat_lit 2097153 ∧ (1 : Int) ≤ (4 : Int) ∧ (4 : Int) ≤ (4 : Int) ∧ List.length (U.list b) ≤ (1099511627776 : Nat)) ∧ bif !mayR (IntKind.wrap IntKind.i64 (U.int (nth (U.i (0 : Int)) (U.list b) (Int.toNat (0 : Int))))) (IntKind.wrap IntKind.i64 (getN (U.list b) (4 : Int) (4 : Int))) (IntKind.wrap IntKind.i64 (getN (U.list b) (2 : Int) (2 : Int))) (IntKind.wrap IntKind.i64 (getN (U.list b) (8 : Int) (4 : Int))) (IntKind.wrap IntKind.u32 (IntKind.wrap IntKind.i64 (getN (U.list b) (12 : Int) (4 : Int)))) (U.int k) then R [[U.i (0 : Int), U.i (0 : Int), U.i (0 : Int), U.i (0 : Int), U.i (0 : Int)], [U.i (3 : Int)]] else R [[U.i (IntKind.wrap IntKind.i64 (U.int (nth (U.i (0 : Int)) (U.list b) (Int.toNat (0 : Int))))), U.i (IntKind.wrap IntKind.i64 (getN (U.list b) (4 : Int) (4 : Int))), U.i (IntKind.wrap IntKind.i64 (getN (U.list b) (2 : Int) (2 : Int))), U.i (IntKind.wrap IntKind.i64 (getN (U.list b) (8 : Int) (4 : Int))), U.i (IntKind.wrap IntKind.u32 (IntKind.wrap IntKind.i64 (getN (U.list b) (12 : Int) (4 : Int))))], [U.i (0 : Int)]] else False) ((nat_lit 2097153 = nat_lit 2097153 ∧ nat_lit 0 = nat_lit 0 ∧ nat_lit 2097153 = nat_lit 2097153 ∧ (1 : Int) ≤ (4 : Int) ∧ (4 : Int) ≤ (4 : Int) ∧ List.length (U.list b) ≤ (1099511627776 : Nat)) ∧ bif decide ((0 : Int) ≤ (0 : Int) ∧ (0 : Int) < (↑(List.length (U.list b)) : Int)) then bif !mayR (IntKind.wrap IntKind.i64 (U.int (nth (U.i (0 : Int)) (U.list b) (Int.toNat (0 : Int))))) (IntKind.wrap IntKind.i64 (getN (U.list b) (4 : Int) (4 : Int))) (IntKind.wrap IntKind.i64 (getN (U.list b) (2 : Int) (2 : Int))) (IntKind.wrap IntKind.i64 (getN (U.list b) (8 : Int) (4 : Int))) (IntKind.wrap IntKind.u32 (IntKind.wrap IntKind.i64 (getN (U.list b) (12 : Int) (4 : Int)))) (U.int k) then R [[U.i (0 : Int), U.i (0 : Int), U.i (0 : Int), U.i (0 : Int), U.i (0 : Int)], [U.i (3 : Int)]] else R [[U.i (IntKind.wrap IntKind.i64 (U.int (nth (U.i (0 : Int)) (U.list b) (Int.toNat (0 : Int))))), U.i (IntKind.wrap IntKind.i64 (getN (U.list b) (4 : Int) (4 : Int))), U.i (IntKind.wrap IntKind.i64 (getN (U.list b) (2 : Int) (2 : Int))), U.i (IntKind.wrap IntKind.i64 (getN (U.list b) (8 : Int) (4 : Int))), U.i (IntKind.wrap IntKind.u32 (IntKind.wrap IntKind.i64 (getN (U.list b) (12 : Int) (4 : Int))))], [U.i (0 : Int)]] else False)))))) (Alt (bif decide ((0 : Int) ≤ (0 : Int) ∧ (0 : Int) < (↑(List.length (U.list b)) : Int)) then (nat_lit 2097153 = nat_lit 2097153 ∧ nat_lit 0 = nat_lit 0 ∧ nat_lit 2097153 = nat_lit 2097153 ∧ (1 : Int) ≤ (2 : Int) ∧ (2 : Int) ≤ (4 : Int) ∧ List.length (U.list b) ≤ (1099511627776 : Nat)) ∧ (nat_lit 2097153 = nat_lit 2097153 ∧ nat_lit 0 = nat_lit 0 ∧ nat_lit 2097153 = nat_lit 2097153 ∧ (1 : Int) ≤ (4 : Int) ∧ (4 : Int) ≤ (4 : Int) ∧ List.length (U.list b) ≤ (1099511627776 : Nat)) ∧ (nat_lit 2097153 = nat_lit 2097153 ∧ nat_lit 0 = nat_lit 0 ∧ nat_lit 2097153 = nat_lit 2097153 ∧ (1 : Int) ≤ (4 : Int) ∧ (4 : Int) ≤ (4 : Int) ∧ List.length (U.list b) ≤ (1099511627776 : Nat)) ∧ (nat_lit 2097153 = nat_lit 2097153 ∧ nat_lit 0 = nat_lit 0 ∧ nat_lit 2097153 = nat_lit 2097153 ∧ (1 : Int) ≤ (4 : Int) ∧ (4 : Int) ≤ (4 : Int) ∧ List.length (U.list b) ≤ (1099511627776 : Nat)) ∧ bif !mayR (IntKind.wrap IntKind.i64 (U.int (nth (U.i (0 : Int)) (U.list b) (Int.toNat (0 : Int))))) (IntKind.wrap IntKind.i64 (getN (U.list b) (4 : Int) (4 : Int))) (IntKind.wrap IntKind.i64 (getN (U.list b) (2 : Int) (2 : Int))) (IntKind.wrap IntKind.i64 (getN (U.list b) (8 : Int) (4 : Int))) (IntKind.wrap IntKind.u32 (IntKind.wrap IntKind.i64 (getN (U.list b) (12 : Int) (4 : Int)))) (U.int k) then R [[U.i (0 : Int), U.i (0 : Int), U.i (0 : Int), U.i (0 : Int), U.i (0 : Int)], [U.i (3 : Int)]] else R [[U.i (IntKind.wrap IntKind.i64 (U.int (nth (U.i (0 : Int)) (U.list b) (Int.toNat (0 : Int))))), U.i (IntKind.wrap IntKind.i64 (getN (U.list b) (4 : Int) (4 : Int))), U.i (IntKind.wrap IntKind.i64 (getN (U.list b) (2 : Int) (2 : Int))), U.i (IntKind.wrap IntKind.i64 (getN (U.list b) (8 : Int) (4 : Int))), U.i (IntKind.wrap IntKind.u32 (IntKind.wrap IntKind.i64 (getN (U.list b) (12 : Int) (4 : Int))))], [U.i (0 : Int)]] else False) ((nat_lit 2097153 = nat_lit 2097153 ∧ nat_lit 0 = nat_lit 0 ∧ nat_lit 2097153 = nat_lit 2097153 ∧ (1 : Int) ≤ (2 : Int) ∧ (2 : Int) ≤ (4 : Int) ∧ List.length (U.list b) ≤ (1099511627776 : Nat)) ∧ Alt (bif decide ((0 : Int) ≤ (0 : Int) ∧ (0 : Int) < (↑(List.length (U.list b)) : Int)) then (nat_lit 2097153 = nat_lit 2097153 ∧ nat_lit 0 = nat_lit 0 ∧ nat_lit 2097153 = nat_lit 2097153 ∧ (1 : Int) ≤ (4 : Int) ∧ (4 : Int) ≤ (4 : Int) ∧ List.length (U.list b) ≤ (1099511627776 : Nat)) ∧ (nat_lit 2097153 = nat_lit 2097153 ∧ nat_lit 0 = nat_lit 0 ∧ nat_lit 2097153 = nat_lit 2097153 ∧ (1 : Int) ≤ (4 : Int) ∧ (4 : Int) ≤ (4 : Int) ∧ List.length (U.list b) ≤ (1099511627776 : Nat)) ∧ (nat_lit 2097153 = nat_lit 2097153 ∧ nat_lit 0 = nat_lit 0 ∧ nat_lit 2097153 = nat_lit 2097153 ∧ (1 : Int) ≤ (4 : Int) ∧ (4 : Int) ≤ (4 : Int) ∧ List.length (U.list b) ≤ (1099511627776 : Nat)) ∧ bif !mayR (IntKind.wrap IntKind.i64 (U.int (nth (U.i (0 : Int)) (U.list b) (Int.toNat (0 : Int))))) (IntKind.wrap IntKind.i64 (getN (U.list b) (4 : Int) (4 : Int))) (IntKind.wrap IntKind.i64 (getN (U.list b) (2 : Int) (2 : Int))) (IntKind.wrap IntKind.i64 (getN (U.list b) (8 : Int) (4 : Int))) (IntKind.wrap IntKind.u32 (IntKind.wrap IntKind.i64 (getN (U.list b) (12 : Int) (4 : Int)))) (U.int k) then R [[U.i (0 : Int), U.i (0 : Int), U.i (0 : Int), U.i (0 : Int), U.i (0 : Int)], [U.i (3 : Int)]] else R [[U.i (IntKind.wrap IntKind.i64 (U.int (nth (U.i (0 : Int)) (U.list b) (Int.toNat (0 : Int))))), U.i (IntKind.wrap IntKind.i64 (getN (U.list b) (4 : Int) (4 : Int))), U.i (IntKind.wrap IntKind.i64 (getN (U.list b) (2 : Int) (2 : Int))), U.i (IntKind.wrap IntKind.i64 (getN (U.list b) (8 : Int) (4 : Int))), U.i (IntKind.wrap IntKind.u32 (IntKind.wrap IntKind.i64 (getN (U.list b) (12 : Int) (4 : Int))))], [U.i (0 : Int)]] else False) ((nat_lit 2097153 = nat_lit 2097153 ∧ nat_lit 0 = nat_lit 0 ∧ nat_lit 2097153 = nat_lit 2097153 ∧ (1 : Int) ≤ (4 : Int) ∧ (4 : Int) ≤ (4 : Int) ∧ List.length (U.list b) ≤ (1099511627776 : Nat)) ∧ Alt (bif decide ((0 : Int) ≤ (0 : Int) ∧ (0 : Int) < (↑(List.length (U.list b)) : Int)) then (nat_lit 2097153 = nat_lit 2097153 ∧ nat_lit 0 = nat_lit 0 ∧ nat_lit 2097153 = nat_lit 2097153 ∧ (1 : Int) ≤ (4 : Int) ∧ (4 : Int) ≤ (4 : Int) ∧ List.length (U.list b) ≤ (1099511627776 : Nat)) ∧ (nat_lit 2097153 = nat_lit 2097153 ∧ nat_lit 0 = nat_lit 0 ∧ nat_lit 2097153 = nat_lit 2097153 ∧ (1 : Int) ≤ (4 : Int) ∧ (4 : Int) ≤ (4 : Int) ∧ List.length (U.list b) ≤ (1099511627776 : Nat)) ∧ bif !mayR (IntKind.wrap IntKind.i64 (U.int (nth (U.i (0 : Int)) (U.list b) (Int.toNat (0 : Int))))) (IntKind.wrap IntKind.i64 (getN (U.list b) (4 : Int) (4 : Int))) (IntKind.wrap IntKind.i64 (getN (U.list b) (2 : Int) (2 : Int))) (IntKind.wrap IntKind.i64 (getN (U.list b) (8 : Int) (4 : Int))) (IntKind.wrap IntKind.u32 (IntKind.wrap IntKind.i64 (getN (U.list b) (12 : Int) (4 : Int)))) (U.int k) then R [[U.i (0 : Int), U.i (0 : Int), U.i (0 : Int), U.i (0 : Int), U.i (0 : Int)], [U.i (3 : Int)]] else R [[U.i (IntKind.wrap IntKind.i64 (U.int (nth (U.i (0 : Int)) (U.list b) (Int.toNat (0 : Int))))), U.i (IntKind.wrap IntKind.i64 (getN (U.list b) (4 : Int) (4 : Int))), U.i (IntKind.wrap IntKind.i64 (getN (U.list b) (2 : Int) (2 : Int))), U.i (IntKind.wrap IntKind.i64 (getN (U.list b) (8 : Int) (4 : Int))), U.i (IntKind.wrap IntKind.u32 (IntKind.wrap IntKind.i64 (getN (U.list b) (12 : Int) (4 : Int))))], [U.i (0 : Int)]] else False) ((nat_lit 2097153 = nat_lit 2097153 ∧ nat_lit 0 = nat_lit 0 ∧ nat_lit 2097153 = nat_lit 2097153 ∧ (1 : Int) ≤ (4 : Int) ∧ (4 : Int) ≤ (4 : Int) ∧ List.length (U.list b) ≤ (1099511627776 : Nat)) ∧ Alt (bif decide ((0 : Int) ≤ (0 : Int) ∧ (0 : Int) < (↑(List.length (U.list b)) : Int)) then (nat_lit 2097153 = nat_lit 2097153 ∧ nat_lit 0 = nat_lit 0 ∧ nat_lit 2097153 = nat_lit 2097153 ∧ (1 : Int) ≤ (4 : Int) ∧ (4 : Int) ≤ (4 : Int) ∧ List.length (U.list b) ≤ (1099511627776 : Nat)) ∧ bif !mayR (IntKind.wrap IntKind.i64 (U.int (nth (U.i (0 : Int)) (U.list b) (Int.toNat (0 : Int))))) (IntKind.wrap IntKind.i64 (getN (U.list b) (4 : Int) (4 : Int))) (IntKind.wrap IntKind.i64 (getN (U.list b) (2 : Int) (2 : Int))) (IntKind.wrap IntKind.i64 (getN (U.list b) (8 : Int) (4 : Int))) (IntKind.wrap IntKind.u32 (IntKind.wrap IntKind.i64 (getN (U.list b) (12 : Int) (4 : Int)))) (U.int k) then R [[U.i (0 : Int), U.i (0 : Int), U.i (0 : Int), U.i (0 : Int), U.i (0 : Int)], [U.i (3 : Int)]] else R [[U.i (IntKind.wrap IntKind.i64 (U.int (nth (U.i (0 : Int)) (U.list b) (Int.toNat (0 : Int))))), U.i (IntKind.wrap IntKind.i64 (getN (U.list b) (4 : Int) (4 : Int))), U.i (IntKind.wrap IntKind.i64 (getN (U.list b) (2 : Int) (2 : Int))), U.i (IntKind.wrap IntKind.i64 (getN (U.list b) (8 : Int) (4 : Int))), U.i (IntKind.wrap IntKind.u32 (IntKind.wrap IntKind.i64 (getN (U.list b) (12 : Int) (4 : Int))))], [U.i (0 : Int)]] else False) ((nat_lit 2097153 = nat_lit 2097153 ∧ nat_lit 0 = nat_lit 0 ∧ nat_lit 2097153 = nat_lit 2097153 ∧ (1 : Int) ≤ (4 : Int) ∧ (4 : Int) ≤ (4 : Int) ∧ List.length (U.list b) ≤ (1099511627776 : Nat)) ∧ bif decide ((0 : Int) ≤ (0 : Int) ∧ (0 : Int) < (↑(List.length (U.list b)) : Int)) then bif !mayR (IntKind.wrap IntKind.i64 (U.int (nth (U.i (0 : Int)) (U.list b) (Int.toNat (0 : Int))))) (IntKind.wrap IntKind.i64 (getN (U.list b) (4 : Int) (4 : Int))) (IntKind.wrap IntKind.i64 (getN (U.list b) (2 : Int) (2 : Int))) (IntKind.wrap IntKind.i64 (getN (U.list b) (8 : Int) (4 : Int))) (IntKind.wrap IntKind.u32 (IntKind.wrap IntKind.i64 (getN (U.list b) (12 : Int) (4 : Int)))) (U.int k) then R [[U.i (0 : Int), U.i (0 : Int), U.i (0 : Int), U.i (0 : Int), U.i (0 : Int)], [U.i (3 : Int)]] else R [[U.i (IntKind.wrap IntKind.i64 (U.int (nth (U.i (0 : Int)) (U.list b) (Int.toNat (0 : Int))))), U.i (IntKind.wrap IntKind.i64 (getN (U.list b) (4 : Int) (4 : Int))), U.i (IntKind.wrap IntKind.i64 (getN (U.list b) (2 : Int) (2 : Int))), U.i (IntKind.wrap IntKind.i64 (getN (U.list b) (8 : Int) (4 : Int))), U.i (IntKind.wrap IntKind.u32 (IntKind.wrap IntKind.i64 (getN (U.list b) (12 : Int) (4 : Int))))], [U.i (0 : Int)]] else False)))))) else False) := by
  rw [eget_tree_alt]
  simp only [Alt_self]
end Go.Mat

namespace Go.Mat
open Go Go.Den Go.Proofs
theorem leV_bd : ∀ {l : List U}, byteOk l → 0 ≤ leV l ∧ leV l < 256 ^ l.length
  | [], _ => by simp [leV]
  | u :: r, h => by
    have h1 := h u (List.mem_cons_self ..)
    have h2 := leV_bd (l := r) fun x hx => h x (List.mem_cons_of_mem _ hx)
    rw [leV, List.length_cons, Int.pow_succ]
    omega
theorem getN_bd {b : List U} {a n : Int} (h : byteOk b) (hn : 0 ≤ n) : 0 ≤ getN b a n ∧ getN b a n < 256 ^ n.toNat := by
  unfold getN
  cases ht : thereR b a n with
  | false =>
    have : (0 : Int) < 256 ^ n.toNat := Int.pow_pos (by omega)
    exact ⟨by simp, this⟩
  | true =>
    have h1 := leV_bd (sub_bytes a n h)
    have h2 := sub_len ht hn
    rw [show (sub b a n).length = n.toNat by omega] at h1
    exact h1
theorem getN1 {b : List U} {a : Int} (h : byteOk b) : 0 ≤ getN b a 1 ∧ getN b a 1 ≤ 255 := by
  have := getN_bd (a := a) (n := 1) h (by omega)
  simp only [Int.reduceToNat, Int.reducePow] at this
  omega
theorem getN2 {b : List U} {a : Int} (h : byteOk b) : 0 ≤ getN b a 2 ∧ getN b a 2 ≤ 65535 := by
  have := getN_bd (a := a) (n := 2) h (by omega)
  simp only [Int.reduceToNat, Int.reducePow] at this
  omega
theorem getN4 {b : List U} {a : Int} (h : byteOk b) : 0 ≤ getN b a 4 ∧ getN b a 4 ≤ 4294967295 := by
  have := getN_bd (a := a) (n := 4) h (by omega)
  simp only [Int.reduceToNat, Int.reducePow] at this
  omega
theorem getE_iff {b : List U} {a n : Int} : (getE b a n != 0) = !thereR b a n := by
  unfold getE
  cases thereR b a n <;> rfl
theorem read_ok : SpecFP PR 73 readP readS := fun fn us hfn hpre => by
  have hf : PR.funcs[(73 : Nat)]? = some Try.f73 := by kernel_rfl
  rw [hf] at hfn; cases hfn
  refine fn_okH (C := readC) (mkC_ok eqs0_ok mixed_ok (.consP there_ok (.consP get_ok .nil)) .nil) hf (by kernel_rfl) (loops_none (by kernel_rfl)) fun hok => ?_
  have hp : Try.f73.params.toList = [32, 3] := by kernel_rfl
  rw [hp] at hok
  obtain ⟨b, a, hus⟩ : ∃ b a, us = [[b], [a]] := by
    obtain ⟨u, u2, rfl, h1, h2⟩ := shape2 (by kernel_rfl : Cs PR 32 = some (false, [.sl false [.int .u8]])) (by kernel_rfl : Cs PR 3 = some (false, [.int .i64])) hok.1
    obtain ⟨b, rfl⟩ := len1 h1
    obtain ⟨a, rfl⟩ := len1 h2
    exact ⟨b, a, rfl⟩
  subst hus
  have hbk : byteOk b.list := bytes_ok (hok.2 [vl (.int .u8) b, vi a] (by kernel_rfl)).1
  refine .eq (read_tree _ b a) ?_
  have hb : b.list.length ≤ 1099511627776 := hpre
  have hn := getN2 (a := a.int) hbk
  unfold readS readV readA readE readR
  simp only [nth_zero, nth_succ]
  refine ⟨⟨by show (1 : Int) ≤ 2; omega, by show (2 : Int) ≤ 4; omega, rfl, hb⟩, ?_⟩
  rw [getE_iff]
  refine bi (fun h => by rw [nt h]; rfl) (fun h => ?_)
  have h := nf h
  rw [h]
  have hi := thereR_iff.1 h
  rw [i64_in (x := a.int + 2) (by omega) (by omega), i64_in (x := getN b.list a.int 2) (by omega) (by omega), i64_in (x := a.int + 2 + getN b.list a.int 2) (by omega) (by omega), Bool.true_and]
  refine ⟨⟨by show 0 ≤ getN b.list a.int 2; omega, by show getN b.list a.int 2 ≤ _; omega, hb⟩, bi (fun h1 => by rw [nt h1]; rfl) (fun h1 => ?_)⟩
  rw [nf h1]
  rfl
theorem clo_ok : SpecT PR 82 cloF := fun fn hfn => by
  have hf : PR.funcs[(82 : Nat)]? = some Try.f82 := by kernel_rfl
  rw [hf] at hfn; cases hfn
  refine fnT_okH (C := cloC) (mkC_ok eqs0_ok mixed_ok (.consP get_ok .nil) .nil) hf (by kernel_rfl) (loops_none (by kernel_rfl)) fun vs objs R h1 h2 h => ?_
  clear h1 h2
  unfold cloF at h
  split at h
  · rename_i a n p o i b
    obtain ⟨⟨rfl, rfl, rfl, h1, h4, hb⟩, h⟩ := h
    refine .eq (clo_tree R a n b) ?_
    exact ⟨⟨h1, h4, rfl, hb⟩, h⟩
  · exact h.elim
theorem egetR_no {b : List U} {k : Int} (h : ¬ (b.length = 16 ∧ (U.at b 1).int = 0)) : egetR b k = false := by
  unfold egetR
  refine Bool.eq_false_iff.2 fun h' => h ?_
  simp only [Bool.and_eq_true, decide_eq_true_eq, beq_iff_eq] at h'
  exact ⟨h'.1.1, h'.1.2⟩
theorem u32_in {x : Int} (h : 0 ≤ x) (h' : x ≤ 4294967295) : IntKind.wrap .u32 x = x := by
  simp only [IntKind.wrap, IntKind.bits, IntKind.signed]; simp; omega
theorem eget_ok : SpecF PR 81 egetS := fun fn us hfn => by
  have hf : PR.funcs[(81 : Nat)]? = some Try.f81 := by kernel_rfl
  rw [hf] at hfn; cases hfn
  refine fn_okH (C := egetC) (mkC_ok eqs0_ok mixed_ok (.cons may_ok .nil) (.cons clo_ok .nil)) hf (by kernel_rfl) (loops_none (by kernel_rfl)) fun hok => ?_
  have hp : Try.f81.params.toList = [32, 3] := by kernel_rfl
  rw [hp] at hok
  obtain ⟨b, k, hus⟩ : ∃ b k, us = [[b], [k]] := by
    obtain ⟨u, u2, rfl, h1, h2⟩ := shape2 (by kernel_rfl : Cs PR 32 = some (false, [.sl false [.int .u8]])) (by kernel_rfl : Cs PR 3 = some (false, [.int .i64])) hok.1
    obtain ⟨b, rfl⟩ := len1 h1
    obtain ⟨k, rfl⟩ := len1 h2
    exact ⟨b, k, rfl⟩
  subst hus
  have hbk : byteOk b.list := bytes_ok (hok.2 [vl (.int .u8) b, vi k] (by kernel_rfl)).1
  refine .eq (eget_tree _ b k) ?_
  have hS : egetS [[b], [k]] = [[.i (bif egetR b.list k.int then eK b.list else 0), .i (bif egetR b.list k.int then eS b.list else 0), .i (bif egetR b.list k.int then eC b.list else 0), .i (bif egetR b.list k.int then eZ b.list else 0), .i (bif egetR b.list k.int then eM b.list else 0)], [.i (bif egetR b.list k.int then 0 else 3)]] := rfl
  rw [hS]
  refine bi (fun h => ?_) (fun h => ?_)
  · have h := nt h
    rw [egetR_no (fun h' => by rw [h'.1] at h; simp at h)]; rfl
  have h := nf h
  simp only [beq_iff_eq] at h
  have hl : b.list.length = 16 := by omega
  refine dt ⟨by omega, by omega⟩ (bi (fun h1 => ?_) (fun h1 => ?_))
  · have h1 := nt h1
    rw [egetR_no (fun h' => by have h2 := h'.2; simp only [U.at] at h2; rw [show Int.toNat 1 = 1 from rfl, h2] at h1; simp at h1)]; rfl
  have h1 := nf h1
  have hb40 : b.list.length ≤ 1099511627776 := by omega
  have d0 : decide ((0 : Int) ≤ 0 ∧ (0 : Int) < (b.list.length : Int)) = true := decide_eq_true ⟨by omega, by omega⟩
  have g2 := getN2 (a := 2) hbk
  have g4 := getN4 (a := 4) hbk
  have g8 := getN4 (a := 8) hbk
  have g12 := getN4 (a := 12) hbk
  have gk := hbk _ (mem_at (L := b.list) (i := 0) (by omega))
  simp only [U.at] at gk
  have w0 : IntKind.wrap .i64 (nth (U.i 0) b.list 0).int = (nth (U.i 0) b.list 0).int := i64_in (by omega) (by omega)
  have w2 : IntKind.wrap .i64 (getN b.list 2 2) = getN b.list 2 2 := i64_in (by omega) (by omega)
  have w4 : IntKind.wrap .i64 (getN b.list 4 4) = getN b.list 4 4 := i64_in (by omega) (by omega)
  have w8 : IntKind.wrap .i64 (getN b.list 8 4) = getN b.list 8 4 := i64_in (by omega) (by omega)
  have w12 : IntKind.wrap .u32 (IntKind.wrap .i64 (getN b.list 12 4)) = getN b.list 12 4 := by rw [i64_in (by omega) (by omega), u32_in (by omega) (by omega)]
  have hR : egetR b.list k.int = mayR (nth (U.i 0) b.list 0).int (getN b.list 4 4) (getN b.list 2 2) (getN b.list 8 4) (getN b.list 12 4) k.int := by
    unfold egetR
    rw [decide_eq_true hl, show ((U.at b.list 1).int == 0) = true from h1]
    rfl
  have d1 : decide ((0 : Int) < (b.list.length : Int)) = true := decide_eq_true (by omega)
  simp only [d0, d1, cond_true, hb40, Int.toNat_zero, w0, w2, w4, w8, w12, Int.reduceLE, and_self, true_and, Alt_self, ← hR]
  exact bi (fun h2 => by rw [nt h2]; rfl) (fun h2 => by rw [nf h2]; rfl)
end Go.Mat

namespace Go.Mat
open Go Go.Den Go.Proofs
abbrev entT : TypeId := 54
abbrev leafT : TypeId := 51
def entU (b : List U) : U := .l [.i (eK b), .i (eS b), .i (eC b), .i (eZ b), .i (eM b)]
def entsK (b : List U) (k : Int) : Nat → Int → Bool
  | 0, _ => true
  | m + 1, a => decide (a + 16 ≤ (b.length : Int)) && egetR (sub b a 16) k && entsK b k m (a + 16)
def entsG (b : List U) : Nat → Int → List U
  | 0, _ => []
  | m + 1, a => entU (sub b a 16) :: entsG b m (a + 16)
def padU (L : List U) (i : Int) : List U := L ++ List.replicate (i - L.length).toNat (.l [])
def leavesK (b : List U) (k : Int) : Nat → Int → List U → Bool
  | 0, _, _ => true
  | m + 1, a, L => thereR b a 2 && decide ((L.length : Int) ≤ getN b a 2) && decide (getN b a 2 < 512) && entsK b k 8 (a + 2) && leavesK b k m (a + 130) (padU L (getN b a 2) ++ [.l (entsG b 8 (a + 2))])
def leavesG (b : List U) : Nat → Int → List U → List U
  | 0, _, L => L
  | m + 1, a, L => leavesG b m (a + 130) (padU L (getN b a 2) ++ [.l (entsG b 8 (a + 2))])
abbrev tgL (b : List U) (a : Int) : List U := leavesG b (getN b a 2).toNat (a + 2) []
def tgR (b : List U) (a n k : Int) : Bool := thereR b a 2 && leavesK b k (getN b a 2).toNat (a + 2) [] && tableR (tgL b a) n k
def tgP : List (List U) → Prop := fun us => (nth (.i 0) (nth [] us 0) 0).list.length ≤ 1099511627776
def tgS : List (List U) → List (List U) := fun us => [[.l (bif tgR (nth (.i 0) (nth [] us 0) 0).list (nth (.i 0) (nth [] us 1) 0).int (nth (.i 0) (nth [] us 2) 0).int (nth (.i 0) (nth [] us 3) 0).int then tgL (nth (.i 0) (nth [] us 0) 0).list (nth (.i 0) (nth [] us 1) 0).int else [])],
  [.i (bif tgR (nth (.i 0) (nth [] us 0) 0).list (nth (.i 0) (nth [] us 1) 0).int (nth (.i 0) (nth [] us 2) 0).int (nth (.i 0) (nth [] us 3) 0).int then (nth (.i 0) (nth [] us 1) 0).int + 2 + 130 * getN (nth (.i 0) (nth [] us 0) 0).list (nth (.i 0) (nth [] us 1) 0).int 2 else 0)],
  [.i (bif tgR (nth (.i 0) (nth [] us 0) 0).list (nth (.i 0) (nth [] us 1) 0).int (nth (.i 0) (nth [] us 2) 0).int (nth (.i 0) (nth [] us 3) 0).int then 0 else 3)]]
abbrev tgO (L : List U) : List (Nat × Den.Obj) := [(1024, .box [.own 1026]), (1026, .arr leafT []), (1664, .box [.own 1666]), (1666, .arr leafT L)]
abbrev tgBad : St := ⟨[(8, .ptr 1024 0), (9, vi (.i 0)), (10, vi (.i 3))], [(1024, .box [.own 8519682]), (8519682, .arr leafT [])]⟩
def tgIs (o1 o2 : Nat) (t1 t2 : TypeId) (z : List U) (p8 p13 o8 o13 : Nat) : Prop := o1 = 1026 ∧ o2 = 1666 ∧ t1 = leafT ∧ t2 = leafT ∧ z = [] ∧ p8 = 1024 ∧ p13 = 1664 ∧ o8 = 0 ∧ o13 = 0
noncomputable def tgLoop2 : LoopF := fun _ svs os k => match svs, os with
  | [.val (.int .u64) v, .ptr p13 o13, .ptr p8 o8, .val (.sl false [.int .u8]) b, .val (.int .i64) a, .val (.int .i64) n, .val (.int .i64) kk, .val (.int .u64) m, .val (.int .u64) i], [.box [.own o1], .arr t1 z, .box [.own o2], .arr t2 L] =>
    (tgIs o1 o2 t1 t2 z p8 p13 o8 o13 ∧ 0 ≤ v.int ∧ v.int < 512 ∧ L.length ≤ 512) ∧
    k (.exit 2) ⟨[(13, .ptr 1664 0), (8, .ptr 1024 0), (0, vl (.int .u8) b), (1, vi a), (2, vi n), (3, vi kk), (30, vu m), (31, vu i)], tgO (padU L v.int)⟩
  | _, _ => False
noncomputable def tgLoop4 : LoopF := fun _ svs os k => match svs, os with
  | [.val (.int .i64) j, .own o16, .ptr p13 o13, .ptr p8 o8, .val (.sl false [.int .u8]) b, .val (.int .i64) a, .val (.int .i64) n, .val (.int .i64) kk, .val (.int .u64) m, .val (.int .u64) i], [.arr t16 xs, .box [.own o1], .arr t1 z, .box [.own o2], .arr t2 L] =>
    (tgIs o1 o2 t1 t2 z p8 p13 o8 o13 ∧ o16 = 2172 ∧ t16 = entT ∧ a = .i a.int ∧ b.list.length ≤ 1099511627776 ∧ 0 ≤ a.int ∧ a.int ≤ b.list.length ∧ 0 ≤ j.int ∧ j.int ≤ 8 ∧ (xs.length : Int) = j.int ∧ byteOk b.list) ∧
    (bif entsK b.list kk.int (8 - j.int).toNat a.int then
      k (.exit 4) ⟨[(16, .own 2172), (13, .ptr 1664 0), (8, .ptr 1024 0), (0, vl (.int .u8) b), (1, vi (.i (a.int + 16 * (8 - j.int)))), (2, vi n), (3, vi kk), (30, vu m), (31, vu i)], (2172, .arr entT (xs ++ entsG b.list (8 - j.int).toNat a.int)) :: tgO L⟩
      else k .ret tgBad)
  | _, _ => False
noncomputable def tgLoop0 : LoopF := fun _ svs os k => match svs, os with
  | [.val (.int .u64) i, .val (.int .u64) m, .ptr p13 o13, .ptr p8 o8, .val (.sl false [.int .u8]) b, .val (.int .i64) a, .val (.int .i64) n, .val (.int .i64) kk], [.box [.own o1], .arr t1 z, .box [.own o2], .arr t2 L] =>
    (tgIs o1 o2 t1 t2 z p8 p13 o8 o13 ∧ a = .i a.int ∧ b.list.length ≤ 1099511627776 ∧ 0 ≤ a.int ∧ a.int ≤ b.list.length ∧ 0 ≤ i.int ∧ i.int ≤ m.int ∧ m.int ≤ 65535 ∧ L.length ≤ 512 ∧ byteOk b.list) ∧
    (bif leavesK b.list kk.int (m.int - i.int).toNat a.int L then
      k (.exit 0) ⟨[(13, .ptr 1664 0), (8, .ptr 1024 0), (1, vi (.i (a.int + 130 * (m.int - i.int)))), (2, vi n), (3, vi kk)], tgO (leavesG b.list (m.int - i.int).toNat a.int L)⟩
      else k .ret tgBad)
  | _, _ => False
noncomputable def tgC : Ctx := mkC PR eqs0 (fnsConsP 72 getP getS (fnsCons 81 egetS (fnsCons 46 tableS fnsNil))) trsNil
  (loopCons 4 [67, 16, 13, 8, 0, 1, 2, 3, 30, 31] [2172, 1024, 1026, 1664, 1666] tgLoop4 (loopCons 2 [14, 13, 8, 0, 1, 2, 3, 30, 31] [1024, 1026, 1664, 1666] tgLoop2 (loopCons 0 [31, 30, 13, 8, 0, 1, 2, 3] [1024, 1026, 1664, 1666] tgLoop0 noLoops)))
  (outCons 4 [16, 13, 8, 0, 1, 2, 3, 30, 31] [2172, 1024, 1026, 1664, 1666] (outCons 1048580 [8, 9, 10] [1024, 8519682] (outCons 2 [13, 8, 0, 1, 2, 3, 30, 31] [1024, 1026, 1664, 1666] (outCons 0 [13, 8, 1, 2, 3] [1024, 1026, 1664, 1666] (outCons 1048576 [8, 9, 10] [1024, 8519682] noOut))))) noOut
theorem tg_round2 (pan : KP) (μ : Mu) (N : Nat) (k : KE) (v b a n kk m i : U) (L : List U) : (exec (tgC.panics pan) (loopBody Try.f74 1) 2 ⟨[(14, vu v), (13, .ptr 1664 0), (8, .ptr 1024 0), (0, vl (.int .u8) b), (1, vi a), (2, vi n), (3, vi kk), (30, vu m), (31, vu i)], tgO L⟩ (again PR (some ([13, 8, 0, 1, 2, 3, 30, 31], [1024, 1026, 1664, 1666])) none pan [14, 13, 8, 0, 1, 2, 3, 30, 31] [1024, 1026, 1664, 1666] tgLoop2 μ N k)) = (bif decide ((↑(List.length L) : Int) < IntKind.wrap IntKind.i64 (U.int v)) then bif decide (List.length L + ((0 : Nat) + (1 : Nat)) ≤ room) && !oddB (1666 : Nat) then bif Nat.blt (μ [SV.val (Ct.int IntKind.u64)
  v, SV.ptr (nat_lit 1664) (nat_lit 0), SV.ptr (nat_lit 1024) (nat_lit 0), SV.val (Ct.sl false [Ct.int IntKind.u8]) b, SV.val (Ct.int IntKind.i64) a, SV.val (Ct.int IntKind.i64) n, SV.val (Ct.int IntKind.i64)
  kk, SV.val (Ct.int IntKind.u64) m, SV.val (Ct.int IntKind.u64) i] [Obj.box [SV.own (nat_lit 1026)], Obj.arr (nat_lit 51) [], Obj.box [SV.own (nat_lit 1666)], Obj.arr (nat_lit 51) (L ++ [U.l []])]) N then
  (tgIs (1026 : Nat) (1666 : Nat) leafT (51 : Nat) [] (1024 : Nat) (1664 : Nat) (0 : Nat) (0 : Nat) ∧ (0 : Int) ≤ U.int v ∧ U.int v < (512 : Int) ∧ List.length (L ++ [U.l []]) ≤ (512 : Nat)) ∧ k (Ex.exit
  (nat_lit 2)) (St.mk [(nat_lit 13, SV.ptr (nat_lit 1664) (nat_lit 0)), (nat_lit 8, SV.ptr (nat_lit 1024) (nat_lit 0)), (nat_lit 0, SV.val (Ct.sl false [Ct.int IntKind.u8]) b), (nat_lit 1, SV.val (Ct.int
  IntKind.i64) a), (nat_lit 2, SV.val (Ct.int IntKind.i64) n), (nat_lit 3, SV.val (Ct.int IntKind.i64) kk), (nat_lit 30, SV.val (Ct.int IntKind.u64) m), (nat_lit 31, SV.val (Ct.int IntKind.u64) i)] [(nat_lit
  1024, Obj.box [SV.own (nat_lit 1026)]), (nat_lit 1026, Obj.arr (nat_lit 51) []), (nat_lit 1664, Obj.box [SV.own (nat_lit 1666)]), (nat_lit 1666, Obj.arr (nat_lit 51) (padU (L ++ [U.l []]) (U.int v)))])
  else False else False else k (Ex.exit (nat_lit 2)) (St.mk [(nat_lit 13, SV.ptr (nat_lit 1664) (nat_lit 0)), (nat_lit 8, SV.ptr (nat_lit 1024) (nat_lit 0)), (nat_lit 0, SV.val (Ct.sl false [Ct.int IntKind.u8])
  b), (nat_lit 1, SV.val (Ct.int IntKind.i64) a), (nat_lit 2, SV.val (Ct.int IntKind.i64) n), (nat_lit 3, SV.val (Ct.int IntKind.i64) kk), (nat_lit 30, SV.val (Ct.int IntKind.u64) m), (nat_lit 31, SV.val
  (Ct.int IntKind.u64) i)] [(nat_lit 1024, Obj.box [SV.own (nat_lit 1026)]), (nat_lit 1026, Obj.arr (nat_lit 51) []), (nat_lit 1664, Obj.box [SV.own (nat_lit 1666)]), (nat_lit 1666, Obj.arr (nat_lit 51)
  L)])) := by kernel_rfl
theorem tg_round4 (pan : KP) (μ : Mu) (N : Nat) (k : KE) (j b a n kk m i : U) (xs L : List U) : (exec (tgC.panics pan) (loopBody Try.f74 2) 4 ⟨[(67, vi j), (16, .own 2172), (13, .ptr 1664 0), (8, .ptr 1024 0), (0, vl (.int .u8) b), (1, vi a), (2, vi n), (3, vi kk), (30, vu m), (31, vu i)], (2172, .arr entT xs) :: tgO L⟩ (again PR (some ([16, 13, 8, 0, 1, 2, 3, 30, 31], [2172, 1024, 1026, 1664, 1666])) (some ([8, 9, 10], [1024, 8519682])) pan [67, 16, 13, 8, 0, 1, 2, 3, 30, 31] [2172, 1024, 1026, 1664, 1666] tgLoop4 μ N k)) = (bif decide (U.int j < (8 : Int)) then bif decide (IntKind.wrap IntKind.i64 ((↑(List.length (U.list b)) : Int) - U.int a) < (16 : Int)) then k Ex.ret (St.mk [(nat_lit 8, SV.ptr (nat_lit 1024) (nat_lit 0)),
  (nat_lit 9, SV.val (Ct.int IntKind.i64) (U.i (0 : Int))), (nat_lit 10, SV.val (Ct.int IntKind.i64) (U.i (3 : Int)))] [(nat_lit 1024, Obj.box [SV.own (nat_lit 8519682)]), (nat_lit 8519682, Obj.arr (nat_lit
  51) [])]) else bif decide ((0 : Int) ≤ U.int a ∧ U.int a ≤ IntKind.wrap IntKind.i64 (U.int a + (16 : Int)) ∧ IntKind.wrap IntKind.i64 (U.int a + (16 : Int)) ≤ IntKind.wrap IntKind.i64 (U.int a + (16 :
  Int)) ∧ IntKind.wrap IntKind.i64 (U.int a + (16 : Int)) ≤ (↑(List.length (U.list b)) : Int)) && true then bif (bif egetR (List.drop (Int.toNat (U.int a)) (List.take (Int.toNat (IntKind.wrap IntKind.i64
  (U.int a + (16 : Int)))) (U.list b))) (U.int kk) then (0 : Int) else (3 : Int)) != (0 : Int) then k Ex.ret (St.mk [(nat_lit 8, SV.ptr (nat_lit 1024) (nat_lit 0)), (nat_lit 9, SV.val (Ct.int IntKind.i64)
  (U.i (0 : Int))), (nat_lit 10, SV.val (Ct.int IntKind.i64) (U.i (3 : Int)))] [(nat_lit 1024, Obj.box [SV.own (nat_lit 8519682)]), (nat_lit 8519682, Obj.arr (nat_lit 51) [])]) else bif decide (List.length
  xs + ((0 : Nat) + (1 : Nat)) ≤ room) && !oddB (2172 : Nat) then bif Nat.blt (μ [SV.val (Ct.int IntKind.i64) (U.i (IntKind.wrap IntKind.i64 (U.int j + (1 : Int)))), SV.own (nat_lit 2172), SV.ptr (nat_lit
  1664) (nat_lit 0), SV.ptr (nat_lit 1024) (nat_lit 0), SV.val (Ct.sl false [Ct.int IntKind.u8]) b, SV.val (Ct.int IntKind.i64) (U.i (IntKind.wrap IntKind.i64 (U.int a + (16 : Int)))), SV.val (Ct.int IntKind.i64)
  n, SV.val (Ct.int IntKind.i64) kk, SV.val (Ct.int IntKind.u64) m, SV.val (Ct.int IntKind.u64) i] [Obj.arr (nat_lit 54) (xs ++ [U.l [U.i (bif egetR (List.drop (Int.toNat (U.int a)) (List.take (Int.toNat
  (IntKind.wrap IntKind.i64 (U.int a + (16 : Int)))) (U.list b))) (U.int kk) then eK (List.drop (Int.toNat (U.int a)) (List.take (Int.toNat (IntKind.wrap IntKind.i64 (U.int a + (16 : Int)))) (U.list b)))
  else (0 : Int)), U.i (bif egetR (List.drop (Int.toNat (U.int a)) (List.take (Int.toNat (IntKind.wrap IntKind.i64 (U.int a + (16 : Int)))) (U.list b))) (U.int kk) then eS (List.drop (Int.toNat (U.int a))
  (List.take (Int.toNat (IntKind.wrap IntKind.i64 (U.int a + (16 : Int)))) (U.list b))) else (0 : Int)), U.i (bif egetR (List.drop (Int.toNat (U.int a)) (List.take (Int.toNat (IntKind.wrap IntKind.i64 (U.int
  a + (16 : Int)))) (U.list b))) (U.int kk) then eC (List.drop (Int.toNat (U.int a)) (List.take (Int.toNat (IntKind.wrap IntKind.i64 (U.int a + (16 : Int)))) (U.list b))) else (0 : Int)), U.i (bif egetR
  (List.drop (Int.toNat (U.int a)) (List.take (Int.toNat (IntKind.wrap IntKind.i64 (U.int a + (16 : Int)))) (U.list b))) (U.int kk) then eZ (List.drop (Int.toNat (U.int a)) (List.take (Int.toNat (IntKind.wrap
  IntKind.i64 (U.int a + (16 : Int)))) (U.list b))) else (0 : Int)), U.i (bif egetR (List.drop (Int.toNat (U.int a)) (List.take (Int.toNat (IntKind.wrap IntKind.i64 (U.int a + (16 : Int)))) (U.list b)))
  (U.int kk) then eM (List.drop (Int.toNat (U.int a)) (List.take (Int.toNat (IntKind.wrap IntKind.i64 (U.int a + (16 : Int)))) (U.list b))) else (0 : Int))]]), Obj.box [SV.own (nat_lit 1026)], Obj.arr (nat_lit
  51) [], Obj.box [SV.own (nat_lit 1666)], Obj.arr (nat_lit 51) L]) N then (tgIs (1026 : Nat) (1666 : Nat) leafT leafT [] (1024 : Nat) (1664 : Nat) (0 : Nat) (0 : Nat) ∧ nat_lit 2172 = nat_lit 2172 ∧ nat_lit
  54 = nat_lit 54 ∧ U.i (IntKind.wrap IntKind.i64 (U.int a + (16 : Int))) = U.i (IntKind.wrap IntKind.i64 (U.int a + (16 : Int))) ∧ List.length (U.list b) ≤ (1099511627776 : Nat) ∧ (0 : Int) ≤ IntKind.wrap
  IntKind.i64 (U.int a + (16 : Int)) ∧ IntKind.wrap IntKind.i64 (U.int a + (16 : Int)) ≤ (↑(List.length (U.list b)) : Int) ∧ (0 : Int) ≤ IntKind.wrap IntKind.i64 (U.int j + (1 : Int)) ∧ IntKind.wrap IntKind.i64
  (U.int j + (1 : Int)) ≤ (8 : Int) ∧ (↑(List.length (xs ++ [U.l [U.i (bif egetR (List.drop (Int.toNat (U.int a)) (List.take (Int.toNat (IntKind.wrap IntKind.i64 (U.int a + (16 : Int)))) (U.list b))) (U.int
  kk) then eK (List.drop (Int.toNat (U.int a)) (List.take (Int.toNat (IntKind.wrap IntKind.i64 (U.int a + (16 : Int)))) (U.list b))) else (0 : Int)), U.i (bif egetR (List.drop (Int.toNat (U.int a)) (List.take
  (Int.toNat (IntKind.wrap IntKind.i64 (U.int a + (16 : Int)))) (U.list b))) (U.int kk) then eS (List.drop (Int.toNat (U.int a)) (List.take (Int.toNat (IntKind.wrap IntKind.i64 (U.int a + (16 : Int)))) (U.list
  b))) else (0 : Int)), U.i (bif egetR (List.drop (Int.toNat (U.int a)) (List.take (Int.toNat (IntKind.wrap IntKind.i64 (U.int a + (16 : Int)))) (U.list b))) (U.int kk) then eC (List.drop (Int.toNat (U.int
  a)) (List.take (Int.toNat (IntKind.wrap IntKind.i64 (U.int a + (16 : Int)))) (U.list b))) else (0 : Int)), U.i (bif egetR (List.drop (Int.toNat (U.int a)) (List.take (Int.toNat (IntKind.wrap IntKind.i64
  (U.int a + (16 : Int)))) (U.list b))) (U.int kk) then eZ (List.drop (Int.toNat (U.int a)) (List.take (Int.toNat (IntKind.wrap IntKind.i64 (U.int a + (16 : Int)))) (U.list b))) else (0 : Int)), U.i (bif
  egetR (List.drop (Int.toNat (U.int a)) (List.take (Int.toNat (IntKind.wrap IntKind.i64 (U.int a + (16 : Int)))) (U.list b))) (U.int kk) then eM (List.drop (Int.toNat (U.int a)) (List.take (Int.toNat (IntKind.wrap
  IntKind.i64 (U.int a + (16 : Int)))) (U.list b))) else (0 : Int))]])) : Int) = IntKind.wrap IntKind.i64 (U.int j + (1 : Int)) ∧ byteOk (U.list b)) ∧ bif entsK (U.list b) (U.int kk) (Int.toNat ((8 : Int)
  - IntKind.wrap IntKind.i64 (U.int j + (1 : Int)))) (IntKind.wrap IntKind.i64 (U.int a + (16 : Int))) then k (Ex.exit (nat_lit 4)) (St.mk [(nat_lit 16, SV.own (nat_lit 2172)), (nat_lit 13, SV.ptr (nat_lit
  1664) (nat_lit 0)), (nat_lit 8, SV.ptr (nat_lit 1024) (nat_lit 0)), (nat_lit 0, SV.val (Ct.sl false [Ct.int IntKind.u8]) b), (nat_lit 1, SV.val (Ct.int IntKind.i64) (U.i (IntKind.wrap IntKind.i64 (U.int
  a + (16 : Int)) + (16 : Int) * ((8 : Int) - IntKind.wrap IntKind.i64 (U.int j + (1 : Int)))))), (nat_lit 2, SV.val (Ct.int IntKind.i64) n), (nat_lit 3, SV.val (Ct.int IntKind.i64) kk), (nat_lit 30, SV.val
  (Ct.int IntKind.u64) m), (nat_lit 31, SV.val (Ct.int IntKind.u64) i)] [(nat_lit 2172, Obj.arr (nat_lit 54) (xs ++ [U.l [U.i (bif egetR (List.drop (Int.toNat (U.int a)) (List.take (Int.toNat (IntKind.wrap
  IntKind.i64 (U.int a + (16 : Int)))) (U.list b))) (U.int kk) then eK (List.drop (Int.toNat (U.int a)) (List.take (Int.toNat (IntKind.wrap IntKind.i64 (U.int a + (16 : Int)))) (U.list b))) else (0 : Int)),
  U.i (bif egetR (List.drop (Int.toNat (U.int a)) (List.take (Int.toNat (IntKind.wrap IntKind.i64 (U.int a + (16 : Int)))) (U.list b))) (U.int kk) then eS (List.drop (Int.toNat (U.int a)) (List.take (Int.toNat
  (IntKind.wrap IntKind.i64 (U.int a + (16 : Int)))) (U.list b))) else (0 : Int)), U.i (bif egetR (List.drop (Int.toNat (U.int a)) (List.take (Int.toNat (IntKind.wrap IntKind.i64 (U.int a + (16 : Int))))
  (U.list b))) (U.int kk) then eC (List.drop (Int.toNat (U.int a)) (List.take (Int.toNat (IntKind.wrap IntKind.i64 (U.int a + (16 : Int)))) (U.list b))) else (0 : Int)), U.i (bif egetR (List.drop (Int.toNat
  (U.int a)) (List.take (Int.toNat (IntKind.wrap IntKind.i64 (U.int a + (16 : Int)))) (U.list b))) (U.int kk) then eZ (List.drop (Int.toNat (U.int a)) (List.take (Int.toNat (IntKind.wrap IntKind.i64 (U.int
  a + (16 : Int)))) (U.list b))) else (0 : Int)), U.i (bif egetR (List.drop (Int.toNat (U.int a)) (List.take (Int.toNat (IntKind.wrap IntKind.i64 (U.int a + (16 : Int)))) (U.list b))) (U.int kk) then eM
  (List.drop (Int.toNat (U.int a)) (List.take (Int.toNat (IntKind.wrap IntKind.i64 (U.int a + (16 : Int)))) (U.list b))) else (0 : Int))]] ++ entsG (U.list b) (Int.toNat ((8 : Int) - IntKind.wrap IntKind.i64
  (U.int j + (1 : Int)))) (IntKind.wrap IntKind.i64 (U.int a + (16 : Int))))), (nat_lit 1024, Obj.box [SV.own (nat_lit 1026)]), (nat_lit 1026, Obj.arr (nat_lit 51) []), (nat_lit 1664, Obj.box [SV.own (nat_lit
  1666)]), (nat_lit 1666, Obj.arr (nat_lit 51) L)]) else k Ex.ret (St.mk [(nat_lit 8, SV.ptr (nat_lit 1024) (nat_lit 0)), (nat_lit 9, SV.val (Ct.int IntKind.i64) (U.i (0 : Int))), (nat_lit 10, SV.val (Ct.int
  IntKind.i64) (U.i (3 : Int)))] [(nat_lit 1024, Obj.box [SV.own (nat_lit 8519682)]), (nat_lit 8519682, Obj.arr (nat_lit 51) [])]) else False else False else False else k (Ex.exit (nat_lit 4)) (St.mk [(nat_lit
  16, SV.own (nat_lit 2172)), (nat_lit 13, SV.ptr (nat_lit 1664) (nat_lit 0)), (nat_lit 8, SV.ptr (nat_lit 1024) (nat_lit 0)), (nat_lit 0, SV.val (Ct.sl false [Ct.int IntKind.u8]) b), (nat_lit 1, SV.val
  (Ct.int IntKind.i64) a), (nat_lit 2, SV.val (Ct.int IntKind.i64) n), (nat_lit 3, SV.val (Ct.int IntKind.i64) kk), (nat_lit 30, SV.val (Ct.int IntKind.u64) m), (nat_lit 31, SV.val (Ct.int IntKind.u64) i)]
  [(nat_lit 2172, Obj.arr (nat_lit 54) xs), (nat_lit 1024, Obj.box [SV.own (nat_lit 1026)]), (nat_lit 1026, Obj.arr (nat_lit 51) []), (nat_lit 1664, Obj.box [SV.own (nat_lit 1666)]), (nat_lit 1666, Obj.arr
  (nat_lit 51) L)])) := by kernel_rfl
theorem tg_round0 (pan : KP) (μ : Mu) (N : Nat) (k : KE) (i m b a n kk : U) (L : List U) : (exec (tgC.panics pan) (loopBody Try.f74 0) 0 ⟨[(31, vu i), (30, vu m), (13, .ptr 1664 0), (8, .ptr 1024 0), (0, vl (.int .u8) b), (1, vi a), (2, vi n), (3, vi kk)], tgO L⟩ (again PR (some ([13, 8, 1, 2, 3], [1024, 1026, 1664, 1666])) (some ([8, 9, 10], [1024, 8519682])) pan [31, 30, 13, 8, 0, 1, 2, 3] [1024, 1026, 1664, 1666] tgLoop0 μ N k)) = (bif decide (U.int i < U.int m) then getP [[b], [a], [U.i (2 : Int)], [U.b false]] ∧ bif getE (U.list b) (U.int a) (2 : Int) != (0 : Int) then k Ex.ret (St.mk [(nat_lit 8, SV.ptr (nat_lit 1024) (nat_lit
  0)), (nat_lit 9, SV.val (Ct.int IntKind.i64) (U.i (0 : Int))), (nat_lit 10, SV.val (Ct.int IntKind.i64) (U.i (3 : Int)))] [(nat_lit 1024, Obj.box [SV.own (nat_lit 8519682)]), (nat_lit 8519682, Obj.arr
  (nat_lit 51) [])]) else bif decide (IntKind.wrap IntKind.i64 (getN (U.list b) (U.int a) (2 : Int)) < (↑(List.length L) : Int)) then k Ex.ret (St.mk [(nat_lit 8, SV.ptr (nat_lit 1024) (nat_lit 0)), (nat_lit
  9, SV.val (Ct.int IntKind.i64) (U.i (0 : Int))), (nat_lit 10, SV.val (Ct.int IntKind.i64) (U.i (3 : Int)))] [(nat_lit 1024, Obj.box [SV.own (nat_lit 8519682)]), (nat_lit 8519682, Obj.arr (nat_lit 51) [])])
  else bif decide (getN (U.list b) (U.int a) (2 : Int) ≥ (512 : Int)) then k Ex.ret (St.mk [(nat_lit 8, SV.ptr (nat_lit 1024) (nat_lit 0)), (nat_lit 9, SV.val (Ct.int IntKind.i64) (U.i (0 : Int))), (nat_lit
  10, SV.val (Ct.int IntKind.i64) (U.i (3 : Int)))] [(nat_lit 1024, Obj.box [SV.own (nat_lit 8519682)]), (nat_lit 8519682, Obj.arr (nat_lit 51) [])]) else (tgIs (1026 : Nat) (1666 : Nat) leafT leafT [] (1024
  : Nat) (1664 : Nat) (0 : Nat) (0 : Nat) ∧ (0 : Int) ≤ getN (U.list b) (U.int a) (2 : Int) ∧ getN (U.list b) (U.int a) (2 : Int) < (512 : Int) ∧ List.length L ≤ (512 : Nat)) ∧ (tgIs (1026 : Nat) (1666 :
  Nat) leafT leafT [] (1024 : Nat) (1664 : Nat) (0 : Nat) (0 : Nat) ∧ nat_lit 2172 = nat_lit 2172 ∧ nat_lit 54 = nat_lit 54 ∧ U.i (IntKind.wrap IntKind.i64 (U.int a + (2 : Int))) = U.i (IntKind.wrap IntKind.i64
  (U.int a + (2 : Int))) ∧ List.length (U.list b) ≤ (1099511627776 : Nat) ∧ (0 : Int) ≤ IntKind.wrap IntKind.i64 (U.int a + (2 : Int)) ∧ IntKind.wrap IntKind.i64 (U.int a + (2 : Int)) ≤ (↑(List.length (U.list
  b)) : Int) ∧ (0 : Int) ≤ (0 : Int) ∧ (0 : Int) ≤ (8 : Int) ∧ (↑(0 : Nat) : Int) = (0 : Int) ∧ byteOk (U.list b)) ∧ bif entsK (U.list b) (U.int kk) (Int.toNat ((8 : Int) - (0 : Int))) (IntKind.wrap IntKind.i64
  (U.int a + (2 : Int))) then bif decide (List.length (padU L (getN (U.list b) (U.int a) (2 : Int))) + ((0 : Nat) + (1 : Nat)) ≤ room) && !oddB (1666 : Nat) then bif Nat.blt (μ [SV.val (Ct.int IntKind.u64)
  (U.i (IntKind.wrap IntKind.u64 (U.int i + (1 : Int)))), SV.val (Ct.int IntKind.u64) m, SV.ptr (nat_lit 1664) (nat_lit 0), SV.ptr (nat_lit 1024) (nat_lit 0), SV.val (Ct.sl false [Ct.int IntKind.u8]) b,
  SV.val (Ct.int IntKind.i64) (U.i (IntKind.wrap IntKind.i64 (U.int a + (2 : Int)) + (16 : Int) * ((8 : Int) - (0 : Int)))), SV.val (Ct.int IntKind.i64) n, SV.val (Ct.int IntKind.i64) kk] [Obj.box [SV.own
  (nat_lit 1026)], Obj.arr (nat_lit 51) [], Obj.box [SV.own (nat_lit 1666)], Obj.arr (nat_lit 51) (padU L (getN (U.list b) (U.int a) (2 : Int)) ++ [U.l ([] ++ entsG (U.list b) (Int.toNat ((8 : Int) - (0
  : Int))) (IntKind.wrap IntKind.i64 (U.int a + (2 : Int))))])]) N then (tgIs (1026 : Nat) (1666 : Nat) leafT (51 : Nat) [] (1024 : Nat) (1664 : Nat) (0 : Nat) (0 : Nat) ∧ U.i (IntKind.wrap IntKind.i64 (U.int
  a + (2 : Int)) + (16 : Int) * ((8 : Int) - (0 : Int))) = U.i (IntKind.wrap IntKind.i64 (U.int a + (2 : Int)) + (16 : Int) * ((8 : Int) - (0 : Int))) ∧ List.length (U.list b) ≤ (1099511627776 : Nat) ∧ (0
  : Int) ≤ IntKind.wrap IntKind.i64 (U.int a + (2 : Int)) + (16 : Int) * ((8 : Int) - (0 : Int)) ∧ IntKind.wrap IntKind.i64 (U.int a + (2 : Int)) + (16 : Int) * ((8 : Int) - (0 : Int)) ≤ (↑(List.length (U.list
  b)) : Int) ∧ (0 : Int) ≤ IntKind.wrap IntKind.u64 (U.int i + (1 : Int)) ∧ IntKind.wrap IntKind.u64 (U.int i + (1 : Int)) ≤ U.int m ∧ U.int m ≤ (65535 : Int) ∧ List.length (padU L (getN (U.list b) (U.int
  a) (2 : Int)) ++ [U.l ([] ++ entsG (U.list b) (Int.toNat ((8 : Int) - (0 : Int))) (IntKind.wrap IntKind.i64 (U.int a + (2 : Int))))]) ≤ (512 : Nat) ∧ byteOk (U.list b)) ∧ bif leavesK (U.list b) (U.int
  kk) (Int.toNat (U.int m - IntKind.wrap IntKind.u64 (U.int i + (1 : Int)))) (IntKind.wrap IntKind.i64 (U.int a + (2 : Int)) + (16 : Int) * ((8 : Int) - (0 : Int))) (padU L (getN (U.list b) (U.int a) (2
  : Int)) ++ [U.l ([] ++ entsG (U.list b) (Int.toNat ((8 : Int) - (0 : Int))) (IntKind.wrap IntKind.i64 (U.int a + (2 : Int))))]) then k (Ex.exit (nat_lit 0)) (St.mk [(nat_lit 13, SV.ptr (nat_lit 1664) (nat_lit
  0)), (nat_lit 8, SV.ptr (nat_lit 1024) (nat_lit 0)), (nat_lit 1, SV.val (Ct.int IntKind.i64) (U.i (IntKind.wrap IntKind.i64 (U.int a + (2 : Int)) + (16 : Int) * ((8 : Int) - (0 : Int)) + (130 : Int) *
  (U.int m - IntKind.wrap IntKind.u64 (U.int i + (1 : Int)))))), (nat_lit 2, SV.val (Ct.int IntKind.i64) n), (nat_lit 3, SV.val (Ct.int IntKind.i64) kk)] [(nat_lit 1024, Obj.box [SV.own (nat_lit 1026)]),
  (nat_lit 1026, Obj.arr (nat_lit 51) []), (nat_lit 1664, Obj.box [SV.own (nat_lit 1666)]), (nat_lit 1666, Obj.arr (nat_lit 51) (leavesG (U.list b) (Int.toNat (U.int m - IntKind.wrap IntKind.u64 (U.int i
  + (1 : Int)))) (IntKind.wrap IntKind.i64 (U.int a + (2 : Int)) + (16 : Int) * ((8 : Int) - (0 : Int))) (padU L (getN (U.list b) (U.int a) (2 : Int)) ++ [U.l ([] ++ entsG (U.list b) (Int.toNat ((8 : Int)
  - (0 : Int))) (IntKind.wrap IntKind.i64 (U.int a + (2 : Int))))])))]) else k Ex.ret (St.mk [(nat_lit 8, SV.ptr (nat_lit 1024) (nat_lit 0)), (nat_lit 9, SV.val (Ct.int IntKind.i64) (U.i (0 : Int))), (nat_lit
  10, SV.val (Ct.int IntKind.i64) (U.i (3 : Int)))] [(nat_lit 1024, Obj.box [SV.own (nat_lit 8519682)]), (nat_lit 8519682, Obj.arr (nat_lit 51) [])]) else False else False else k Ex.ret (St.mk [(nat_lit
  8, SV.ptr (nat_lit 1024) (nat_lit 0)), (nat_lit 9, SV.val (Ct.int IntKind.i64) (U.i (0 : Int))), (nat_lit 10, SV.val (Ct.int IntKind.i64) (U.i (3 : Int)))] [(nat_lit 1024, Obj.box [SV.own (nat_lit 8519682)]),
  (nat_lit 8519682, Obj.arr (nat_lit 51) [])]) else k (Ex.exit (nat_lit 0)) (St.mk [(nat_lit 13, SV.ptr (nat_lit 1664) (nat_lit 0)), (nat_lit 8, SV.ptr (nat_lit 1024) (nat_lit 0)), (nat_lit 1, SV.val (Ct.int
  IntKind.i64) a), (nat_lit 2, SV.val (Ct.int IntKind.i64) n), (nat_lit 3, SV.val (Ct.int IntKind.i64) kk)] [(nat_lit 1024, Obj.box [SV.own (nat_lit 1026)]), (nat_lit 1026, Obj.arr (nat_lit 51) []), (nat_lit
  1664, Obj.box [SV.own (nat_lit 1666)]), (nat_lit 1666, Obj.arr (nat_lit 51) L)])) := by kernel_rfl
theorem tg_tree (R : RF) (b a n k : U) : (run tgC Try.f74 [[b], [a], [n], [k]] R) = (getP [[b], [a], [U.i (2 : Int)], [U.b false]] ∧ bif getE (U.list b) (U.int a) (2 : Int) != (0 : Int) then R [[U.l []], [U.i (0 : Int)], [U.i (3 : Int)]] else (tgIs ((2 : Nat) * ((8 : Nat) * (64 : Nat)
  + (1 : Nat))) ((2 : Nat) * ((13 : Nat) * (64 : Nat) + (1 : Nat))) (51 : Nat) (51 : Nat) [] ((2 : Nat) * ((8 : Nat) * (64 : Nat))) ((2 : Nat) * ((13 : Nat) * (64 : Nat))) (0 : Nat) (0 : Nat) ∧ U.i (IntKind.wrap
  IntKind.i64 (U.int a + (2 : Int))) = U.i (IntKind.wrap IntKind.i64 (U.int a + (2 : Int))) ∧ List.length (U.list b) ≤ (1099511627776 : Nat) ∧ (0 : Int) ≤ IntKind.wrap IntKind.i64 (U.int a + (2 : Int)) ∧
  IntKind.wrap IntKind.i64 (U.int a + (2 : Int)) ≤ (↑(List.length (U.list b)) : Int) ∧ (0 : Int) ≤ (0 : Int) ∧ (0 : Int) ≤ getN (U.list b) (U.int a) (2 : Int) ∧ getN (U.list b) (U.int a) (2 : Int) ≤ (65535
  : Int) ∧ (0 : Nat) ≤ (512 : Nat) ∧ byteOk (U.list b)) ∧ bif leavesK (U.list b) (U.int k) (Int.toNat (getN (U.list b) (U.int a) (2 : Int) - (0 : Int))) (IntKind.wrap IntKind.i64 (U.int a + (2 : Int))) []
  then bif !tableR (leavesG (U.list b) (Int.toNat (getN (U.list b) (U.int a) (2 : Int) - (0 : Int))) (IntKind.wrap IntKind.i64 (U.int a + (2 : Int))) []) (U.int n) (U.int k) then R [[U.l []], [U.i (0 : Int)],
  [U.i (3 : Int)]] else R [[U.l (leavesG (U.list b) (Int.toNat (getN (U.list b) (U.int a) (2 : Int) - (0 : Int))) (IntKind.wrap IntKind.i64 (U.int a + (2 : Int))) [])], [U.i (IntKind.wrap IntKind.i64 (U.int
  a + (2 : Int)) + (130 : Int) * (getN (U.list b) (U.int a) (2 : Int) - (0 : Int)))], [U.i (0 : Int)]] else R [[U.l []], [U.i (0 : Int)], [U.i (3 : Int)]]) := by kernel_rfl
end Go.Mat

namespace Go.Mat
open Go Go.Den Go.Proofs
theorem padU_step {L : List U} {v : Int} (h : (L.length : Int) < v) : padU (L ++ [.l []]) v = padU L v := by
  unfold padU
  rw [List.length_append, List.length_singleton, List.append_assoc, show (v - (L.length : Int)).toNat = (v - ((L.length + 1 : Nat) : Int)).toNat + 1 by omega, List.replicate_succ]
  rfl
theorem padU_all {L : List U} {v : Int} (h : v ≤ (L.length : Int)) : padU L v = L := by
  unfold padU
  rw [show (v - (L.length : Int)).toNat = 0 by omega]
  simp
theorem padU_len {L : List U} {v : Int} (h : (L.length : Int) ≤ v) : ((padU L v).length : Int) = v := by
  unfold padU
  rw [List.length_append, List.length_replicate]; omega
theorem entsK_len {b : List U} {k : Int} : ∀ {m : Nat} {a : Int}, a ≤ b.length → entsK b k m a = true → a + 16 * m ≤ (b.length : Int)
  | 0, a, h, _ => by omega
  | m + 1, a, _, h => by
    rw [entsK] at h
    simp only [Bool.and_eq_true, decide_eq_true_eq] at h
    have := entsK_len h.1.1 h.2
    omega
theorem tgIs_rfl : tgIs 1026 1666 leafT leafT [] 1024 1664 0 0 := ⟨rfl, rfl, rfl, rfl, rfl, rfl, rfl, rfl, rfl⟩
theorem tg_loop2 : LoopOk tgC 2 (loopBody Try.f74 1) := by
  refine loopOk_of (F := tgLoop2) (ts := [14, 13, 8, 0, 1, 2, 3, 30, 31]) (os := [1024, 1026, 1664, 1666]) rfl (fun svs os => match svs, os with | .val _ v :: _, [_, _, _, .arr _ L] => (v.int - (L.length : Int)).toNat | _, _ => 0) ?_
  intro pan svs os k ho1 ho2 h
  unfold tgLoop2 at h
  split at h
  · rename_i v p13 o13 p8 o8 b a n kk m i o1 t1 z o2 t2 L
    obtain ⟨⟨⟨rfl, rfl, rfl, rfl, rfl, rfl, rfl, rfl, rfl⟩, h0, h5, hl⟩, hk⟩ := h
    refine .eq (tg_round2 pan _ _ k v b a n kk m i L) ?_
    have hw : IntKind.wrap .i64 v.int = v.int := i64_in (by omega) (by omega)
    simp only [hw]
    refine bd (fun hlt => ?_) (fun hlt => ?_)
    · have hlt' : (v.int - ((L ++ [U.l []]).length : Int)).toNat < (v.int - (L.length : Int)).toNat := by
        rw [List.length_append, List.length_singleton]; omega
      rw [← padU_step hlt] at hk
      exact broom (by simp [room]; omega) rfl (blt hlt' ⟨⟨tgIs_rfl, h0, h5, by rw [List.length_append, List.length_singleton]; omega⟩, hk⟩)
    · rw [padU_all (by omega)] at hk
      exact hk
  · exact h.elim
theorem tg_loop4 : LoopOk tgC 4 (loopBody Try.f74 2) := by
  refine loopOk_of (F := tgLoop4) (ts := [67, 16, 13, 8, 0, 1, 2, 3, 30, 31]) (os := [2172, 1024, 1026, 1664, 1666]) rfl (fun svs _ => match svs with | .val _ j :: _ => (8 - j.int).toNat | _ => 0) ?_
  intro pan svs os k ho1 ho2 h
  unfold tgLoop4 at h
  split at h
  · rename_i j o16 p13 o13 p8 o8 b a n kk m i t16 xs o1 t1 z o2 t2 L
    obtain ⟨⟨⟨rfl, rfl, rfl, rfl, rfl, rfl, rfl, rfl, rfl⟩, rfl, rfl, ha, hb, h0, h1, h2, h3, hx, hbk⟩, hk⟩ := h
    refine .eq (tg_round4 pan _ _ k j b a n kk m i xs L) ?_
    have w1 : IntKind.wrap .i64 ((b.list.length : Int) - a.int) = (b.list.length : Int) - a.int := i64_in (by omega) (by omega)
    have w2 : IntKind.wrap .i64 (a.int + 16) = a.int + 16 := i64_in (by omega) (by omega)
    have w3 : IntKind.wrap .i64 (j.int + 1) = j.int + 1 := i64_in (by omega) (by omega)
    have hs : List.drop a.int.toNat (List.take (a.int + 16).toNat b.list) = sub b.list a.int 16 := rfl
    simp only [w1, w2, w3, hs]
    refine bd (fun hlt => ?_) (fun hlt => ?_)
    · rw [show (8 - j.int).toNat = (8 - (j.int + 1)).toNat + 1 by omega, entsK, entsG] at hk
      refine bd (fun h16 => ?_) (fun h16 => ?_)
      · rw [decide_eq_false (by omega : ¬ a.int + 16 ≤ (b.list.length : Int)), Bool.false_and, Bool.false_and, cond_false] at hk
        exact hk
      · refine broom ⟨by omega, by omega, by omega, by omega⟩ rfl ?_
        rw [decide_eq_true (by omega : a.int + 16 ≤ (b.list.length : Int)), Bool.true_and] at hk
        cases hE : egetR (sub b.list a.int 16) kk.int with
        | false =>
          rw [hE, Bool.false_and, cond_false] at hk
          exact hk
        | true =>
          rw [hE, Bool.true_and] at hk
          have hlt' : (8 - (j.int + 1)).toNat < (8 - j.int).toNat := by omega
          have hkk : (bif entsK b.list kk.int (8 - (j.int + 1)).toNat (a.int + 16) then
              k (.exit 4) ⟨[(16, .own 2172), (13, .ptr 1664 0), (8, .ptr 1024 0), (0, vl (.int .u8) b), (1, vi (.i (a.int + 16 + 16 * (8 - (j.int + 1))))), (2, vi n), (3, vi kk), (30, vu m), (31, vu i)], (2172, .arr entT ((xs ++ [entU (sub b.list a.int 16)]) ++ entsG b.list (8 - (j.int + 1)).toNat (a.int + 16))) :: tgO L⟩
              else k .ret tgBad) := by
            rw [List.append_assoc, List.singleton_append, show a.int + 16 + 16 * (8 - (j.int + 1)) = a.int + 16 * (8 - j.int) by omega]
            exact hk
          refine broom (by simp [room]; omega) rfl (blt hlt' ⟨⟨tgIs_rfl, by trivial, by trivial, by trivial, hb, by omega, by omega, by omega, by omega, by rw [List.length_append, List.length_singleton]; omega, hbk⟩, hkk⟩)
    · have hj : j.int = 8 := by omega
      rw [hj, show (8 - (8 : Int)).toNat = 0 from rfl, entsK, entsG, List.append_nil, cond_true, show a.int + 16 * (8 - (8 : Int)) = a.int by omega, ← ha] at hk
      exact hk
  · exact h.elim
theorem tg_loop0 : LoopOk tgC 0 (loopBody Try.f74 0) := by
  refine loopOk_of (F := tgLoop0) (ts := [31, 30, 13, 8, 0, 1, 2, 3]) (os := [1024, 1026, 1664, 1666]) rfl (fun svs _ => match svs with | .val _ i :: .val _ m :: _ => (m.int - i.int).toNat | _ => 0) ?_
  intro pan svs os k ho1 ho2 h
  unfold tgLoop0 at h
  split at h
  · rename_i i m p13 o13 p8 o8 b a n kk o1 t1 z o2 t2 L
    obtain ⟨⟨⟨rfl, rfl, rfl, rfl, rfl, rfl, rfl, rfl, rfl⟩, ha, hb, h0, h1, h2, h3, h4, hl, hbk⟩, hk⟩ := h
    refine .eq (tg_round0 pan _ _ k i m b a n kk L) ?_
    have hn := getN2 (a := a.int) hbk
    have w2 : IntKind.wrap .i64 (a.int + 2) = a.int + 2 := i64_in (by omega) (by omega)
    have w3 : IntKind.wrap .u64 (i.int + 1) = i.int + 1 := u64_in (by omega) (by omega)
    have w4 : IntKind.wrap .i64 (getN b.list a.int 2) = getN b.list a.int 2 := i64_in (by omega) (by omega)
    have e8 : ((8 : Int) - 0).toNat = 8 := rfl
    simp only [w2, w3, w4, e8, getE_iff, List.nil_append]
    refine bd (fun hlt => ⟨⟨by show (1 : Int) ≤ 2; omega, by show (2 : Int) ≤ 4; omega, rfl, hb⟩, ?_⟩) (fun hlt => ?_)
    · rw [show (m.int - i.int).toNat = (m.int - (i.int + 1)).toNat + 1 by omega, leavesK, leavesG] at hk
      refine bi (fun ht => ?_) (fun ht => ?_)
      · have ht := nt ht
        rw [show thereR b.list a.int 2 = false by simpa using ht, Bool.false_and, Bool.false_and, Bool.false_and, Bool.false_and, cond_false] at hk
        exact hk
      have ht : thereR b.list a.int 2 = true := by simpa using nf ht
      have hi := thereR_iff.1 ht
      rw [ht, Bool.true_and] at hk
      refine bd (fun hc => ?_) (fun hc => ?_)
      · rw [decide_eq_false (by omega : ¬ (L.length : Int) ≤ getN b.list a.int 2), Bool.false_and, Bool.false_and, Bool.false_and, cond_false] at hk
        exact hk
      rw [decide_eq_true (by omega : (L.length : Int) ≤ getN b.list a.int 2), Bool.true_and] at hk
      refine bd (fun hd => ?_) (fun hd => ?_)
      · rw [decide_eq_false (by omega : ¬ getN b.list a.int 2 < 512), Bool.false_and, Bool.false_and, cond_false] at hk
        exact hk
      rw [decide_eq_true (by omega : getN b.list a.int 2 < 512), Bool.true_and] at hk
      refine ⟨⟨tgIs_rfl, by omega, by omega, hl⟩, ⟨tgIs_rfl, by trivial, by trivial, by trivial, hb, by omega, by omega, by omega, by omega, by trivial, hbk⟩, ?_⟩
      cases hE : entsK b.list kk.int 8 (a.int + 2) with
      | false =>
        rw [hE, Bool.false_and, cond_false] at hk
        exact hk
      | true =>
        rw [hE, Bool.true_and] at hk
        have he := entsK_len (by omega) hE
        have hp := padU_len (L := L) (v := getN b.list a.int 2) (by omega)
        have hlt' : (m.int - (i.int + 1)).toNat < (m.int - i.int).toNat := by omega
        rw [show a.int + 130 = a.int + 2 + 16 * (8 - 0) by omega, show a.int + 130 * (m.int - i.int) = a.int + 2 + 16 * (8 - 0) + 130 * (m.int - (i.int + 1)) by omega] at hk
        exact broom (by simp [room]; omega) rfl (blt hlt' ⟨⟨tgIs_rfl, by trivial, hb, by omega, by omega, by omega, by omega, h4, by rw [List.length_append, List.length_singleton]; omega, hbk⟩, hk⟩)
    · rw [show (m.int - i.int).toNat = 0 by omega, show m.int - i.int = 0 by omega, leavesK, leavesG, cond_true, Int.mul_zero, Int.add_zero, ← ha] at hk
      exact hk
  · exact h.elim
theorem tg_ok : SpecFP PR 74 tgP tgS := fun fn us hfn hpre => by
  have hf : PR.funcs[(74 : Nat)]? = some Try.f74 := by kernel_rfl
  rw [hf] at hfn; cases hfn
  refine fn_okH (C := tgC) (mkC_ok eqs0_ok mixed_ok (.consP get_ok (.cons eget_ok (.cons tab_ok .nil))) .nil) hf (by kernel_rfl) (loops_three (by kernel_rfl) tg_loop0 tg_loop2 tg_loop4) fun hok => ?_
  have hp : Try.f74.params.toList = [32, 3, 3, 3] := by kernel_rfl
  rw [hp] at hok
  obtain ⟨b, a, n, k, hus⟩ : ∃ b a n k, us = [[b], [a], [n], [k]] := by
    obtain ⟨u, u2, u3, u4, rfl, h1, h2, h3, h4⟩ := shape4 (by kernel_rfl : Cs PR 32 = some (false, [.sl false [.int .u8]])) (by kernel_rfl : Cs PR 3 = some (false, [.int .i64])) (by kernel_rfl : Cs PR 3 = some (false, [.int .i64])) (by kernel_rfl : Cs PR 3 = some (false, [.int .i64])) hok.1
    obtain ⟨b, rfl⟩ := len1 h1
    obtain ⟨a, rfl⟩ := len1 h2
    obtain ⟨n, rfl⟩ := len1 h3
    obtain ⟨k, rfl⟩ := len1 h4
    exact ⟨b, a, n, k, rfl⟩
  subst hus
  have hbk : byteOk b.list := bytes_ok (hok.2 [vl (.int .u8) b, vi a, vi n, vi k] (by kernel_rfl)).1
  refine .eq (tg_tree _ b a n k) ?_
  have hb : b.list.length ≤ 1099511627776 := hpre
  have hn := getN2 (a := a.int) hbk
  have hS : tgS [[b], [a], [n], [k]] = [[.l (bif tgR b.list a.int n.int k.int then tgL b.list a.int else [])], [.i (bif tgR b.list a.int n.int k.int then a.int + 2 + 130 * getN b.list a.int 2 else 0)], [.i (bif tgR b.list a.int n.int k.int then 0 else 3)]] := rfl
  rw [hS, getE_iff]
  unfold tgR
  refine ⟨⟨by show (1 : Int) ≤ 2; omega, by show (2 : Int) ≤ 4; omega, rfl, hb⟩, ?_⟩
  refine bi (fun h => ?_) (fun h => ?_)
  · have h := nt h
    rw [show thereR b.list a.int 2 = false by simpa using h]; rfl
  have h : thereR b.list a.int 2 = true := by simpa using nf h
  have hi := thereR_iff.1 h
  have w2 : IntKind.wrap .i64 (a.int + 2) = a.int + 2 := i64_in (by omega) (by omega)
  rw [h, Bool.true_and]
  simp only [w2, Int.sub_zero]
  refine ⟨⟨tgIs_rfl, by trivial, hb, by omega, by omega, by omega, by omega, by omega, by omega, hbk⟩, ?_⟩
  refine bi (fun h1 => ?_) (fun h1 => by rw [h1]; rfl)
  rw [h1, Bool.true_and]
  refine bi (fun h2 => ?_) (fun h2 => ?_)
  · rw [show tableR (tgL b.list a.int) n.int k.int = false by simpa using h2]; rfl
  · rw [show tableR (tgL b.list a.int) n.int k.int = true by simpa using h2]; rfl
end Go.Mat

namespace Go.Mat
open Go Go.Den Go.Proofs
theorem tableR_c {L : List U} {n c : Int} (h : c < 0 ∨ 6 < c) : tableR L n c = false := by
  unfold tableR
  rw [if_pos (by omega)]
end Go.Mat
