/- A part of the proof of this: two unlike right metas have unlike bytes. Conditions: none. Joined of B12, F12, B13, F13, B14, F14, B15, F15, B16, F16, B17, F17, B19, F19. -/
import Derived.Test.YtmgncojckndckaaC3
import Derived.KernelRfl
import Derived.Laws.LoneSync
/-
  TREES 12: the document's tables as bytes. Conditions: none.
-/
namespace Go.Mat
open Go Go.Den Go.Proofs
noncomputable def numF : Tr := fun vs objs k => match vs, objs with
  | [.val (.sl false [.int .u8]) b, .val (.int .i64) n, .val (.int .i64) v], [] =>
    (b.list.length ≤ 536870912) ∧ k (.ret [.own 2097152]) [(2097152, .arr u8T (num b.list n.int v.int))]
  | _, _ => False
noncomputable def numCT : Ctx := mkC PR eqs0 fnsNil (trsCons 71 [false, false, false, false] putF trsNil) noLoops noOut noOut
noncomputable def num2CT : Ctx := mkC PR eqs0 fnsNil (trsCons 52 [false, false, false] numF trsNil) noLoops noOut noOut
theorem numT_tree (R : RT) (b n v : U) : (runD numCT Try.f52 [vl (.int .u8) b, vi n, vi v] [] R) = (List.length (U.list b) ≤ (536870912 : Nat) ∧ R (Out.ret [SV.own (nat_lit 2097152)]) [(nat_lit 2097152, Obj.arr (nat_lit 5) (putX (U.list b) (U.int n) false (IntKind.wrap IntKind.u64 (U.int v))))]) := by kernel_rfl
theorem num2T_tree (R : RT) (b n v : U) : (runD num2CT Try.f27 [vl (.int .u8) b, vi n, vi v] [] R) = (List.length (U.list b) ≤ (536870912 : Nat) ∧ R (Out.ret [SV.own (nat_lit 2097152)]) [(nat_lit 2097152, Obj.arr (nat_lit 5) (num (U.list b) (U.int n) (U.int v)))]) := by kernel_rfl
noncomputable def rtputLoop2 : LoopF := fun _ svs os k => match svs, os with
  | [.val (.int .i64) i, .own o, .val (.int .i64) kk, .ptr pp po, .val (.int .i64) j, .val (.int .i64) cnt], [.arr t xs, .box [.val (.sl false [.sl true ec]) L]] =>
      (ec = EC ∧ o = 5392 ∧ t = u8T ∧ pp = 256 ∧ po = 0 ∧ 0 ≤ j.int ∧ j.int < (L.list.length : Int) ∧ (U.at L.list j.int.toNat).list.length = 8 ∧ 0 ≤ i.int ∧ i.int ≤ 8 ∧ (xs.length : Int) + 16 * (8 - i.int) ≤ 536870912) ∧
      k (.exit 2) ⟨[(7, .own 5392), (1, vi kk), (2, .ptr 256 0), (8, vi j), (6, vi cnt)], [(5392, .arr u8T (xs ++ leafB kk.int ((U.at L.list j.int.toNat).list.drop i.int.toNat))), (256, .box [vl (.sl true EC) L])]⟩
  | _, _ => False
noncomputable def rtputLoop0 : LoopF := fun _ svs os k => match svs, os with
  | [.val (.int .i64) j, .ptr pp po, .val (.int .i64) cnt, .val (.sl false [.int .u8]) b, .val (.int .i64) kk], [.box [.val (.sl false [.sl true ec]) L]] =>
    (ec = EC ∧ pp = 256 ∧ po = 0 ∧ cnt = .i cnt.int ∧ b = .l b.list ∧ L.list.length ≤ 4096 ∧ 0 ≤ j.int ∧ j.int ≤ L.list.length ∧ 0 ≤ cnt.int ∧ cnt.int ≤ j.int ∧ (∀ l ∈ L.list, l.list = [] ∨ l.list.length = 8) ∧ (b.list.length : Int) + 200 * (L.list.length - j.int) ≤ 536870912) ∧
    k (.exit 0) ⟨[(6, vi (.i (cnt.int + countB (L.list.drop j.int.toNat)))), (7, vl (.int .u8) (.l (b.list ++ leavesB kk.int j.int (L.list.drop j.int.toNat))))], []⟩
  | _, _ => False
noncomputable def rtputC : Ctx := mkC PR eqs0 (fnsCons 53 entS (fnsCons 32 rtableS fnsNil)) (trsCons 52 [false, false, false] numF trsNil)
  (loopCons 2 [9, 7, 1, 2, 8, 6] [5392, 256] rtputLoop2 (loopCons 0 [8, 2, 6, 7, 1] [256] rtputLoop0 noLoops)) (outCons 2 [7, 1, 2, 8, 6] [5392, 256] (outCons 0 [6, 7] [] noOut)) noOut
theorem rtput_round2 (pan : KP) (μ : Mu) (N : Nat) (k : KE) (i kk j cnt L : U) (xs : List U) : (exec (rtputC.panics pan) (loopBody Try.f29 1) 2 ⟨[(9, vi i), (7, .own 5392), (1, vi kk), (2, .ptr 256 0), (8, vi j), (6, vi cnt)], [(5392, .arr u8T xs), (256, .box [vl (.sl true EC) L])]⟩ (again PR (some ([7, 1, 2, 8, 6], [5392, 256])) none pan [9, 7, 1, 2, 8, 6] [5392, 256] rtputLoop2 μ N k)) = (bif decide (U.int i < (8 : Int)) then bif decide ((0 : Int) ≤ U.int j ∧ U.int j < (↑(List.length (U.list L)) : Int)) then bif decide ((0 : Int) ≤ U.int i ∧ U.int i < (↑(List.length (U.list (nth (U.i (0 
  : Int)) (U.list L) (Int.toNat (U.int j))))) : Int)) then bif decide (List.length xs + List.length (bif mayR (U.int (nth (U.i (0 : Int)) (U.list (nth (U.i (0 : Int)) (U.list (nth (U.i (0 : Int)) (U.list 
  L) (Int.toNat (U.int j)))) (Int.toNat (U.int i)))) (0 : Nat))) (U.int (nth (U.i (0 : Int)) (List.tail (U.list (nth (U.i (0 : Int)) (U.list (nth (U.i (0 : Int)) (U.list L) (Int.toNat (U.int j)))) (Int.toNat 
  (U.int i))))) (0 : Nat))) (U.int (nth (U.i (0 : Int)) (List.tail (List.tail (U.list (nth (U.i (0 : Int)) (U.list (nth (U.i (0 : Int)) (U.list L) (Int.toNat (U.int j)))) (Int.toNat (U.int i)))))) (0 : Nat))) 
  (U.int (nth (U.i (0 : Int)) (List.tail (List.tail (List.tail (U.list (nth (U.i (0 : Int)) (U.list (nth (U.i (0 : Int)) (U.list L) (Int.toNat (U.int j)))) (Int.toNat (U.int i))))))) (0 : Nat))) (U.int (nth 
  (U.i (0 : Int)) (List.tail (List.tail (List.tail (List.tail (U.list (nth (U.i (0 : Int)) (U.list (nth (U.i (0 : Int)) (U.list L) (Int.toNat (U.int j)))) (Int.toNat (U.int i)))))))) (0 : Nat))) (U.int kk) 
  then entB (U.int (nth (U.i (0 : Int)) (U.list (nth (U.i (0 : Int)) (U.list (nth (U.i (0 : Int)) (U.list L) (Int.toNat (U.int j)))) (Int.toNat (U.int i)))) (0 : Nat))) (U.int (nth (U.i (0 : Int)) (List.tail 
  (U.list (nth (U.i (0 : Int)) (U.list (nth (U.i (0 : Int)) (U.list L) (Int.toNat (U.int j)))) (Int.toNat (U.int i))))) (0 : Nat))) (U.int (nth (U.i (0 : Int)) (List.tail (List.tail (U.list (nth (U.i (0 
  : Int)) (U.list (nth (U.i (0 : Int)) (U.list L) (Int.toNat (U.int j)))) (Int.toNat (U.int i)))))) (0 : Nat))) (U.int (nth (U.i (0 : Int)) (List.tail (List.tail (List.tail (U.list (nth (U.i (0 : Int)) (U.list 
  (nth (U.i (0 : Int)) (U.list L) (Int.toNat (U.int j)))) (Int.toNat (U.int i))))))) (0 : Nat))) (U.int (nth (U.i (0 : Int)) (List.tail (List.tail (List.tail (List.tail (U.list (nth (U.i (0 : Int)) (U.list 
  (nth (U.i (0 : Int)) (U.list L) (Int.toNat (U.int j)))) (Int.toNat (U.int i)))))))) (0 : Nat))) else []) ≤ room) && !oddB (5392 : Nat) then bif Nat.blt (μ [SV.val (Ct.int IntKind.i64) (U.i (IntKind.wrap 
  IntKind.i64 (U.int i + (1 : Int)))), SV.own (nat_lit 5392), SV.val (Ct.int IntKind.i64) kk, SV.ptr (nat_lit 256) (nat_lit 0), SV.val (Ct.int IntKind.i64) j, SV.val (Ct.int IntKind.i64) cnt] [Obj.arr (nat_lit 
  5) (xs ++ bif mayR (U.int (nth (U.i (0 : Int)) (U.list (nth (U.i (0 : Int)) (U.list (nth (U.i (0 : Int)) (U.list L) (Int.toNat (U.int j)))) (Int.toNat (U.int i)))) (0 : Nat))) (U.int (nth (U.i (0 : Int)) 
  (List.tail (U.list (nth (U.i (0 : Int)) (U.list (nth (U.i (0 : Int)) (U.list L) (Int.toNat (U.int j)))) (Int.toNat (U.int i))))) (0 : Nat))) (U.int (nth (U.i (0 : Int)) (List.tail (List.tail (U.list (nth 
  (U.i (0 : Int)) (U.list (nth (U.i (0 : Int)) (U.list L) (Int.toNat (U.int j)))) (Int.toNat (U.int i)))))) (0 : Nat))) (U.int (nth (U.i (0 : Int)) (List.tail (List.tail (List.tail (U.list (nth (U.i (0 : 
  Int)) (U.list (nth (U.i (0 : Int)) (U.list L) (Int.toNat (U.int j)))) (Int.toNat (U.int i))))))) (0 : Nat))) (U.int (nth (U.i (0 : Int)) (List.tail (List.tail (List.tail (List.tail (U.list (nth (U.i (0 
  : Int)) (U.list (nth (U.i (0 : Int)) (U.list L) (Int.toNat (U.int j)))) (Int.toNat (U.int i)))))))) (0 : Nat))) (U.int kk) then entB (U.int (nth (U.i (0 : Int)) (U.list (nth (U.i (0 : Int)) (U.list (nth 
  (U.i (0 : Int)) (U.list L) (Int.toNat (U.int j)))) (Int.toNat (U.int i)))) (0 : Nat))) (U.int (nth (U.i (0 : Int)) (List.tail (U.list (nth (U.i (0 : Int)) (U.list (nth (U.i (0 : Int)) (U.list L) (Int.toNat 
  (U.int j)))) (Int.toNat (U.int i))))) (0 : Nat))) (U.int (nth (U.i (0 : Int)) (List.tail (List.tail (U.list (nth (U.i (0 : Int)) (U.list (nth (U.i (0 : Int)) (U.list L) (Int.toNat (U.int j)))) (Int.toNat 
  (U.int i)))))) (0 : Nat))) (U.int (nth (U.i (0 : Int)) (List.tail (List.tail (List.tail (U.list (nth (U.i (0 : Int)) (U.list (nth (U.i (0 : Int)) (U.list L) (Int.toNat (U.int j)))) (Int.toNat (U.int i))))))) 
  (0 : Nat))) (U.int (nth (U.i (0 : Int)) (List.tail (List.tail (List.tail (List.tail (U.list (nth (U.i (0 : Int)) (U.list (nth (U.i (0 : Int)) (U.list L) (Int.toNat (U.int j)))) (Int.toNat (U.int i)))))))) 
  (0 : Nat))) else []), Obj.box [SV.val (Ct.sl false [Ct.sl true [Ct.int IntKind.i64, Ct.int IntKind.i64, Ct.int IntKind.i64, Ct.int IntKind.i64, Ct.int IntKind.u32]]) L]]) N then ([Ct.int IntKind.i64, Ct.int 
  IntKind.i64, Ct.int IntKind.i64, Ct.int IntKind.i64, Ct.int IntKind.u32] = [Ct.int IntKind.i64, Ct.int IntKind.i64, Ct.int IntKind.i64, Ct.int IntKind.i64, Ct.int IntKind.u32] ∧ nat_lit 5392 = nat_lit 
  5392 ∧ nat_lit 5 = nat_lit 5 ∧ nat_lit 256 = nat_lit 256 ∧ nat_lit 0 = nat_lit 0 ∧ (0 : Int) ≤ U.int j ∧ U.int j < (↑(List.length (U.list L)) : Int) ∧ List.length (U.list (nth (U.i (0 : Int)) (U.list L) 
  (Int.toNat (U.int j)))) = nat_lit 8 ∧ (0 : Int) ≤ IntKind.wrap IntKind.i64 (U.int i + (1 : Int)) ∧ IntKind.wrap IntKind.i64 (U.int i + (1 : Int)) ≤ (8 : Int) ∧ (↑(List.length (xs ++ bif mayR (U.int (nth 
  (U.i (0 : Int)) (U.list (nth (U.i (0 : Int)) (U.list (nth (U.i (0 : Int)) (U.list L) (Int.toNat (U.int j)))) (Int.toNat (U.int i)))) (0 : Nat))) (U.int (nth (U.i (0 : Int)) (List.tail (U.list (nth (U.i 
  (0 : Int)) (U.list (nth (U.i (0 : Int)) (U.list L) (Int.toNat (U.int j)))) (Int.toNat (U.int i))))) (0 : Nat))) (U.int (nth (U.i (0 : Int)) (List.tail (List.tail (U.list (nth (U.i (0 : Int)) (U.list (nth 
  (U.i (0 : Int)) (U.list L) (Int.toNat (U.int j)))) (Int.toNat (U.int i)))))) (0 : Nat))) (U.int (nth (U.i (0 : Int)) (List.tail (List.tail (List.tail (U.list (nth (U.i (0 : Int)) (U.list (nth (U.i (0 : 
  Int)) (U.list L) (Int.toNat (U.int j)))) (Int.toNat (U.int i))))))) (0 : Nat))) (U.int (nth (U.i (0 : Int)) (List.tail (List.tail (List.tail (List.tail (U.list (nth (U.i (0 : Int)) (U.list (nth (U.i (0 
  : Int)) (U.list L) (Int.toNat (U.int j)))) (Int.toNat (U.int i)))))))) (0 : Nat))) (U.int kk) then entB (U.int (nth (U.i (0 : Int)) (U.list (nth (U.i (0 : Int)) (U.list (nth (U.i (0 : Int)) (U.list L) 
  (Int.toNat (U.int j)))) (Int.toNat (U.int i)))) (0 : Nat))) (U.int (nth (U.i (0 : Int)) (List.tail (U.list (nth (U.i (0 : Int)) (U.list (nth (U.i (0 : Int)) (U.list L) (Int.toNat (U.int j)))) (Int.toNat 
  (U.int i))))) (0 : Nat))) (U.int (nth (U.i (0 : Int)) (List.tail (List.tail (U.list (nth (U.i (0 : Int)) (U.list (nth (U.i (0 : Int)) (U.list L) (Int.toNat (U.int j)))) (Int.toNat (U.int i)))))) (0 : Nat))) 
  (U.int (nth (U.i (0 : Int)) (List.tail (List.tail (List.tail (U.list (nth (U.i (0 : Int)) (U.list (nth (U.i (0 : Int)) (U.list L) (Int.toNat (U.int j)))) (Int.toNat (U.int i))))))) (0 : Nat))) (U.int (nth 
  (U.i (0 : Int)) (List.tail (List.tail (List.tail (List.tail (U.list (nth (U.i (0 : Int)) (U.list (nth (U.i (0 : Int)) (U.list L) (Int.toNat (U.int j)))) (Int.toNat (U.int i)))))))) (0 : Nat))) else [])) 
  : Int) + (16 : Int) * ((8 : Int) - IntKind.wrap IntKind.i64 (U.int i + (1 : Int))) ≤ (536870912 : Int)) ∧ k (Ex.exit (nat_lit 2)) (St.mk [(nat_lit 7, SV.own (nat_lit 5392)), (nat_lit 1, SV.val (Ct.int 
  IntKind.i64) kk), (nat_lit 2, SV.ptr (nat_lit 256) (nat_lit 0)), (nat_lit 8, SV.val (Ct.int IntKind.i64) j), (nat_lit 6, SV.val (Ct.int IntKind.i64) cnt)] [(nat_lit 5392, Obj.arr (nat_lit 5) ((xs ++ bif 
  mayR (U.int (nth (U.i (0 : Int)) (U.list (nth (U.i (0 : Int)) (U.list (nth (U.i (0 : Int)) (U.list L) (Int.toNat (U.int j)))) (Int.toNat (U.int i)))) (0 : Nat))) (U.int (nth (U.i (0 : Int)) (List.tail 
  (U.list (nth (U.i (0 : Int)) (U.list (nth (U.i (0 : Int)) (U.list L) (Int.toNat (U.int j)))) (Int.toNat (U.int i))))) (0 : Nat))) (U.int (nth (U.i (0 : Int)) (List.tail (List.tail (U.list (nth (U.i (0 
  : Int)) (U.list (nth (U.i (0 : Int)) (U.list L) (Int.toNat (U.int j)))) (Int.toNat (U.int i)))))) (0 : Nat))) (U.int (nth (U.i (0 : Int)) (List.tail (List.tail (List.tail (U.list (nth (U.i (0 : Int)) (U.list 
  (nth (U.i (0 : Int)) (U.list L) (Int.toNat (U.int j)))) (Int.toNat (U.int i))))))) (0 : Nat))) (U.int (nth (U.i (0 : Int)) (List.tail (List.tail (List.tail (List.tail (U.list (nth (U.i (0 : Int)) (U.list 
  (nth (U.i (0 : Int)) (U.list L) (Int.toNat (U.int j)))) (Int.toNat (U.int i)))))))) (0 : Nat))) (U.int kk) then entB (U.int (nth (U.i (0 : Int)) (U.list (nth (U.i (0 : Int)) (U.list (nth (U.i (0 : Int)) 
  (U.list L) (Int.toNat (U.int j)))) (Int.toNat (U.int i)))) (0 : Nat))) (U.int (nth (U.i (0 : Int)) (List.tail (U.list (nth (U.i (0 : Int)) (U.list (nth (U.i (0 : Int)) (U.list L) (Int.toNat (U.int j)))) 
  (Int.toNat (U.int i))))) (0 : Nat))) (U.int (nth (U.i (0 : Int)) (List.tail (List.tail (U.list (nth (U.i (0 : Int)) (U.list (nth (U.i (0 : Int)) (U.list L) (Int.toNat (U.int j)))) (Int.toNat (U.int i)))))) 
  (0 : Nat))) (U.int (nth (U.i (0 : Int)) (List.tail (List.tail (List.tail (U.list (nth (U.i (0 : Int)) (U.list (nth (U.i (0 : Int)) (U.list L) (Int.toNat (U.int j)))) (Int.toNat (U.int i))))))) (0 : Nat))) 
  (U.int (nth (U.i (0 : Int)) (List.tail (List.tail (List.tail (List.tail (U.list (nth (U.i (0 : Int)) (U.list (nth (U.i (0 : Int)) (U.list L) (Int.toNat (U.int j)))) (Int.toNat (U.int i)))))))) (0 : Nat))) 
  else []) ++ leafB (U.int kk) (List.drop (Int.toNat (IntKind.wrap IntKind.i64 (U.int i + (1 : Int)))) (U.list (nth (U.i (0 : Int)) (U.list L) (Int.toNat (U.int j))))))), (nat_lit 256, Obj.box [SV.val (Ct.sl 
  false [Ct.sl true [Ct.int IntKind.i64, Ct.int IntKind.i64, Ct.int IntKind.i64, Ct.int IntKind.i64, Ct.int IntKind.u32]]) L])]) else False else False else False else False else k (Ex.exit (nat_lit 2)) (St.mk 
  [(nat_lit 7, SV.own (nat_lit 5392)), (nat_lit 1, SV.val (Ct.int IntKind.i64) kk), (nat_lit 2, SV.ptr (nat_lit 256) (nat_lit 0)), (nat_lit 8, SV.val (Ct.int IntKind.i64) j), (nat_lit 6, SV.val (Ct.int IntKind.i64) 
  cnt)] [(nat_lit 5392, Obj.arr (nat_lit 5) xs), (nat_lit 256, Obj.box [SV.val (Ct.sl false [Ct.sl true [Ct.int IntKind.i64, Ct.int IntKind.i64, Ct.int IntKind.i64, Ct.int IntKind.i64, Ct.int IntKind.u32]]) 
  L])])) := by kernel_rfl
theorem rtput_round0 (pan : KP) (μ : Mu) (N : Nat) (k : KE) (j cnt b kk L : U) : (exec (rtputC.panics pan) (loopBody Try.f29 0) 0 ⟨[(8, vi j), (2, .ptr 256 0), (6, vi cnt), (7, vl (.int .u8) b), (1, vi kk)], [(256, .box [vl (.sl true EC) L])]⟩ (again PR (some ([6, 7], [])) none pan [8, 2, 6, 7, 1] [256] rtputLoop0 μ N k)) = (bif decide (U.int j < (↑(List.length (U.list L)) : Int)) then bif decide ((0 : Int) ≤ U.int j ∧ U.int j < (↑(List.length (U.list L)) : Int)) then bif (↑(List.length (U.list (nth (U.i (0 : Int)) (U.list 
  L) (Int.toNat (U.int j))))) : Int) == (0 : Int) then bif Nat.blt (μ [SV.val (Ct.int IntKind.i64) (U.i (IntKind.wrap IntKind.i64 (U.int j + (1 : Int)))), SV.ptr (nat_lit 256) (nat_lit 0), SV.val (Ct.int 
  IntKind.i64) cnt, SV.val (Ct.sl false [Ct.int IntKind.u8]) b, SV.val (Ct.int IntKind.i64) kk] [Obj.box [SV.val (Ct.sl false [Ct.sl true [Ct.int IntKind.i64, Ct.int IntKind.i64, Ct.int IntKind.i64, Ct.int 
  IntKind.i64, Ct.int IntKind.u32]]) L]]) N then ([Ct.int IntKind.i64, Ct.int IntKind.i64, Ct.int IntKind.i64, Ct.int IntKind.i64, Ct.int IntKind.u32] = [Ct.int IntKind.i64, Ct.int IntKind.i64, Ct.int IntKind.i64, 
  Ct.int IntKind.i64, Ct.int IntKind.u32] ∧ nat_lit 256 = nat_lit 256 ∧ nat_lit 0 = nat_lit 0 ∧ cnt = U.i (U.int cnt) ∧ b = U.l (U.list b) ∧ List.length (U.list L) ≤ (4096 : Nat) ∧ (0 : Int) ≤ IntKind.wrap 
  IntKind.i64 (U.int j + (1 : Int)) ∧ IntKind.wrap IntKind.i64 (U.int j + (1 : Int)) ≤ (↑(List.length (U.list L)) : Int) ∧ (0 : Int) ≤ U.int cnt ∧ U.int cnt ≤ IntKind.wrap IntKind.i64 (U.int j + (1 : Int)) 
  ∧ (∀ (l : U), l ∈ U.list L → U.list l = [] ∨ List.length (U.list l) = (8 : Nat)) ∧ (↑(List.length (U.list b)) : Int) + (200 : Int) * ((↑(List.length (U.list L)) : Int) - IntKind.wrap IntKind.i64 (U.int 
  j + (1 : Int))) ≤ (536870912 : Int)) ∧ k (Ex.exit (nat_lit 0)) (St.mk [(nat_lit 6, SV.val (Ct.int IntKind.i64) (U.i (U.int cnt + countB (List.drop (Int.toNat (IntKind.wrap IntKind.i64 (U.int j + (1 : Int)))) 
  (U.list L))))), (nat_lit 7, SV.val (Ct.sl false [Ct.int IntKind.u8]) (U.l (U.list b ++ leavesB (U.int kk) (IntKind.wrap IntKind.i64 (U.int j + (1 : Int))) (List.drop (Int.toNat (IntKind.wrap IntKind.i64 
  (U.int j + (1 : Int)))) (U.list L)))))] []) else False else List.length (U.list b) ≤ (536870912 : Nat) ∧ ([Ct.int IntKind.i64, Ct.int IntKind.i64, Ct.int IntKind.i64, Ct.int IntKind.i64, Ct.int IntKind.u32] 
  = [Ct.int IntKind.i64, Ct.int IntKind.i64, Ct.int IntKind.i64, Ct.int IntKind.i64, Ct.int IntKind.u32] ∧ nat_lit 5392 = nat_lit 5392 ∧ nat_lit 5 = nat_lit 5 ∧ nat_lit 256 = nat_lit 256 ∧ nat_lit 0 = nat_lit 
  0 ∧ (0 : Int) ≤ U.int j ∧ U.int j < (↑(List.length (U.list L)) : Int) ∧ List.length (U.list (nth (U.i (0 : Int)) (U.list L) (Int.toNat (U.int j)))) = nat_lit 8 ∧ (0 : Int) ≤ (0 : Int) ∧ (0 : Int) ≤ (8 
  : Int) ∧ (↑(List.length (num (U.list b) (2 : Int) (U.int j))) : Int) + (16 : Int) * ((8 : Int) - (0 : Int)) ≤ (536870912 : Int)) ∧ bif Nat.blt (μ [SV.val (Ct.int IntKind.i64) (U.i (IntKind.wrap IntKind.i64 
  (U.int j + (1 : Int)))), SV.ptr (nat_lit 256) (nat_lit 0), SV.val (Ct.int IntKind.i64) (U.i (IntKind.wrap IntKind.i64 (U.int cnt + (1 : Int)))), SV.val (Ct.sl false [Ct.int IntKind.u8]) (U.l (num (U.list 
  b) (2 : Int) (U.int j) ++ leafB (U.int kk) (List.drop (Int.toNat (0 : Int)) (U.list (nth (U.i (0 : Int)) (U.list L) (Int.toNat (U.int j))))))), SV.val (Ct.int IntKind.i64) kk] [Obj.box [SV.val (Ct.sl false 
  [Ct.sl true [Ct.int IntKind.i64, Ct.int IntKind.i64, Ct.int IntKind.i64, Ct.int IntKind.i64, Ct.int IntKind.u32]]) L]]) N then ([Ct.int IntKind.i64, Ct.int IntKind.i64, Ct.int IntKind.i64, Ct.int IntKind.i64, 
  Ct.int IntKind.u32] = [Ct.int IntKind.i64, Ct.int IntKind.i64, Ct.int IntKind.i64, Ct.int IntKind.i64, Ct.int IntKind.u32] ∧ nat_lit 256 = nat_lit 256 ∧ nat_lit 0 = nat_lit 0 ∧ U.i (IntKind.wrap IntKind.i64 
  (U.int cnt + (1 : Int))) = U.i (IntKind.wrap IntKind.i64 (U.int cnt + (1 : Int))) ∧ U.l (num (U.list b) (2 : Int) (U.int j) ++ leafB (U.int kk) (List.drop (Int.toNat (0 : Int)) (U.list (nth (U.i (0 : Int)) 
  (U.list L) (Int.toNat (U.int j)))))) = U.l (num (U.list b) (2 : Int) (U.int j) ++ leafB (U.int kk) (List.drop (Int.toNat (0 : Int)) (U.list (nth (U.i (0 : Int)) (U.list L) (Int.toNat (U.int j)))))) ∧ List.length 
  (U.list L) ≤ (4096 : Nat) ∧ (0 : Int) ≤ IntKind.wrap IntKind.i64 (U.int j + (1 : Int)) ∧ IntKind.wrap IntKind.i64 (U.int j + (1 : Int)) ≤ (↑(List.length (U.list L)) : Int) ∧ (0 : Int) ≤ IntKind.wrap IntKind.i64 
  (U.int cnt + (1 : Int)) ∧ IntKind.wrap IntKind.i64 (U.int cnt + (1 : Int)) ≤ IntKind.wrap IntKind.i64 (U.int j + (1 : Int)) ∧ (∀ (l : U), l ∈ U.list L → U.list l = [] ∨ List.length (U.list l) = (8 : Nat)) 
  ∧ (↑(List.length (num (U.list b) (2 : Int) (U.int j) ++ leafB (U.int kk) (List.drop (Int.toNat (0 : Int)) (U.list (nth (U.i (0 : Int)) (U.list L) (Int.toNat (U.int j))))))) : Int) + (200 : Int) * ((↑(List.length 
  (U.list L)) : Int) - IntKind.wrap IntKind.i64 (U.int j + (1 : Int))) ≤ (536870912 : Int)) ∧ k (Ex.exit (nat_lit 0)) (St.mk [(nat_lit 6, SV.val (Ct.int IntKind.i64) (U.i (IntKind.wrap IntKind.i64 (U.int 
  cnt + (1 : Int)) + countB (List.drop (Int.toNat (IntKind.wrap IntKind.i64 (U.int j + (1 : Int)))) (U.list L))))), (nat_lit 7, SV.val (Ct.sl false [Ct.int IntKind.u8]) (U.l (num (U.list b) (2 : Int) (U.int 
  j) ++ leafB (U.int kk) (List.drop (Int.toNat (0 : Int)) (U.list (nth (U.i (0 : Int)) (U.list L) (Int.toNat (U.int j))))) ++ leavesB (U.int kk) (IntKind.wrap IntKind.i64 (U.int j + (1 : Int))) (List.drop 
  (Int.toNat (IntKind.wrap IntKind.i64 (U.int j + (1 : Int)))) (U.list L)))))] []) else False else False else k (Ex.exit (nat_lit 0)) (St.mk [(nat_lit 6, SV.val (Ct.int IntKind.i64) cnt), (nat_lit 7, SV.val 
  (Ct.sl false [Ct.int IntKind.u8]) b)] [])) := by kernel_rfl
theorem rtput_tree (R : RF) (L k : U) : (run rtputC Try.f29 [[L], [k]] R) = (bif decide (U.int k < (0 : Int)) then R [[U.l []], [U.i (1 : Int)]] else bif decide (U.int k > (6 : Int)) then R [[U.l []], [U.i (1 : Int)]] else bif !rtableR (U.list L) (4096 : Int) (U.int k) then R [[U.l 
  []], [U.i (1 : Int)]] else ([Ct.int IntKind.i64, Ct.int IntKind.i64, Ct.int IntKind.i64, Ct.int IntKind.i64, Ct.int IntKind.u32] = [Ct.int IntKind.i64, Ct.int IntKind.i64, Ct.int IntKind.i64, Ct.int IntKind.i64, 
  Ct.int IntKind.u32] ∧ nat_lit 256 = nat_lit 256 ∧ nat_lit 0 = nat_lit 0 ∧ U.i (0 : Int) = U.i (0 : Int) ∧ U.l [] = U.l [] ∧ List.length (U.list L) ≤ (4096 : Nat) ∧ (0 : Int) ≤ (0 : Int) ∧ (0 : Int) ≤ (↑(List.length 
  (U.list L)) : Int) ∧ (0 : Int) ≤ (0 : Int) ∧ (0 : Int) ≤ (0 : Int) ∧ (∀ (l : U), l ∈ U.list L → U.list l = [] ∨ List.length (U.list l) = (8 : Nat)) ∧ (↑(0 : Nat) : Int) + (200 : Int) * ((↑(List.length 
  (U.list L)) : Int) - (0 : Int)) ≤ (536870912 : Int)) ∧ (0 : Nat) ≤ (536870912 : Nat) ∧ bif decide (List.length (num [] (2 : Int) ((0 : Int) + countB (List.drop (Int.toNat (0 : Int)) (U.list L)))) + List.length 
  ([] ++ leavesB (U.int k) (0 : Int) (List.drop (Int.toNat (0 : Int)) (U.list L))) ≤ room) && !oddB ((8207 : Nat) + (1 : Nat)) then R [[U.l (num [] (2 : Int) ((0 : Int) + countB (List.drop (Int.toNat (0 
  : Int)) (U.list L))) ++ ([] ++ leavesB (U.int k) (0 : Int) (List.drop (Int.toNat (0 : Int)) (U.list L))))], [U.i (0 : Int)]] else False) := by kernel_rfl
end Go.Mat

/-
  WALKS 12: the document's tables as bytes. Conditions: none.
-/
namespace Go.Mat
open Go Go.Den Go.Proofs

theorem putX_app {b : List U} {n v : Int} (h : putErr n v = 0) : putX b n false v = b ++ putX [] n false v := by
  unfold putX; rw [if_pos h, if_pos h]; simp
theorem num_app {b : List U} {n v : Int} (h : putErr n (IntKind.wrap .u64 v) = 0) : num b n v = b ++ num [] n v := putX_app h
theorem good1 {v : Int} (h0 : 0 ≤ v) (h : v ≤ 255) : putErr 1 (IntKind.wrap .u64 v) = 0 := by
  rw [u64_in h0 (by omega), putErr, if_neg (by omega), if_neg]
  intro h1
  have h2 := h1.2
  simp only [Int.reduceMul, Int.reduceToNat, Int.reducePow, ne_eq] at h2
  omega
theorem good2 {v : Int} (h0 : 0 ≤ v) (h : v ≤ 65535) : putErr 2 (IntKind.wrap .u64 v) = 0 := by
  rw [u64_in h0 (by omega), putErr, if_neg (by omega), if_neg]
  intro h1
  have h2 := h1.2
  simp only [Int.reduceMul, Int.reduceToNat, Int.reducePow, ne_eq] at h2
  omega
theorem good4 {v : Int} (h0 : 0 ≤ v) (h : v ≤ 4294967295) : putErr 4 (IntKind.wrap .u64 v) = 0 := by
  rw [u64_in h0 (by omega), putErr, if_neg (by omega), if_neg]
  intro h1
  have h2 := h1.2
  simp only [Int.reduceMul, Int.reduceToNat, Int.reducePow, ne_eq] at h2
  omega
theorem numT_ok : SpecT PR 52 numF := fun fn hfn => by
  have hf : PR.funcs[(52 : Nat)]? = some Try.f52 := by kernel_rfl
  rw [hf] at hfn; cases hfn
  refine fnT_okH (C := numCT) (mkC_ok eqs0_ok mixed_ok .nil (.cons rput_ok .nil)) hf (by kernel_rfl) (loops_none (by kernel_rfl)) fun vs objs R h1 h2 h => ?_
  unfold numF at h
  split at h
  · rename_i b n v
    refine .eq (numT_tree R b n v) ?_
    exact h
  · exact h.elim
theorem num2T_ok : SpecT PR 27 numF := fun fn hfn => by
  have hf : PR.funcs[(27 : Nat)]? = some Try.f27 := by kernel_rfl
  rw [hf] at hfn; cases hfn
  refine fnT_okH (C := num2CT) (mkC_ok eqs0_ok mixed_ok .nil (.cons numT_ok .nil)) hf (by kernel_rfl) (loops_none (by kernel_rfl)) fun vs objs R h1 h2 h => ?_
  unfold numF at h
  split at h
  · rename_i b n v
    refine .eq (num2T_tree R b n v) ?_
    exact h
  · exact h.elim

theorem rtput_loop2 : LoopOk rtputC 2 (loopBody Try.f29 1) := by
  refine loopOk_of (F := rtputLoop2) (ts := [9, 7, 1, 2, 8, 6]) (os := [5392, 256]) rfl (fun svs _ => match svs with | .val _ i :: _ => (8 - i.int).toNat | _ => 0) ?_
  intro pan svs os k ho1 ho2 h
  unfold rtputLoop2 at h
  split at h
  · rename_i i o kk pp po j cnt t xs ec L
    obtain ⟨⟨rfl, rfl, rfl, rfl, rfl, hj0, hj, h8, h0, hi, hx⟩, hk⟩ := h
    refine .eq (rtput_round2 pan _ _ k i kk j cnt L xs) ?_
    refine bd (fun hlt => dt ⟨hj0, hj⟩ (dt ⟨h0, ?_⟩ ?_)) (fun hlt => ?_)
    · show i.int < ((U.at L.list j.int.toNat).list.length : Int)
      omega
    · rw [drop_at (by omega), leafB, ← List.append_assoc] at hk
      have hl := entX_len kk.int (U.at (U.at L.list j.int.toNat).list i.int.toNat)
      simp only [U.at, entX, e0, e1, e2, e3, e4] at hk hl h8
      have hw : IntKind.wrap .i64 (i.int + 1) = i.int + 1 := i64_in (by omega) (by omega)
      have hc : (i.int + 1).toNat = i.int.toNat + 1 := by omega
      have hlt' : (8 - (i.int + 1)).toNat < (8 - i.int).toNat := by omega
      simp only [nth_tail, Nat.zero_add, Nat.reduceAdd, hw, hc]
      refine broom (by simp [room]; omega) rfl (blt hlt' ⟨⟨by trivial, by trivial, by trivial, by trivial, by trivial, hj0, hj, h8, by omega, by omega, by rw [List.length_append]; omega⟩, hk⟩)
    · rw [List.drop_of_length_le (by omega), leafB, List.append_nil] at hk
      exact hk
  · exact h.elim
theorem rtput_loop0 : LoopOk rtputC 0 (loopBody Try.f29 0) := by
  refine loopOk_of (F := rtputLoop0) (ts := [8, 2, 6, 7, 1]) (os := [256]) rfl (fun svs os => match svs, os with | .val _ i :: _, [.box [.val _ L]] => ((L.list.length : Int) - i.int).toNat | _, _ => 0) ?_
  intro pan svs os k ho1 ho2 h
  unfold rtputLoop0 at h
  split at h
  · rename_i j pp po cnt b kk ec L
    obtain ⟨⟨rfl, rfl, rfl, hcnt, hb, hm4, h0, hj, hc0, hcj, h8, hx⟩, hk⟩ := h
    refine .eq (rtput_round0 pan _ _ k j cnt b kk L) ?_
    refine bd (fun hlt => dt ⟨h0, by omega⟩ ?_) (fun hlt => ?_)
    · have hl8 : (nth (U.i 0) L.list j.int.toNat).list = [] ∨ (nth (U.i 0) L.list j.int.toNat).list.length = 8 := by
        have hd : L.list.drop j.int.toNat = U.at L.list j.int.toNat :: _ := drop_at (by omega)
        exact h8 _ (List.mem_of_mem_drop (by rw [hd]; exact List.mem_cons_self ..))
      rw [drop_at (by omega), countB, leavesB] at hk
      have hw : IntKind.wrap .i64 (j.int + 1) = j.int + 1 := i64_in (by omega) (by omega)
      have hw2 : IntKind.wrap .i64 (cnt.int + 1) = cnt.int + 1 := i64_in (by omega) (by omega)
      have hc : (j.int + 1).toNat = j.int.toNat + 1 := by omega
      have hlt' : ((L.list.length : Int) - (j.int + 1)).toNat < ((L.list.length : Int) - j.int).toNat := by omega
      simp only [U.at] at hk
      simp only [hw, hw2, hc, Int.toNat_zero, List.drop_zero]
      refine bi (fun h1 => ?_) (fun h1 => ⟨by omega, ?_⟩)
      · have hl : (nth (U.i 0) L.list j.int.toNat).list = [] := by simpa using h1
        rw [decide_eq_true hl] at hk
        simp only [cond_true, Int.zero_add, List.nil_append] at hk
        exact blt hlt' ⟨⟨by trivial, by trivial, by trivial, hcnt, hb, hm4, by omega, by omega, hc0, by omega, h8, by omega⟩, hk⟩
      · have hl : ¬ (nth (U.i 0) L.list j.int.toNat).list = [] := by simpa using h1
        have hl8 := hl8.resolve_left hl
        rw [decide_eq_false hl] at hk
        have hn : num b.list 2 j.int = b.list ++ num [] 2 j.int := num_app (good2 h0 (by omega))
        rw [hn]
        simp only [cond_false, ← Int.add_assoc, ← List.append_assoc] at hk
        have l1 := num_len [] 2 j.int
        have l2 := leafB_len kk.int (nth (U.i 0) L.list j.int.toNat).list
        simp only [Int.reduceToNat, List.length_nil] at l1
        refine ⟨⟨by trivial, by trivial, by trivial, by trivial, by trivial, h0, by omega, hl8, by omega, by omega, by rw [List.length_append]; omega⟩, ?_⟩
        exact blt hlt' ⟨⟨by trivial, by trivial, by trivial, by trivial, by trivial, hm4, by omega, by omega, by omega, by omega, h8, by rw [List.length_append, List.length_append]; omega⟩, hk⟩
    · rw [List.drop_of_length_le (by omega), countB, leavesB, Int.add_zero, List.append_nil, ← hcnt, ← hb] at hk
      exact hk
  · exact h.elim
theorem leaves08 {n c : Int} : ∀ {L : List U} {i : Int}, leavesR n c i L = true → ∀ l ∈ L, l.list = [] ∨ l.list.length = 8
  | [], _, _, l, hl => by cases hl
  | x :: r, i, h, l, hl => by
    rw [leavesR] at h
    have key : (x.list = [] ∨ x.list.length = 8) ∧ leavesR n c (i + 1) r = true := by
      split at h
      · rename_i h0; exact ⟨.inl h0.1, h⟩
      · rw [Bool.and_eq_true] at h
        have h1 := h.1
        unfold leafR at h1
        simp only [Bool.and_eq_true, decide_eq_true_eq] at h1
        exact ⟨.inr h1.1.1, h.2⟩
    rcases List.mem_cons.1 hl with rfl | hl
    · exact key.1
    · exact leaves08 key.2 l hl
theorem tableR_08 {L : List U} {n c : Int} (h : tableR L n c = true) : ∀ l ∈ L, l.list = [] ∨ l.list.length = 8 := by
  unfold tableR at h
  split at h
  · cases h
  · exact leaves08 h
theorem rtput_ok : SpecFP PR 29 tputP tputS := fun fn us hfn hpre => by
  have hf : PR.funcs[(29 : Nat)]? = some Try.f29 := by kernel_rfl
  rw [hf] at hfn; cases hfn
  refine fn_okH (C := rtputC) (mkC_ok eqs0_ok mixed_ok (.cons (rentS_eq ▸ rent_ok) (.cons rtab_ok .nil)) (.cons numT_ok .nil)) hf (by kernel_rfl) (loops_two (by kernel_rfl) rtput_loop0 rtput_loop2) fun hok => ?_
  have hp : Try.f29.params.toList = [24, 3] := by kernel_rfl
  rw [hp] at hok
  obtain ⟨L, k, hus⟩ : ∃ L k, us = [[L], [k]] := by
    obtain ⟨u, u2, rfl, h1, h2⟩ := shape2 (by kernel_rfl : Cs PR 24 = some (true, [.sl false [.sl true [.int .i64, .int .i64, .int .i64, .int .i64, .int .u32]]])) (by kernel_rfl : Cs PR 3 = some (false, [.int .i64])) hok.1
    obtain ⟨L, rfl⟩ := len1 h1
    obtain ⟨k, rfl⟩ := len1 h2
    exact ⟨L, k, rfl⟩
  subst hus
  refine .eq (rtput_tree _ _ _) ?_
  unfold tputP at hpre
  unfold tputS tputB
  simp only [nth_zero, nth_succ] at hpre ⊢
  rw [rtableR_eq hpre]
  have bad : rtableR L.list 4096 k.int = false → ([[U.l []], [U.i 1]] : List (List U)) = [[.l (bif rtableR L.list 4096 k.int then num [] 2 (countB L.list) ++ leavesB k.int 0 L.list else [])], [.i (bif rtableR L.list 4096 k.int then 0 else 1)]] := fun h => by rw [h]; rfl
  refine bd (fun h => bad (by unfold rtableR; rw [if_pos (by omega)])) (fun _ => bd (fun h => bad (by unfold rtableR; rw [if_pos (by omega)])) (fun _ => bi (fun h => bad (nt h)) (fun h => ?_)))
  have h := nf h
  rw [h]
  rw [← rtableR_eq hpre] at h
  obtain ⟨h1, h2, _⟩ := tableR_low hpre h
  have h3 := leavesB_len k.int L.list 0 h2
  have h4 := num_len [] 2 (countB L.list)
  simp only [Int.reduceToNat, List.length_nil] at h4
  simp only [List.drop_zero, Int.toNat_zero, Int.zero_add, List.nil_append]
  refine ⟨⟨by trivial, by trivial, by trivial, by trivial, by trivial, by omega, by trivial, by omega, by trivial, by trivial, tableR_08 h, by omega⟩, by trivial, broom ?_ rfl (by trivial)⟩
  show (num [] 2 (countB L.list)).length + _ ≤ 1073741824
  omega
end Go.Mat

/-
  TREES 13: texts in bytes. Conditions: none.
-/
namespace Go.Mat
open Go Go.Den Go.Proofs
noncomputable def addF : Tr := fun vs objs k => match vs, objs with
  | [.ptr p o, .val (.int .i64) d], [(i, .box [.val (.int .i64) x])] =>
    (p = 2097153 ∧ o = 0 ∧ i = 2097153) ∧ k (.ret [vi (.i (IntKind.wrap .i64 (x.int + d.int)))]) [(2097153, .box [vi (.i (IntKind.wrap .i64 (x.int + d.int)))])]
  | _, _ => False
noncomputable def loadF : Tr := fun vs objs k => match vs, objs with
  | [.ptr p o], [(i, .box [.val (.int .i64) x])] => (p = 2097153 ∧ o = 0 ∧ i = 2097153) ∧ k (.ret [vi x]) [(2097153, .box [vi x])]
  | _, _ => False
theorem add_tree (R : RT) (d x : U) : (runD (K0.withExt 78 .add) Try.f68 [.ptr 2097153 0, vi d] [(2097153, .box [vi x])] R) = (R (Out.ret [SV.val (Ct.int IntKind.i64) (U.i (IntKind.wrap IntKind.i64 (U.int x + U.int d)))]) [(nat_lit 2097153, Obj.box [SV.val (Ct.int IntKind.i64) (U.i (IntKind.wrap IntKind.i64 (U.int x + U.int d)))])]) := by kernel_rfl
theorem load_tree (R : RT) (x : U) : (runD (K0.withExt 79 .load) Try.f69 [.ptr 2097153 0] [(2097153, .box [vi x])] R) = (R (Out.ret [SV.val (Ct.int IntKind.i64) x]) [(nat_lit 2097153, Obj.box [SV.val (Ct.int IntKind.i64) x])]) := by kernel_rfl
def strU (s : ByteArray) : List U := s.data.toList.map fun b => .i (b.toNat : Int)
def longB (s : ByteArray) : Bool := decide ((s.size : Int) > 65535)
def textB (b : List U) (s : ByteArray) : List U := bif longB s then [] else num b 2 s.size ++ strU s
def textE (s : ByteArray) : Int := bif longB s then 2 else 0
def textP : List (List U) → Prop := fun us => (nth (.i 0) (nth [] us 0) 0).list.length ≤ 536870912
def textS : List (List U) → List (List U) := fun us => [[.l (textB (nth (.i 0) (nth [] us 0) 0).list (nth (.i 0) (nth [] us 1) 0).str)], [.i (textE (nth (.i 0) (nth [] us 1) 0).str)]]
noncomputable def rtextF : Tr := fun vs objs k => match vs, objs with
  | [.val (.sl false [.int .u8]) b, .val .str s], [] =>
    (b.list.length ≤ 536870912) ∧ k (.ret [.own 2097152, vi (.i (textE s.str))]) [(2097152, .arr u8T (textB b.list s.str))]
  | _, _ => False
noncomputable def textC : Ctx := mkC PR eqs0 fnsNil (trsCons 68 [false, false] addF (trsCons 69 [false] loadF (trsCons 49 [false, false, false, false] putF trsNil))) noLoops noOut noOut
theorem text_tree (R : RF) (b s : U) : (run textC Try.f50 [[b], [s]] R) = ((nat_lit 2097153 = nat_lit 2097153 ∧ nat_lit 0 = nat_lit 0 ∧ nat_lit 2097153 = nat_lit 2097153) ∧ (nat_lit 2097153 = nat_lit 2097153 ∧ nat_lit 0 = nat_lit 0 ∧ nat_lit 2097153 = nat_lit 2097153) ∧ bif decide 
  (IntKind.wrap IntKind.i64 ((0 : Int) + (↑(ByteArray.size (U.str s)) : Int)) > (65535 : Int)) then R [[U.l []], [U.i (2 : Int)]] else (nat_lit 2097153 = nat_lit 2097153 ∧ nat_lit 0 = nat_lit 0 ∧ nat_lit 
  2097153 = nat_lit 2097153) ∧ List.length (U.list b) ≤ (536870912 : Nat) ∧ bif decide (List.length (putX (U.list b) (2 : Int) false (IntKind.wrap IntKind.u64 (IntKind.wrap IntKind.i64 ((0 : Int) + (↑(ByteArray.size 
  (U.str s)) : Int))))) + List.length (List.map (fun b => U.i (↑(UInt8.toNat b) : Int)) (Array.toList (ByteArray.data (U.str s)))) ≤ room) && !oddB ((2319 : Nat) + (1 : Nat)) then R [[U.l (putX (U.list b) 
  (2 : Int) false (IntKind.wrap IntKind.u64 (IntKind.wrap IntKind.i64 ((0 : Int) + (↑(ByteArray.size (U.str s)) : Int)))) ++ List.map (fun b => U.i (↑(UInt8.toNat b) : Int)) (Array.toList (ByteArray.data 
  (U.str s))))], [U.i (putErr (2 : Int) (IntKind.wrap IntKind.u64 (IntKind.wrap IntKind.i64 ((0 : Int) + (↑(ByteArray.size (U.str s)) : Int)))))]] else False) := by kernel_rfl
theorem rtext_tree (R : RT) (b s : U) : (runD K0 Try.f28 [vl (.int .u8) b, vs s] [] R) = (bif decide ((↑(ByteArray.size (U.str s)) : Int) > (65535 : Int)) then R (Out.ret [SV.own (nat_lit 2097152), SV.val (Ct.int IntKind.i64) (U.i (2 : Int))]) [(nat_lit 2097152, Obj.arr (nat_lit 5) [])] else 
  bif decide ((0 : Nat) + List.length (U.list b) ≤ room) && !oddB ((2 : Nat) * ((10 : Nat) * (64 : Nat) + (63 : Nat))) then bif decide (List.length ([] ++ U.list b) + List.length (List.set (List.set (List.replicate 
  (2 : Nat) (U.i (0 : Int))) (0 : Nat) (U.i (IntKind.wrap IntKind.u8 (↑(ByteArray.size (U.str s)) : Int)))) (1 : Nat) (U.i (IntKind.wrap IntKind.u8 (Int.fdiv (↑(ByteArray.size (U.str s)) : Int) ((2 : Int) 
  ^ min (Int.toNat (8 : Int)) (IntKind.bits IntKind.i64)))))) ≤ room) && !oddB ((2 : Nat) * ((10 : Nat) * (64 : Nat) + (63 : Nat))) then bif decide (List.length ([] ++ U.list b ++ List.set (List.set (List.replicate 
  (2 : Nat) (U.i (0 : Int))) (0 : Nat) (U.i (IntKind.wrap IntKind.u8 (↑(ByteArray.size (U.str s)) : Int)))) (1 : Nat) (U.i (IntKind.wrap IntKind.u8 (Int.fdiv (↑(ByteArray.size (U.str s)) : Int) ((2 : Int) 
  ^ min (Int.toNat (8 : Int)) (IntKind.bits IntKind.i64)))))) + List.length (List.map (fun b => U.i (↑(UInt8.toNat b) : Int)) (Array.toList (ByteArray.data (U.str s)))) ≤ room) && !oddB ((2 : Nat) * ((10 
  : Nat) * (64 : Nat) + (63 : Nat))) then R (Out.ret [SV.own (nat_lit 2097152), SV.val (Ct.int IntKind.i64) (U.i (0 : Int))]) [(nat_lit 2097152, Obj.arr (nat_lit 5) ([] ++ U.list b ++ List.set (List.set 
  (List.replicate (2 : Nat) (U.i (0 : Int))) (0 : Nat) (U.i (IntKind.wrap IntKind.u8 (↑(ByteArray.size (U.str s)) : Int)))) (1 : Nat) (U.i (IntKind.wrap IntKind.u8 (Int.fdiv (↑(ByteArray.size (U.str s)) 
  : Int) ((2 : Int) ^ min (Int.toNat (8 : Int)) (IntKind.bits IntKind.i64))))) ++ List.map (fun b => U.i (↑(UInt8.toNat b) : Int)) (Array.toList (ByteArray.data (U.str s)))))] else False else False else 
  False) := by kernel_rfl
end Go.Mat

/-
  WALKS 13: texts in bytes. Conditions: none.
-/
namespace Go.Mat
open Go Go.Den Go.Proofs

theorem run_add64 {x y : Int} {w : World} : (Op.intArith .add .i64 x y).run PR w = .ok (.int .i64 (IntKind.wrap .i64 (x + y))) w := rfl
theorem ext_load : ExtOk PR 79 .load := fun a x w h => by
  have hf : PR.funcs[(79 : Nat)]? = some Try.f79 := by kernel_rfl
  exact run_call_load hf (by kernel_rfl) (by kernel_rfl) (by kernel_rfl) .i64 (by kernel_rfl) h
theorem ext_add : ExtOk PR 78 .add := fun a x y w h hz => by
  have hf : PR.funcs[(78 : Nat)]? = some Try.f78 := by kernel_rfl
  exact run_call_add hf (by kernel_rfl) (by kernel_rfl) (by kernel_rfl) .i64 (by kernel_rfl) h hz run_add64
theorem add_ok : SpecT PR 68 addF := fun fn hfn => by
  have hf : PR.funcs[(68 : Nat)]? = some Try.f68 := by kernel_rfl
  rw [hf] at hfn; cases hfn
  refine fnT_okH (C := K0.withExt 78 .add) (Ctx.Ok.withExt (mkC_ok eqs0_ok mixed_ok .nil .nil) ext_add) hf (by kernel_rfl) (loops_none (by kernel_rfl)) fun vs objs R h1 h2 h => ?_
  unfold addF at h
  split at h
  · rename_i p o d i x
    obtain ⟨⟨rfl, rfl, rfl⟩, h⟩ := h
    refine .eq (add_tree R d x) ?_
    exact h
  · exact h.elim
theorem load_ok : SpecT PR 69 loadF := fun fn hfn => by
  have hf : PR.funcs[(69 : Nat)]? = some Try.f69 := by kernel_rfl
  rw [hf] at hfn; cases hfn
  refine fnT_okH (C := K0.withExt 79 .load) (Ctx.Ok.withExt (mkC_ok eqs0_ok mixed_ok .nil .nil) ext_load) hf (by kernel_rfl) (loops_none (by kernel_rfl)) fun vs objs R h1 h2 h => ?_
  unfold loadF at h
  split at h
  · rename_i p o i x
    obtain ⟨⟨rfl, rfl, rfl⟩, h⟩ := h
    refine .eq (load_tree R x) ?_
    exact h
  · exact h.elim

theorem text_ok : SpecFP PR 50 textP textS := fun fn us hfn hpre => by
  have hf : PR.funcs[(50 : Nat)]? = some Try.f50 := by kernel_rfl
  rw [hf] at hfn; cases hfn
  refine fn_okH (C := textC) (mkC_ok eqs0_ok mixed_ok .nil (.cons add_ok (.cons load_ok (.cons put_ok .nil)))) hf (by kernel_rfl) (loops_none (by kernel_rfl)) fun hok => ?_
  have hp : Try.f50.params.toList = [32, 9] := by kernel_rfl
  rw [hp] at hok
  obtain ⟨b, s, hus⟩ : ∃ b s, us = [[b], [s]] := by
    obtain ⟨u, u2, rfl, h1, h2⟩ := shape2 (by kernel_rfl : Cs PR 32 = some (false, [.sl false [.int .u8]])) (by kernel_rfl : Cs PR 9 = some (false, [.str])) hok.1
    obtain ⟨b, rfl⟩ := len1 h1
    obtain ⟨s, rfl⟩ := len1 h2
    exact ⟨b, s, rfl⟩
  subst hus
  refine .eq (text_tree _ _ _) ?_
  have hs : s.str.size ≤ maxLen := (hok.2 [vl (.int .u8) b, vs s] (by kernel_rfl)).2.1
  unfold maxLen at hs
  unfold textP at hpre
  unfold textS textB textE
  simp only [nth_zero, nth_succ] at hpre ⊢
  rw [i64_in (by omega) (by omega), Int.zero_add]
  refine ⟨⟨by trivial, by trivial, by trivial⟩, ⟨by trivial, by trivial, by trivial⟩, ?_⟩
  refine bi (fun h => by rw [show longB s.str = true from h]; rfl) (fun h => ?_)
  rw [show longB s.str = false from h]
  have h := of_decide_eq_false h
  have hg := good2 (v := s.str.size) (by omega) (by omega)
  have h4 := num_len b.list 2 s.str.size
  simp only [Int.reduceToNat] at h4
  have hl : (List.map (fun b : UInt8 => U.i (b.toNat : Int)) s.str.data.toList).length = s.str.size := by rw [List.length_map, str_len]
  refine ⟨⟨by trivial, by trivial, by trivial⟩, hpre, broom ?_ rfl ?_⟩
  · rw [hl]
    show (num b.list 2 s.str.size).length + _ ≤ 1073741824
    omega
  · rw [hg]; rfl
theorem rtext_ok : SpecT PR 28 rtextF := fun fn hfn => by
  have hf : PR.funcs[(28 : Nat)]? = some Try.f28 := by kernel_rfl
  rw [hf] at hfn; cases hfn
  refine fnT_okH (C := K0) (mkC_ok eqs0_ok mixed_ok .nil .nil) hf (by kernel_rfl) (loops_none (by kernel_rfl)) fun vs objs R h1 h2 h => ?_
  unfold rtextF at h
  split at h
  · rename_i b s
    obtain ⟨hb, h⟩ := h
    refine .eq (rtext_tree R b s) ?_
    unfold textB textE at h
    refine bi (fun h0 => by rw [show longB s.str = true from h0] at h; exact h) (fun h0 => ?_)
    rw [show longB s.str = false from h0] at h
    have h0 := of_decide_eq_false h0
    have hl : (List.map (fun b : UInt8 => U.i (b.toNat : Int)) s.str.data.toList).length = s.str.size := by rw [List.length_map, str_len]
    have hn : num b.list 2 s.str.size = [] ++ b.list ++ List.set (List.set (List.replicate (2 : Nat) (U.i 0)) 0 (U.i (IntKind.wrap .u8 s.str.size))) 1 (U.i (IntKind.wrap .u8 (Int.fdiv s.str.size (2 ^ min (Int.toNat 8) (IntKind.bits .i64))))) := by
      rw [num_app (good2 (v := s.str.size) (by omega) (by omega)), List.nil_append]
      congr 1
      unfold num putX
      rw [good2 (v := s.str.size) (by omega) (by omega), if_pos rfl, u64_in (by omega) (by omega), u8_wrap, u8_wrap, Int.fdiv_eq_ediv_of_nonneg _ (by decide)]
      show [U.i (byteAt s.str.size 0), U.i (byteAt s.str.size 1)] = [_, _]
      unfold byteAt
      simp [IntKind.bits]
    rw [hn] at h
    refine broom (by simp [room]; omega) rfl (broom (by simp [room]; omega) rfl (broom ?_ rfl h))
    rw [hl]; simp [room]; omega
  · exact h.elim

end Go.Mat

/-
  TREES 14: the writer of metas. Conditions: none.
-/
namespace Go.Mat
open Go Go.Den Go.Proofs
/-- the writer, as a method is handed it -/
abbrev wIs (p o i q j : Nat) (t : TypeId) : Prop := p = 2097153 ∧ o = 0 ∧ i = 2097153 ∧ q = 2097280 ∧ j = 2097280 ∧ t = u8T
abbrev wObjs (xs : List U) : Objs := [(2097153, .box [.own 2097280]), (2097280, .arr u8T xs)]
noncomputable def wnumF : Tr := fun vs objs k => match vs, objs with
  | [.ptr p o, .val (.int .i64) n, .val (.int .i64) v], [(i, .box [.own q]), (j, .arr t xs)] =>
    (wIs p o i q j t ∧ n.int ≤ 8 ∧ xs.length ≤ 800000000) ∧ k (.ret []) (wObjs (xs ++ num [] n.int v.int))
  | _, _ => False
noncomputable def wtextF : Tr := fun vs objs k => match vs, objs with
  | [.ptr p o, .val .str s], [(i, .box [.own q]), (j, .arr t xs)] =>
    (wIs p o i q j t ∧ xs.length ≤ 800000000) ∧ k (.ret []) (wObjs (xs ++ textB [] s.str))
  | _, _ => False
def tabX (L : List U) (k : Int) : List U := bif tableR L 4096 k then tputB L k else []
noncomputable def wtableF : Tr := fun vs objs k => match vs, objs with
  | [.ptr p o, .agg [.val (.sl false [.sl true ec]) L], .val (.int .i64) c], [(i, .box [.own q]), (j, .arr t xs)] =>
    (wIs p o i q j t ∧ ec = EC ∧ L.list.length ≤ 1099511627776 ∧ xs.length ≤ 800000000) ∧ k (.ret []) (wObjs (xs ++ tabX L.list c.int))
  | _, _ => False
def spansB : List U → List U
  | [] => []
  | s :: r => num [] 2 (e0 s).int ++ num [] 2 (e1 s).int ++ spansB r
def onB (b : Bool) : Int := bif b then 1 else 0
def mapB (nm : ByteArray) (on : Bool) (L : List U) : List U := textB [] nm ++ num [] 1 (onB on) ++ num [] 2 L.length ++ spansB L
noncomputable def wmapF : Tr := fun vs objs k => match vs, objs with
  | [.ptr p o, .agg [.val .str nm, .val .bool on, .val (.sl true ec) L]], [(i, .box [.own q]), (j, .arr t xs)] =>
    (wIs p o i q j t ∧ ec = SpC ∧ (xs.length : Int) + 8 * L.list.length ≤ 700000000) ∧ k (.ret []) (wObjs (xs ++ mapB nm.str on.bool L.list))
  | _, _ => False
/-- counts, run by run: n of x so far -/
def runsB (x n : Int) : List U → List U
  | [] => num [] 2 n ++ num [] 2 x
  | y :: r => bif decide (n < 65535) && (y.int == x) then runsB x (n + 1) r else num [] 2 n ++ num [] 2 x ++ runsB y.int 1 r
def countsB : List U → List U
  | [] => []
  | x :: r => runsB x.int 1 r
def lead (x n : Int) : List U → Int
  | [] => n
  | y :: r => bif decide (n < 65535) && (y.int == x) then lead x (n + 1) r else n
noncomputable def wcountsF : Tr := fun vs objs k => match vs, objs with
  | [.ptr p o, .val (.sl false [.int .i64]) L], [(i, .box [.own q]), (j, .arr t xs)] =>
    (wIs p o i q j t ∧ (xs.length : Int) + 8 * L.list.length ≤ 700000000) ∧ k (.ret []) (wObjs (xs ++ (num [] 4 L.list.length ++ countsB L.list)))
  | _, _ => False
noncomputable def wtextC : Ctx := mkC PR eqs0 (fnsConsP 50 textP textS fnsNil) trsNil noLoops noOut noOut
noncomputable def wtableC : Ctx := mkC PR eqs0 (fnsConsP 51 tputP tputS fnsNil) trsNil noLoops noOut noOut
noncomputable def wmapLoop : LoopF := fun _ svs os k => match svs, os with
  | [.val (.int .i64) i, .val (.int .i64) n, .val (.sl true ec) L, .ptr p o], [.box [.own q], .arr t xs] =>
    ((p = 2097153 ∧ o = 0 ∧ q = 2097280 ∧ t = u8T) ∧ ec = SpC ∧ n.int = (L.list.length : Int) ∧ 0 ≤ i.int ∧ i.int ≤ n.int ∧ (xs.length : Int) + 8 * (n.int - i.int) ≤ 750000000) ∧ k (.exit 0) ⟨[], wObjs (xs ++ spansB (L.list.drop i.int.toNat))⟩
  | _, _ => False
noncomputable def wmapC : Ctx := mkC PR eqs0 fnsNil (trsCons 22 [false, false, false] wnumF (trsCons 23 [false, false] wtextF trsNil))
  (loopCons 0 [24, 23, 22, 0] [2097153, 2097280] wmapLoop noLoops) (outCons 0 [] [2097153, 2097280] noOut) noOut
noncomputable def wcLoop2 : LoopF := fun _ svs os k => match svs, os with
  | [.val (.int .i64) n, .val (.int .i64) i, .val (.sl false [.int .i64]) L, .ptr p o], [.box [.own q], .arr t xs] =>
    ((p = 2097153 ∧ o = 0 ∧ q = 2097280 ∧ t = u8T) ∧ n = .i n.int ∧ 0 ≤ i.int ∧ 1 ≤ n.int ∧ n.int ≤ 65535 ∧ i.int + n.int ≤ L.list.length ∧ L.list.length ≤ 1000000000) ∧
    k (.exit 2) ⟨[(5, vi (.i (lead (U.at L.list i.int.toNat).int n.int (L.list.drop (i.int + n.int).toNat)))), (4, vi i), (1, vl (.int .i64) L), (0, .ptr 2097153 0)], wObjs xs⟩
  | _, _ => False
noncomputable def wcLoop0 : LoopF := fun _ svs os k => match svs, os with
  | [.val (.int .i64) i, .val (.sl false [.int .i64]) L, .ptr p o], [.box [.own q], .arr t xs] =>
    ((p = 2097153 ∧ o = 0 ∧ q = 2097280 ∧ t = u8T) ∧ 0 ≤ i.int ∧ i.int ≤ L.list.length ∧ L.list.length ≤ 1000000000 ∧ (xs.length : Int) + 8 * (L.list.length - i.int) ≤ 750000000) ∧
    k (.exit 0) ⟨[], wObjs (xs ++ countsB (L.list.drop i.int.toNat))⟩
  | _, _ => False
noncomputable def wcC : Ctx := mkC PR eqs0 fnsNil (trsCons 22 [false, false, false] wnumF trsNil)
  (loopCons 2 [5, 4, 1, 0] [2097153, 2097280] wcLoop2 (loopCons 0 [4, 1, 0] [2097153, 2097280] wcLoop0 noLoops)) (outCons 2 [5, 4, 1, 0] [2097153, 2097280] (outCons 0 [] [2097153, 2097280] noOut)) noOut
theorem wtext_tree (R : RT) (s : U) (xs : List U) : (runD wtextC Try.f23 [.ptr 2097153 0, vs s] (wObjs xs) R) = (textP [[U.l []], [s]] ∧ bif decide (List.length xs + List.length (textB [] (U.str s)) ≤ room) && !oddB (2097280 : Nat) then R (Out.ret []) [(nat_lit 2097153, Obj.box [SV.own (nat_lit 2097280)]), (nat_lit 
  2097280, Obj.arr (nat_lit 5) (xs ++ textB [] (U.str s)))] else False) := by kernel_rfl
theorem wtable_tree (R : RT) (L c : U) (xs : List U) : (runD wtableC Try.f24 [.ptr 2097153 0, .agg [vl (.sl true EC) L], vi c] (wObjs xs) R) = (tputP [[L], [c]] ∧ bif decide (List.length xs + List.length (bif tableR (U.list L) (4096 : Int) (U.int c) then tputB (U.list L) (U.int c) else []) ≤ room) && !oddB (2097280 : Nat) then R (Out.ret []) [(nat_lit 
  2097153, Obj.box [SV.own (nat_lit 2097280)]), (nat_lit 2097280, Obj.arr (nat_lit 5) (xs ++ bif tableR (U.list L) (4096 : Int) (U.int c) then tputB (U.list L) (U.int c) else []))] else False) := by kernel_rfl
theorem wmap_round (pan : KP) (μ : Mu) (N : Nat) (k : KE) (i n L : U) (xs : List U) : (exec (wmapC.panics pan) (loopBody Try.f25 0) 0 ⟨[(24, vi i), (23, vi n), (22, vt SpC L), (0, .ptr 2097153 0)], wObjs xs⟩ (again PR (some ([], [2097153, 2097280])) none pan [24, 23, 22, 0] [2097153, 2097280] wmapLoop μ N k)) = (bif decide (U.int i < U.int n) then bif decide ((0 : Int) ≤ U.int i ∧ U.int i < (↑(List.length (U.list L)) : Int)) then (wIs ((2097152 : Nat) + (1 : Nat)) (0 : Nat) ((2097152 : Nat) + (1 : Nat)) ((2097279 
  : Nat) + (1 : Nat)) ((2097279 : Nat) + (1 : Nat)) ((4 : Nat) + (1 : Nat)) ∧ (2 : Int) ≤ (8 : Int) ∧ List.length xs ≤ (800000000 : Nat)) ∧ (wIs ((2097152 : Nat) + (1 : Nat)) (0 : Nat) ((2097152 : Nat) + 
  (1 : Nat)) ((2097279 : Nat) + (1 : Nat)) ((2097279 : Nat) + (1 : Nat)) ((4 : Nat) + (1 : Nat)) ∧ (2 : Int) ≤ (8 : Int) ∧ List.length (xs ++ num [] (2 : Int) (U.int (nth (U.i (0 : Int)) (U.list (nth (U.i 
  (0 : Int)) (U.list L) (Int.toNat (U.int i)))) (0 : Nat)))) ≤ (800000000 : Nat)) ∧ bif Nat.blt (μ [SV.val (Ct.int IntKind.i64) (U.i (IntKind.wrap IntKind.i64 (U.int i + (1 : Int)))), SV.val (Ct.int IntKind.i64) 
  n, SV.val (Ct.sl true [Ct.int IntKind.i64, Ct.int IntKind.i64]) L, SV.ptr (nat_lit 2097153) (nat_lit 0)] [Obj.box [SV.own (nat_lit 2097280)], Obj.arr (nat_lit 5) (xs ++ num [] (2 : Int) (U.int (nth (U.i 
  (0 : Int)) (U.list (nth (U.i (0 : Int)) (U.list L) (Int.toNat (U.int i)))) (0 : Nat))) ++ num [] (2 : Int) (U.int (nth (U.i (0 : Int)) (List.tail (U.list (nth (U.i (0 : Int)) (U.list L) (Int.toNat (U.int 
  i))))) (0 : Nat))))]) N then ((nat_lit 2097153 = nat_lit 2097153 ∧ nat_lit 0 = nat_lit 0 ∧ nat_lit 2097280 = nat_lit 2097280 ∧ nat_lit 5 = nat_lit 5) ∧ [Ct.int IntKind.i64, Ct.int IntKind.i64] = [Ct.int 
  IntKind.i64, Ct.int IntKind.i64] ∧ U.int n = (↑(List.length (U.list L)) : Int) ∧ (0 : Int) ≤ IntKind.wrap IntKind.i64 (U.int i + (1 : Int)) ∧ IntKind.wrap IntKind.i64 (U.int i + (1 : Int)) ≤ U.int n ∧ 
  (↑(List.length (xs ++ num [] (2 : Int) (U.int (nth (U.i (0 : Int)) (U.list (nth (U.i (0 : Int)) (U.list L) (Int.toNat (U.int i)))) (0 : Nat))) ++ num [] (2 : Int) (U.int (nth (U.i (0 : Int)) (List.tail 
  (U.list (nth (U.i (0 : Int)) (U.list L) (Int.toNat (U.int i))))) (0 : Nat))))) : Int) + (8 : Int) * (U.int n - IntKind.wrap IntKind.i64 (U.int i + (1 : Int))) ≤ (750000000 : Int)) ∧ k (Ex.exit (nat_lit 
  0)) (St.mk [] [(nat_lit 2097153, Obj.box [SV.own (nat_lit 2097280)]), (nat_lit 2097280, Obj.arr (nat_lit 5) (xs ++ num [] (2 : Int) (U.int (nth (U.i (0 : Int)) (U.list (nth (U.i (0 : Int)) (U.list L) (Int.toNat 
  (U.int i)))) (0 : Nat))) ++ num [] (2 : Int) (U.int (nth (U.i (0 : Int)) (List.tail (U.list (nth (U.i (0 : Int)) (U.list L) (Int.toNat (U.int i))))) (0 : Nat))) ++ spansB (List.drop (Int.toNat (IntKind.wrap 
  IntKind.i64 (U.int i + (1 : Int)))) (U.list L))))]) else False else False else k (Ex.exit (nat_lit 0)) (St.mk [] [(nat_lit 2097153, Obj.box [SV.own (nat_lit 2097280)]), (nat_lit 2097280, Obj.arr (nat_lit 
  5) xs)])) := by kernel_rfl
theorem wmap_tree (R : RT) (nm on L : U) (xs : List U) : (runD wmapC Try.f25 [.ptr 2097153 0, .agg [vs nm, vb on, vt SpC L]] (wObjs xs) R) = ((wIs ((2097152 : Nat) + (1 : Nat)) (0 : Nat) ((2097152 : Nat) + (1 : Nat)) ((2097279 : Nat) + (1 : Nat)) ((2097279 : Nat) + (1 : Nat)) ((4 : Nat) + (1 : Nat)) ∧ List.length xs ≤ (800000000 : Nat)) ∧ bif 
  U.bool on then (wIs ((2097152 : Nat) + (1 : Nat)) (0 : Nat) ((2097152 : Nat) + (1 : Nat)) ((2097279 : Nat) + (1 : Nat)) ((2097279 : Nat) + (1 : Nat)) ((4 : Nat) + (1 : Nat)) ∧ (1 : Int) ≤ (8 : Int) ∧ List.length 
  (xs ++ textB [] (U.str nm)) ≤ (800000000 : Nat)) ∧ (wIs ((2097152 : Nat) + (1 : Nat)) (0 : Nat) ((2097152 : Nat) + (1 : Nat)) ((2097279 : Nat) + (1 : Nat)) ((2097279 : Nat) + (1 : Nat)) ((4 : Nat) + (1 
  : Nat)) ∧ (2 : Int) ≤ (8 : Int) ∧ List.length (xs ++ textB [] (U.str nm) ++ num [] (1 : Int) (1 : Int)) ≤ (800000000 : Nat)) ∧ ((nat_lit 2097153 = nat_lit 2097153 ∧ nat_lit 0 = nat_lit 0 ∧ nat_lit 2097280 
  = nat_lit 2097280 ∧ nat_lit 5 = nat_lit 5) ∧ [Ct.int IntKind.i64, Ct.int IntKind.i64] = [Ct.int IntKind.i64, Ct.int IntKind.i64] ∧ (↑(List.length (U.list L)) : Int) = (↑(List.length (U.list L)) : Int) 
  ∧ (0 : Int) ≤ (0 : Int) ∧ (0 : Int) ≤ (↑(List.length (U.list L)) : Int) ∧ (↑(List.length (xs ++ textB [] (U.str nm) ++ num [] (1 : Int) (1 : Int) ++ num [] (2 : Int) (↑(List.length (U.list L)) : Int))) 
  : Int) + (8 : Int) * ((↑(List.length (U.list L)) : Int) - (0 : Int)) ≤ (750000000 : Int)) ∧ R (Out.ret []) [(nat_lit 2097153, Obj.box [SV.own (nat_lit 2097280)]), (nat_lit 2097280, Obj.arr (nat_lit 5) 
  (xs ++ textB [] (U.str nm) ++ num [] (1 : Int) (1 : Int) ++ num [] (2 : Int) (↑(List.length (U.list L)) : Int) ++ spansB (List.drop (Int.toNat (0 : Int)) (U.list L))))] else (wIs ((2097152 : Nat) + (1 
  : Nat)) (0 : Nat) ((2097152 : Nat) + (1 : Nat)) ((2097279 : Nat) + (1 : Nat)) ((2097279 : Nat) + (1 : Nat)) ((4 : Nat) + (1 : Nat)) ∧ (1 : Int) ≤ (8 : Int) ∧ List.length (xs ++ textB [] (U.str nm)) ≤ (800000000 
  : Nat)) ∧ (wIs ((2097152 : Nat) + (1 : Nat)) (0 : Nat) ((2097152 : Nat) + (1 : Nat)) ((2097279 : Nat) + (1 : Nat)) ((2097279 : Nat) + (1 : Nat)) ((4 : Nat) + (1 : Nat)) ∧ (2 : Int) ≤ (8 : Int) ∧ List.length 
  (xs ++ textB [] (U.str nm) ++ num [] (1 : Int) (0 : Int)) ≤ (800000000 : Nat)) ∧ ((nat_lit 2097153 = nat_lit 2097153 ∧ nat_lit 0 = nat_lit 0 ∧ nat_lit 2097280 = nat_lit 2097280 ∧ nat_lit 5 = nat_lit 5) 
  ∧ [Ct.int IntKind.i64, Ct.int IntKind.i64] = [Ct.int IntKind.i64, Ct.int IntKind.i64] ∧ (↑(List.length (U.list L)) : Int) = (↑(List.length (U.list L)) : Int) ∧ (0 : Int) ≤ (0 : Int) ∧ (0 : Int) ≤ (↑(List.length 
  (U.list L)) : Int) ∧ (↑(List.length (xs ++ textB [] (U.str nm) ++ num [] (1 : Int) (0 : Int) ++ num [] (2 : Int) (↑(List.length (U.list L)) : Int))) : Int) + (8 : Int) * ((↑(List.length (U.list L)) : Int) 
  - (0 : Int)) ≤ (750000000 : Int)) ∧ R (Out.ret []) [(nat_lit 2097153, Obj.box [SV.own (nat_lit 2097280)]), (nat_lit 2097280, Obj.arr (nat_lit 5) (xs ++ textB [] (U.str nm) ++ num [] (1 : Int) (0 : Int) 
  ++ num [] (2 : Int) (↑(List.length (U.list L)) : Int) ++ spansB (List.drop (Int.toNat (0 : Int)) (U.list L))))]) := by kernel_rfl
theorem wc_round2 (pan : KP) (μ : Mu) (N : Nat) (k : KE) (n i L : U) (xs : List U) : (exec (wcC.panics pan) (loopBody Try.f26 1) 2 ⟨[(5, vi n), (4, vi i), (1, vl (.int .i64) L), (0, .ptr 2097153 0)], wObjs xs⟩ (again PR (some ([5, 4, 1, 0], [2097153, 2097280])) none pan [5, 4, 1, 0] [2097153, 2097280] wcLoop2 μ N k)) = (bif decide (U.int n < (65535 : Int)) then bif decide (IntKind.wrap IntKind.i64 (U.int i + U.int n) < (↑(List.length (U.list L)) : Int)) then bif decide ((0 : Int) ≤ IntKind.wrap IntKind.i64 (U.int i + 
  U.int n) ∧ IntKind.wrap IntKind.i64 (U.int i + U.int n) < (↑(List.length (U.list L)) : Int)) then bif decide ((0 : Int) ≤ U.int i ∧ U.int i < (↑(List.length (U.list L)) : Int)) then bif U.int (nth (U.i 
  (0 : Int)) (U.list L) (Int.toNat (IntKind.wrap IntKind.i64 (U.int i + U.int n)))) == U.int (nth (U.i (0 : Int)) (U.list L) (Int.toNat (U.int i))) then bif Nat.blt (μ [SV.val (Ct.int IntKind.i64) (U.i (IntKind.wrap 
  IntKind.i64 (U.int n + (1 : Int)))), SV.val (Ct.int IntKind.i64) i, SV.val (Ct.sl false [Ct.int IntKind.i64]) L, SV.ptr (nat_lit 2097153) (nat_lit 0)] [Obj.box [SV.own (nat_lit 2097280)], Obj.arr (nat_lit 
  5) xs]) N then ((nat_lit 2097153 = nat_lit 2097153 ∧ nat_lit 0 = nat_lit 0 ∧ nat_lit 2097280 = nat_lit 2097280 ∧ nat_lit 5 = nat_lit 5) ∧ U.i (IntKind.wrap IntKind.i64 (U.int n + (1 : Int))) = U.i (IntKind.wrap 
  IntKind.i64 (U.int n + (1 : Int))) ∧ (0 : Int) ≤ U.int i ∧ (1 : Int) ≤ IntKind.wrap IntKind.i64 (U.int n + (1 : Int)) ∧ IntKind.wrap IntKind.i64 (U.int n + (1 : Int)) ≤ (65535 : Int) ∧ U.int i + IntKind.wrap 
  IntKind.i64 (U.int n + (1 : Int)) ≤ (↑(List.length (U.list L)) : Int) ∧ List.length (U.list L) ≤ (1000000000 : Nat)) ∧ k (Ex.exit (nat_lit 2)) (St.mk [(nat_lit 5, SV.val (Ct.int IntKind.i64) (U.i (lead 
  (U.int (nth (U.i (0 : Int)) (U.list L) (Int.toNat (U.int i)))) (IntKind.wrap IntKind.i64 (U.int n + (1 : Int))) (List.drop (Int.toNat (U.int i + IntKind.wrap IntKind.i64 (U.int n + (1 : Int)))) (U.list 
  L))))), (nat_lit 4, SV.val (Ct.int IntKind.i64) i), (nat_lit 1, SV.val (Ct.sl false [Ct.int IntKind.i64]) L), (nat_lit 0, SV.ptr (nat_lit 2097153) (nat_lit 0))] [(nat_lit 2097153, Obj.box [SV.own (nat_lit 
  2097280)]), (nat_lit 2097280, Obj.arr (nat_lit 5) xs)]) else False else k (Ex.exit (nat_lit 2)) (St.mk [(nat_lit 5, SV.val (Ct.int IntKind.i64) n), (nat_lit 4, SV.val (Ct.int IntKind.i64) i), (nat_lit 
  1, SV.val (Ct.sl false [Ct.int IntKind.i64]) L), (nat_lit 0, SV.ptr (nat_lit 2097153) (nat_lit 0))] [(nat_lit 2097153, Obj.box [SV.own (nat_lit 2097280)]), (nat_lit 2097280, Obj.arr (nat_lit 5) xs)]) else 
  False else False else k (Ex.exit (nat_lit 2)) (St.mk [(nat_lit 5, SV.val (Ct.int IntKind.i64) n), (nat_lit 4, SV.val (Ct.int IntKind.i64) i), (nat_lit 1, SV.val (Ct.sl false [Ct.int IntKind.i64]) L), (nat_lit 
  0, SV.ptr (nat_lit 2097153) (nat_lit 0))] [(nat_lit 2097153, Obj.box [SV.own (nat_lit 2097280)]), (nat_lit 2097280, Obj.arr (nat_lit 5) xs)]) else k (Ex.exit (nat_lit 2)) (St.mk [(nat_lit 5, SV.val (Ct.int 
  IntKind.i64) n), (nat_lit 4, SV.val (Ct.int IntKind.i64) i), (nat_lit 1, SV.val (Ct.sl false [Ct.int IntKind.i64]) L), (nat_lit 0, SV.ptr (nat_lit 2097153) (nat_lit 0))] [(nat_lit 2097153, Obj.box [SV.own 
  (nat_lit 2097280)]), (nat_lit 2097280, Obj.arr (nat_lit 5) xs)])) := by kernel_rfl
theorem wc_round0 (pan : KP) (μ : Mu) (N : Nat) (k : KE) (i L : U) (xs : List U) : (exec (wcC.panics pan) (loopBody Try.f26 0) 0 ⟨[(4, vi i), (1, vl (.int .i64) L), (0, .ptr 2097153 0)], wObjs xs⟩ (again PR (some ([], [2097153, 2097280])) none pan [4, 1, 0] [2097153, 2097280] wcLoop0 μ N k)) = (bif decide (U.int i < (↑(List.length (U.list L)) : Int)) then ((nat_lit 2097153 = nat_lit 2097153 ∧ nat_lit 0 = nat_lit 0 ∧ nat_lit 2097280 = nat_lit 2097280 ∧ nat_lit 5 = nat_lit 5) ∧ U.i (1 : Int) = 
  U.i (1 : Int) ∧ (0 : Int) ≤ U.int i ∧ (1 : Int) ≤ (1 : Int) ∧ (1 : Int) ≤ (65535 : Int) ∧ U.int i + (1 : Int) ≤ (↑(List.length (U.list L)) : Int) ∧ List.length (U.list L) ≤ (1000000000 : Nat)) ∧ (wIs ((2097152 
  : Nat) + (1 : Nat)) (0 : Nat) ((2097152 : Nat) + (1 : Nat)) ((2097279 : Nat) + (1 : Nat)) ((2097279 : Nat) + (1 : Nat)) ((4 : Nat) + (1 : Nat)) ∧ (2 : Int) ≤ (8 : Int) ∧ List.length xs ≤ (800000000 : Nat)) 
  ∧ bif decide ((0 : Int) ≤ U.int i ∧ U.int i < (↑(List.length (U.list L)) : Int)) then (wIs ((2097152 : Nat) + (1 : Nat)) (0 : Nat) ((2097152 : Nat) + (1 : Nat)) ((2097279 : Nat) + (1 : Nat)) ((2097279 
  : Nat) + (1 : Nat)) ((4 : Nat) + (1 : Nat)) ∧ (2 : Int) ≤ (8 : Int) ∧ List.length (xs ++ num [] (2 : Int) (lead (U.int (nth (U.i (0 : Int)) (U.list L) (Int.toNat (U.int i)))) (1 : Int) (List.drop (Int.toNat 
  (U.int i + (1 : Int))) (U.list L)))) ≤ (800000000 : Nat)) ∧ bif Nat.blt (μ [SV.val (Ct.int IntKind.i64) (U.i (IntKind.wrap IntKind.i64 (U.int i + lead (U.int (nth (U.i (0 : Int)) (U.list L) (Int.toNat 
  (U.int i)))) (1 : Int) (List.drop (Int.toNat (U.int i + (1 : Int))) (U.list L))))), SV.val (Ct.sl false [Ct.int IntKind.i64]) L, SV.ptr (nat_lit 2097153) (nat_lit 0)] [Obj.box [SV.own (nat_lit 2097280)], 
  Obj.arr (nat_lit 5) (xs ++ num [] (2 : Int) (lead (U.int (nth (U.i (0 : Int)) (U.list L) (Int.toNat (U.int i)))) (1 : Int) (List.drop (Int.toNat (U.int i + (1 : Int))) (U.list L))) ++ num [] (2 : Int) 
  (U.int (nth (U.i (0 : Int)) (U.list L) (Int.toNat (U.int i)))))]) N then ((nat_lit 2097153 = nat_lit 2097153 ∧ nat_lit 0 = nat_lit 0 ∧ nat_lit 2097280 = nat_lit 2097280 ∧ nat_lit 5 = nat_lit 5) ∧ (0 : 
  Int) ≤ IntKind.wrap IntKind.i64 (U.int i + lead (U.int (nth (U.i (0 : Int)) (U.list L) (Int.toNat (U.int i)))) (1 : Int) (List.drop (Int.toNat (U.int i + (1 : Int))) (U.list L))) ∧ IntKind.wrap IntKind.i64 
  (U.int i + lead (U.int (nth (U.i (0 : Int)) (U.list L) (Int.toNat (U.int i)))) (1 : Int) (List.drop (Int.toNat (U.int i + (1 : Int))) (U.list L))) ≤ (↑(List.length (U.list L)) : Int) ∧ List.length (U.list 
  L) ≤ (1000000000 : Nat) ∧ (↑(List.length (xs ++ num [] (2 : Int) (lead (U.int (nth (U.i (0 : Int)) (U.list L) (Int.toNat (U.int i)))) (1 : Int) (List.drop (Int.toNat (U.int i + (1 : Int))) (U.list L))) 
  ++ num [] (2 : Int) (U.int (nth (U.i (0 : Int)) (U.list L) (Int.toNat (U.int i)))))) : Int) + (8 : Int) * ((↑(List.length (U.list L)) : Int) - IntKind.wrap IntKind.i64 (U.int i + lead (U.int (nth (U.i 
  (0 : Int)) (U.list L) (Int.toNat (U.int i)))) (1 : Int) (List.drop (Int.toNat (U.int i + (1 : Int))) (U.list L)))) ≤ (750000000 : Int)) ∧ k (Ex.exit (nat_lit 0)) (St.mk [] [(nat_lit 2097153, Obj.box [SV.own 
  (nat_lit 2097280)]), (nat_lit 2097280, Obj.arr (nat_lit 5) (xs ++ num [] (2 : Int) (lead (U.int (nth (U.i (0 : Int)) (U.list L) (Int.toNat (U.int i)))) (1 : Int) (List.drop (Int.toNat (U.int i + (1 : Int))) 
  (U.list L))) ++ num [] (2 : Int) (U.int (nth (U.i (0 : Int)) (U.list L) (Int.toNat (U.int i)))) ++ countsB (List.drop (Int.toNat (IntKind.wrap IntKind.i64 (U.int i + lead (U.int (nth (U.i (0 : Int)) (U.list 
  L) (Int.toNat (U.int i)))) (1 : Int) (List.drop (Int.toNat (U.int i + (1 : Int))) (U.list L))))) (U.list L))))]) else False else False else k (Ex.exit (nat_lit 0)) (St.mk [] [(nat_lit 2097153, Obj.box 
  [SV.own (nat_lit 2097280)]), (nat_lit 2097280, Obj.arr (nat_lit 5) xs)])) := by kernel_rfl
theorem wc_tree (R : RT) (L : U) (xs : List U) : (runD wcC Try.f26 [.ptr 2097153 0, vl (.int .i64) L] (wObjs xs) R) = ((wIs ((2097152 : Nat) + (1 : Nat)) (0 : Nat) ((2097152 : Nat) + (1 : Nat)) ((2097279 : Nat) + (1 : Nat)) ((2097279 : Nat) + (1 : Nat)) ((4 : Nat) + (1 : Nat)) ∧ (4 : Int) ≤ (8 : Int) ∧ List.length xs ≤ 
  (800000000 : Nat)) ∧ ((nat_lit 2097153 = nat_lit 2097153 ∧ nat_lit 0 = nat_lit 0 ∧ nat_lit 2097280 = nat_lit 2097280 ∧ nat_lit 5 = nat_lit 5) ∧ (0 : Int) ≤ (0 : Int) ∧ (0 : Int) ≤ (↑(List.length (U.list 
  L)) : Int) ∧ List.length (U.list L) ≤ (1000000000 : Nat) ∧ (↑(List.length (xs ++ num [] (4 : Int) (↑(List.length (U.list L)) : Int))) : Int) + (8 : Int) * ((↑(List.length (U.list L)) : Int) - (0 : Int)) 
  ≤ (750000000 : Int)) ∧ R (Out.ret []) [(nat_lit 2097153, Obj.box [SV.own (nat_lit 2097280)]), (nat_lit 2097280, Obj.arr (nat_lit 5) (xs ++ num [] (4 : Int) (↑(List.length (U.list L)) : Int) ++ countsB 
  (List.drop (Int.toNat (0 : Int)) (U.list L))))]) := by kernel_rfl
end Go.Mat

/-
  WALKS 14: the writer of metas. Conditions: none.
-/
namespace Go.Mat
open Go Go.Den Go.Proofs

theorem wis : wIs 2097153 0 2097153 2097280 2097280 u8T := ⟨rfl, rfl, rfl, rfl, rfl, rfl⟩
theorem num8 {n v : Int} (h : n ≤ 8) : (num [] n v).length ≤ 8 := by
  have := num_len [] n v
  simp only [List.length_nil] at this
  omega
theorem num2 (v : Int) : (num [] 2 v).length ≤ 2 := by
  have := num_len [] 2 v
  simp only [List.length_nil, Int.reduceToNat] at this
  omega
theorem num1 (v : Int) : (num [] 1 v).length ≤ 1 := by
  have := num_len [] 1 v
  simp only [List.length_nil, Int.reduceToNat] at this
  omega
theorem num4 (v : Int) : (num [] 4 v).length ≤ 4 := by
  have := num_len [] 4 v
  simp only [List.length_nil, Int.reduceToNat] at this
  omega
theorem strU_len (s : ByteArray) : (strU s).length = s.size := by rw [strU, List.length_map, str_len]
theorem textB_len (s : ByteArray) : (textB [] s).length ≤ 65537 := by
  unfold textB
  cases h : longB s with
  | true => simp
  | false =>
    have h := of_decide_eq_false h
    have := num2 s.size
    have := strU_len s
    simp only [cond_false, List.length_append]
    omega
theorem tabX_len {L : List U} (k : Int) (hl : L.length ≤ 1099511627776) : (tabX L k).length ≤ 66562 := by
  unfold tabX tputB
  cases h : tableR L 4096 k with
  | false => simp
  | true =>
    obtain ⟨h1, h2, _⟩ := tableR_low hl h
    have h3 := leavesB_len k L 0 h2
    have h4 := num2 (countB L)
    simp only [cond_true, List.length_append]
    omega
theorem spansB_len : ∀ L : List U, (spansB L).length ≤ 4 * L.length
  | [] => by simp [spansB]
  | s :: r => by
    have h1 := spansB_len r
    have h2 := num2 (e0 s).int
    have h3 := num2 (e1 s).int
    rw [spansB, List.length_append, List.length_append, List.length_cons]
    omega
theorem lead_ge (x : Int) : ∀ (l : List U) (n : Int), n ≤ lead x n l ∧ lead x n l ≤ n + l.length ∧ (n ≤ 65535 → lead x n l ≤ 65535)
  | [], n => by simp [lead]
  | y :: r, n => by
    unfold lead
    cases h : decide (n < 65535) && (y.int == x) with
    | false => simp; omega
    | true =>
      rw [Bool.and_eq_true, decide_eq_true_eq] at h
      have := lead_ge x r (n + 1)
      simp only [cond_true, List.length_cons]
      omega
theorem runsB_eq (x : Int) : ∀ (l : List U) (n : Int), runsB x n l = num [] 2 (lead x n l) ++ num [] 2 x ++ countsB (l.drop (lead x n l - n).toNat)
  | [], n => by simp [runsB, lead, countsB]
  | y :: r, n => by
    unfold runsB lead
    cases h : decide (n < 65535) && (y.int == x) with
    | false => simp [countsB]
    | true =>
      have h1 := lead_ge x r (n + 1)
      simp only [cond_true]
      rw [runsB_eq x r (n + 1), show (lead x (n + 1) r - n).toNat = (lead x (n + 1) r - (n + 1)).toNat + 1 by omega]
      rfl
theorem countsB_cons (x : U) (r : List U) : countsB (x :: r) = num [] 2 (lead x.int 1 r) ++ num [] 2 x.int ++ countsB (r.drop (lead x.int 1 r - 1).toNat) := runsB_eq ..
theorem countsB_len : ∀ (m : Nat) (l : List U), l.length ≤ m → (countsB l).length ≤ 4 * l.length
  | _, [], _ => by simp [countsB]
  | m + 1, x :: r, h => by
    have h1 := lead_ge x.int r 1
    have h2 := num2 (lead x.int 1 r)
    have h3 := num2 x.int
    have h4 := countsB_len m (r.drop (lead x.int 1 r - 1).toNat) (by simp at h ⊢; omega)
    rw [countsB_cons, List.length_append, List.length_append, List.length_cons]
    simp only [List.length_drop] at h4
    omega
theorem wnum_ok : SpecT PR 22 wnumF := fun fn hfn => by
  have hf : PR.funcs[(22 : Nat)]? = some Try.f22 := by kernel_rfl
  rw [hf] at hfn; cases hfn
  refine fnT_okH (C := wnumC) (mkC_ok eqs0_ok mixed_ok .nil (.cons put_ok .nil)) hf (by kernel_rfl) (loops_none (by kernel_rfl)) fun vs objs R h1 h2 h => ?_
  clear h1 h2
  unfold wnumF at h
  split at h
  · rename_i p o n v i q j t xs
    obtain ⟨⟨⟨rfl, rfl, rfl, rfl, rfl, rfl⟩, h8, hx⟩, h⟩ := h
    refine .eq (wnum_tree R n v xs) ?_
    have hl := num8 (v := v.int) h8
    refine ⟨by trivial, broom ?_ rfl h⟩
    show xs.length + (num [] n.int v.int).length ≤ 1073741824
    omega
  · exact h.elim
theorem wtext_ok : SpecT PR 23 wtextF := fun fn hfn => by
  have hf : PR.funcs[(23 : Nat)]? = some Try.f23 := by kernel_rfl
  rw [hf] at hfn; cases hfn
  refine fnT_okH (C := wtextC) (mkC_ok eqs0_ok mixed_ok (.consP text_ok .nil) .nil) hf (by kernel_rfl) (loops_none (by kernel_rfl)) fun vs objs R h1 h2 h => ?_
  clear h1 h2
  unfold wtextF at h
  split at h
  · rename_i p o s i q j t xs
    obtain ⟨⟨⟨rfl, rfl, rfl, rfl, rfl, rfl⟩, hx⟩, h⟩ := h
    refine .eq (wtext_tree R s xs) ?_
    have hl := textB_len s.str
    refine ⟨by show (0 : Nat) ≤ _; omega, broom ?_ rfl h⟩
    show xs.length + (textB [] s.str).length ≤ 1073741824
    omega
  · exact h.elim
theorem wtable_ok : SpecT PR 24 wtableF := fun fn hfn => by
  have hf : PR.funcs[(24 : Nat)]? = some Try.f24 := by kernel_rfl
  rw [hf] at hfn; cases hfn
  refine fnT_okH (C := wtableC) (mkC_ok eqs0_ok mixed_ok (.consP tput_ok .nil) .nil) hf (by kernel_rfl) (loops_none (by kernel_rfl)) fun vs objs R h1 h2 h => ?_
  clear h1 h2
  unfold wtableF at h
  split at h
  · rename_i p o ec L c i q j t xs
    obtain ⟨⟨⟨rfl, rfl, rfl, rfl, rfl, rfl⟩, rfl, hT, hx⟩, h⟩ := h
    refine .eq (wtable_tree R L c xs) ?_
    have hl := tabX_len c.int hT
    unfold tabX at hl
    refine ⟨hT, broom ?_ rfl h⟩
    show xs.length + _ ≤ 1073741824
    omega
  · exact h.elim

theorem wmap_loop : LoopOk wmapC 0 (loopBody Try.f25 0) := by
  refine loopOk_of (F := wmapLoop) (ts := [24, 23, 22, 0]) (os := [2097153, 2097280]) rfl (fun svs _ => match svs with | .val _ i :: .val _ m :: _ => (m.int - i.int).toNat | _ => 0) ?_
  intro pan svs os k ho1 ho2 h
  unfold wmapLoop at h
  split at h
  · rename_i i n ec L p o q t xs
    obtain ⟨⟨⟨rfl, rfl, rfl, rfl⟩, rfl, hn, h0, hi, hx⟩, hk⟩ := h
    have hL : L.list.length ≤ maxLen := ho1.2.2.1.1
    refine .eq (wmap_round pan _ _ k i n L xs) ?_
    refine bd (fun hlt => dt ⟨h0, by omega⟩ ?_) (fun hlt => ?_)
    · rw [drop_at (by omega), spansB] at hk
      simp only [U.at, e0, e1, ← List.append_assoc] at hk
      have h1 := num2 (nth (.i 0) (nth (.i 0) L.list i.int.toNat).list 0).int
      have h2 := num2 (nth (.i 0) (nth (.i 0) L.list i.int.toNat).list 1).int
      have hw : IntKind.wrap .i64 (i.int + 1) = i.int + 1 := i64_in (by omega) (by unfold maxLen at hL; omega)
      have hc : (i.int + 1).toNat = i.int.toNat + 1 := by omega
      have hlt' : (n.int - (i.int + 1)).toNat < (n.int - i.int).toNat := by omega
      simp only [nth_tail, Nat.zero_add, Nat.reduceAdd, hw, hc]
      refine ⟨⟨wis, by omega, by omega⟩, ⟨wis, by omega, by rw [List.length_append]; omega⟩, blt hlt' ⟨⟨by trivial, by trivial, hn, by omega, by omega, by rw [List.length_append, List.length_append]; omega⟩, hk⟩⟩
    · rw [List.drop_of_length_le (by omega), spansB, List.append_nil] at hk
      exact hk
  · exact h.elim
theorem wmap_ok : SpecT PR 25 wmapF := fun fn hfn => by
  have hf : PR.funcs[(25 : Nat)]? = some Try.f25 := by kernel_rfl
  rw [hf] at hfn; cases hfn
  refine fnT_okH (C := wmapC) (mkC_ok eqs0_ok mixed_ok .nil (.cons wnum_ok (.cons wtext_ok .nil))) hf (by kernel_rfl) (loops_one (by kernel_rfl) wmap_loop) fun vs objs R h1 h2 h => ?_
  clear h1 h2
  unfold wmapF at h
  split at h
  · rename_i p o nm on ec L i q j t xs
    obtain ⟨⟨⟨rfl, rfl, rfl, rfl, rfl, rfl⟩, rfl, hx⟩, h⟩ := h
    refine .eq (wmap_tree R nm on L xs) ?_
    have h1 := textB_len nm.str
    have h2 := num2 L.list.length
    unfold mapB at h
    simp only [List.drop_zero, Int.toNat_zero]
    refine ⟨⟨wis, by omega⟩, bi (fun hb => ?_) (fun hb => ?_)⟩
    · have h3 := num1 1
      rw [hb] at h
      simp only [onB, cond_true, ← List.append_assoc] at h
      exact ⟨⟨wis, by omega, by rw [List.length_append]; omega⟩, ⟨wis, by omega, by rw [List.length_append, List.length_append]; omega⟩, ⟨by trivial, by trivial, by trivial, by trivial, by omega, by rw [List.length_append, List.length_append, List.length_append]; omega⟩, h⟩
    · have h3 := num1 0
      rw [hb] at h
      simp only [onB, cond_false, ← List.append_assoc] at h
      exact ⟨⟨wis, by omega, by rw [List.length_append]; omega⟩, ⟨wis, by omega, by rw [List.length_append, List.length_append]; omega⟩, ⟨by trivial, by trivial, by trivial, by trivial, by omega, by rw [List.length_append, List.length_append, List.length_append]; omega⟩, h⟩
  · exact h.elim

theorem wc_loop2 : LoopOk wcC 2 (loopBody Try.f26 1) := by
  refine loopOk_of (F := wcLoop2) (ts := [5, 4, 1, 0]) (os := [2097153, 2097280]) rfl (fun svs _ => match svs with | .val _ n :: _ => (65535 - n.int).toNat | _ => 0) ?_
  intro pan svs os k ho1 ho2 h
  unfold wcLoop2 at h
  split at h
  · rename_i n i L p o q t xs
    obtain ⟨⟨⟨rfl, rfl, rfl, rfl⟩, hnn, h0, hn1, hn, hi, hL⟩, hk⟩ := h
    refine .eq (wc_round2 pan _ _ k n i L xs) ?_
    have hw : IntKind.wrap .i64 (i.int + n.int) = i.int + n.int := i64_in (by omega) (by omega)
    have hw2 : IntKind.wrap .i64 (n.int + 1) = n.int + 1 := i64_in (by omega) (by omega)
    simp only [hw, hw2]
    refine bd (fun h1 => bd (fun h2 => dt (by omega) (dt (by omega) ?_)) (fun h2 => ?_)) (fun h1 => ?_)
    · rw [drop_at (by omega), lead, decide_eq_true h1, Bool.true_and] at hk
      simp only [U.at] at hk
      have hc : (i.int + (n.int + 1)).toNat = (i.int + n.int).toNat + 1 := by omega
      rw [hc]
      refine bi (fun h3 => ?_) (fun h3 => ?_)
      · rw [h3] at hk
        exact blt (by show (65535 - (n.int + 1)).toNat < (65535 - n.int).toNat; omega) ⟨⟨by trivial, by trivial, h0, by omega, by omega, by omega, hL⟩, hk⟩
      · rw [h3, cond_false, ← hnn] at hk
        exact hk
    · rw [List.drop_of_length_le (by omega), lead, ← hnn] at hk
      exact hk
    · by_cases h2 : (i.int + n.int).toNat < L.list.length
      · rw [drop_at h2, lead, decide_eq_false h1, Bool.false_and, cond_false, ← hnn] at hk
        exact hk
      · rw [List.drop_of_length_le (by omega), lead, ← hnn] at hk
        exact hk
  · exact h.elim
theorem wc_loop0 : LoopOk wcC 0 (loopBody Try.f26 0) := by
  refine loopOk_of (F := wcLoop0) (ts := [4, 1, 0]) (os := [2097153, 2097280]) rfl (fun svs _ => match svs with | .val _ i :: .val _ L :: _ => ((L.list.length : Int) - i.int).toNat | _ => 0) ?_
  intro pan svs os k ho1 ho2 h
  unfold wcLoop0 at h
  split at h
  · rename_i i L p o q t xs
    obtain ⟨⟨⟨rfl, rfl, rfl, rfl⟩, h0, hi, hL, hx⟩, hk⟩ := h
    refine .eq (wc_round0 pan _ _ k i L xs) ?_
    refine bd (fun hlt => ?_) (fun hlt => ?_)
    · rw [drop_at (by omega), countsB_cons, List.drop_drop] at hk
      simp only [U.at] at hk
      have hd : (i.int + 1).toNat = i.int.toNat + 1 := by omega
      have hge := lead_ge (nth (.i 0) L.list i.int.toNat).int (L.list.drop (i.int.toNat + 1)) 1
      simp only [List.length_drop] at hge
      simp only [hd]
      generalize lead (nth (.i 0) L.list i.int.toNat).int 1 (L.list.drop (i.int.toNat + 1)) = m at hk hge ⊢
      have hw : IntKind.wrap .i64 (i.int + m) = i.int + m := i64_in (by omega) (by omega)
      have hm : (i.int + m).toNat = i.int.toNat + 1 + (m - 1).toNat := by omega
      have h1 := num2 m
      have h2 := num2 (nth (.i 0) L.list i.int.toNat).int
      have hlt' : ((L.list.length : Int) - (i.int + m)).toNat < ((L.list.length : Int) - i.int).toNat := by omega
      simp only [← List.append_assoc] at hk
      simp only [hw, hm]
      exact ⟨⟨by trivial, by trivial, h0, by omega, by omega, by omega, by omega⟩, ⟨wis, by omega, by omega⟩, dt (by omega) ⟨⟨wis, by omega, by rw [List.length_append]; omega⟩, blt hlt' ⟨⟨by trivial, by omega, by omega, hL, by rw [List.length_append, List.length_append]; omega⟩, hk⟩⟩⟩
    · rw [List.drop_of_length_le (by omega), countsB, List.append_nil] at hk
      exact hk
  · exact h.elim
theorem wcounts_ok : SpecT PR 26 wcountsF := fun fn hfn => by
  have hf : PR.funcs[(26 : Nat)]? = some Try.f26 := by kernel_rfl
  rw [hf] at hfn; cases hfn
  refine fnT_okH (C := wcC) (mkC_ok eqs0_ok mixed_ok .nil (.cons wnum_ok .nil)) hf (by kernel_rfl) (loops_two (by kernel_rfl) wc_loop0 wc_loop2) fun vs objs R h1 h2 h => ?_
  clear h1 h2
  unfold wcountsF at h
  split at h
  · rename_i p o L i q j t xs
    obtain ⟨⟨⟨rfl, rfl, rfl, rfl, rfl, rfl⟩, hx⟩, h⟩ := h
    refine .eq (wc_tree R L xs) ?_
    have h1 := num4 L.list.length
    simp only [← List.append_assoc] at h
    simp only [List.drop_zero, Int.toNat_zero]
    exact ⟨⟨wis, by omega, by omega⟩, ⟨by trivial, by trivial, by omega, by omega, by rw [List.length_append]; omega⟩, h⟩
  · exact h.elim

end Go.Mat

/-
  TREES 15: metas as bytes. Conditions: none.
-/
namespace Go.Mat
open Go Go.Den Go.Proofs
def shotsB (c : Int) : List U → List U
  | [] => []
  | s :: r => textB [] (e0 s).str ++ num [] 2 (e1 s).int ++ tabX (e2 s).list c ++ shotsB c r
def mapsB : List U → List U
  | [] => []
  | b :: r => mapB (e0 b).str (e1 b).bool (e2 b).list ++ mapsB r
def metaB (c sz : Int) (bk : ByteArray) (T S M Q : List U) : List U :=
  num [] 1 c ++ num [] 2 sz ++ textB [] bk ++ tabX T c ++ num [] 1 S.length ++ shotsB c S ++ num [] 1 M.length ++ mapsB M ++ num [] 4 Q.length ++ countsB Q
def metaL (c sz : Int) (bk : ByteArray) (T S M Q : List U) : Bool := decide (((metaB c sz bk T S M Q).length : Int) > 1048576)
def metaX (c sz bk T S M Q : U) : List U := bif metaR c sz bk T S M Q then (bif metaL c.int sz.int bk.str T.list S.list M.list Q.list then [] else metaB c.int sz.int bk.str T.list S.list M.list Q.list) else []
def metaE (c sz bk T S M Q : U) : Int := bif metaR c sz bk T S M Q then (bif metaL c.int sz.int bk.str T.list S.list M.list Q.list then 2 else 0) else 1
def sizeOk (T S M : U) : Prop := T.list.length ≤ 1099511627776 ∧ (∀ s ∈ S.list, (e2 s).list.length ≤ 1099511627776) ∧ ∀ b ∈ M.list, (e2 b).list.length ≤ 1000000
def mputP : List (List U) → Prop := fun us => sizeOk (nth (.i 0) (nth [] us 0) 3) (nth (.i 0) (nth [] us 0) 4) (nth (.i 0) (nth [] us 0) 5)
def mputS : List (List U) → List (List U) := fun us => [[.l (metaX (nth (.i 0) (nth [] us 0) 0) (nth (.i 0) (nth [] us 0) 1) (nth (.i 0) (nth [] us 0) 2) (nth (.i 0) (nth [] us 0) 3) (nth (.i 0) (nth [] us 0) 4) (nth (.i 0) (nth [] us 0) 5) (nth (.i 0) (nth [] us 0) 6))],
  [.i (metaE (nth (.i 0) (nth [] us 0) 0) (nth (.i 0) (nth [] us 0) 1) (nth (.i 0) (nth [] us 0) 2) (nth (.i 0) (nth [] us 0) 3) (nth (.i 0) (nth [] us 0) 4) (nth (.i 0) (nth [] us 0) 5) (nth (.i 0) (nth [] us 0) 6))]]
abbrev mCells (c sz bk T S M Q : U) : List SV := [vi c, vi sz, vs bk, vl (.sl true EC) T, vt SC S, vt BC M, vl (.int .i64) Q]
abbrev mIs (p o p1 o1 q : Nat) (t : TypeId) : Prop := p = 1664 ∧ o = 0 ∧ p1 = 128 ∧ o1 = 0 ∧ q = 1666 ∧ t = u8T
noncomputable def mputLoop0 : LoopF := fun _ svs os k => match svs, os with
  | [.val (.int .i64) i, .val (.int .i64) n, .val (.sl true ec) L, .ptr p o, .ptr p1 o1], [.box [.own q], .arr t xs, .box [.val (.int .i64) c, .val (.int .i64) sz, .val .str bk, .val (.sl false [.sl true x1]) T, .val (.sl true x2) S, .val (.sl true x3) M, .val (.sl false [.int .i64]) Q]] =>
    (mIs p o p1 o1 q t ∧ (ec = SC ∧ x1 = EC ∧ x2 = SC ∧ x3 = BC) ∧ n.int = (L.list.length : Int) ∧ n.int ≤ 8 ∧ 0 ≤ i.int ∧ i.int ≤ n.int ∧ (∀ s ∈ L.list, (e2 s).list.length ≤ 1099511627776) ∧ (xs.length : Int) + 200000 * (n.int - i.int) ≤ 300000000) ∧
    k (.exit 0) ⟨[(4, .ptr 1664 0), (1, .ptr 128 0)], [(1664, .box [.own 1666]), (1666, .arr u8T (xs ++ shotsB c.int (L.list.drop i.int.toNat))), (128, .box (mCells c sz bk T S M Q))]⟩
  | _, _ => False
noncomputable def mputLoop2 : LoopF := fun _ svs os k => match svs, os with
  | [.val (.int .i64) i, .val (.int .i64) n, .val (.sl true ec) L, .ptr p o, .ptr p1 o1], [.box [.own q], .arr t xs, .box [.val (.int .i64) c, .val (.int .i64) sz, .val .str bk, .val (.sl false [.sl true x1]) T, .val (.sl true x2) S, .val (.sl true x3) M, .val (.sl false [.int .i64]) Q]] =>
    (mIs p o p1 o1 q t ∧ (ec = BC ∧ x1 = EC ∧ x2 = SC ∧ x3 = BC) ∧ n.int = (L.list.length : Int) ∧ n.int ≤ 8 ∧ 0 ≤ i.int ∧ i.int ≤ n.int ∧ (∀ b ∈ L.list, (e2 b).list.length ≤ 1000000) ∧ (xs.length : Int) + 9000000 * (n.int - i.int) ≤ 400000000) ∧
    k (.exit 2) ⟨[(4, .ptr 1664 0), (1, .ptr 128 0)], [(1664, .box [.own 1666]), (1666, .arr u8T (xs ++ mapsB (L.list.drop i.int.toNat))), (128, .box (mCells c sz bk T S M Q))]⟩
  | _, _ => False
noncomputable def mputC : Ctx := mkC PR eqs0 (fnsCons 21 metaS fnsNil)
  (trsCons 22 [false, false, false] wnumF (trsCons 23 [false, false] wtextF (trsCons 24 [false, false, false] wtableF (trsCons 25 [false, false] wmapF (trsCons 26 [false, false] wcountsF trsNil)))))
  (loopCons 2 [67, 66, 65, 4, 1] [1664, 1666, 128] mputLoop2 (loopCons 0 [40, 39, 38, 4, 1] [1664, 1666, 128] mputLoop0 noLoops)) (outCons 2 [4, 1] [1664, 1666, 128] (outCons 0 [4, 1] [1664, 1666, 128] noOut)) noOut
theorem mput_round0 (pan : KP) (μ : Mu) (N : Nat) (k : KE) (i n L c sz bk T S M Q : U) (xs : List U) : (exec (mputC.panics pan) (loopBody Try.f12 0) 0 ⟨[(40, vi i), (39, vi n), (38, vt SC L), (4, .ptr 1664 0), (1, .ptr 128 0)], [(1664, .box [.own 1666]), (1666, .arr u8T xs), (128, .box (mCells c sz bk T S M Q))]⟩ (again PR (some ([4, 1], [1664, 1666, 128])) none pan [40, 39, 38, 4, 1] [1664, 1666, 128] mputLoop0 μ N k)) = (bif decide (U.int i < U.int n) then bif decide ((0 : Int) ≤ U.int i ∧ U.int i < (↑(List.length (U.list L)) : Int)) then (wIs ((2097152 : Nat) + (1 : Nat)) (0 : Nat) ((2097152 : Nat) + (1 : Nat)) ((2097279 
  : Nat) + (1 : Nat)) ((2097279 : Nat) + (1 : Nat)) ((4 : Nat) + (1 : Nat)) ∧ List.length xs ≤ (800000000 : Nat)) ∧ (wIs ((2097152 : Nat) + (1 : Nat)) (0 : Nat) ((2097152 : Nat) + (1 : Nat)) ((2097279 : 
  Nat) + (1 : Nat)) ((2097279 : Nat) + (1 : Nat)) ((4 : Nat) + (1 : Nat)) ∧ (2 : Int) ≤ (8 : Int) ∧ List.length (xs ++ textB [] (U.str (nth (U.i (0 : Int)) (U.list (nth (U.i (0 : Int)) (U.list L) (Int.toNat 
  (U.int i)))) (0 : Nat)))) ≤ (800000000 : Nat)) ∧ (wIs ((2097152 : Nat) + (1 : Nat)) (0 : Nat) ((2097152 : Nat) + (1 : Nat)) ((2097279 : Nat) + (1 : Nat)) ((2097279 : Nat) + (1 : Nat)) ((4 : Nat) + (1 : 
  Nat)) ∧ [Ct.int IntKind.i64, Ct.int IntKind.i64, Ct.int IntKind.i64, Ct.int IntKind.i64, Ct.int IntKind.u32] = [Ct.int IntKind.i64, Ct.int IntKind.i64, Ct.int IntKind.i64, Ct.int IntKind.i64, Ct.int IntKind.u32] 
  ∧ List.length (U.list (nth (U.i (0 : Int)) (List.tail (List.tail (U.list (nth (U.i (0 : Int)) (U.list L) (Int.toNat (U.int i)))))) (0 : Nat))) ≤ (1099511627776 : Nat) ∧ List.length (xs ++ textB [] (U.str 
  (nth (U.i (0 : Int)) (U.list (nth (U.i (0 : Int)) (U.list L) (Int.toNat (U.int i)))) (0 : Nat))) ++ num [] (2 : Int) (U.int (nth (U.i (0 : Int)) (List.tail (U.list (nth (U.i (0 : Int)) (U.list L) (Int.toNat 
  (U.int i))))) (0 : Nat)))) ≤ (800000000 : Nat)) ∧ bif Nat.blt (μ [SV.val (Ct.int IntKind.i64) (U.i (IntKind.wrap IntKind.i64 (U.int i + (1 : Int)))), SV.val (Ct.int IntKind.i64) n, SV.val (Ct.sl true [Ct.str, 
  Ct.int IntKind.i64, Ct.sl false [Ct.sl true [Ct.int IntKind.i64, Ct.int IntKind.i64, Ct.int IntKind.i64, Ct.int IntKind.i64, Ct.int IntKind.u32]]]) L, SV.ptr (nat_lit 1664) (nat_lit 0), SV.ptr (nat_lit 
  128) (nat_lit 0)] [Obj.box [SV.own (nat_lit 1666)], Obj.arr (nat_lit 5) (xs ++ textB [] (U.str (nth (U.i (0 : Int)) (U.list (nth (U.i (0 : Int)) (U.list L) (Int.toNat (U.int i)))) (0 : Nat))) ++ num [] 
  (2 : Int) (U.int (nth (U.i (0 : Int)) (List.tail (U.list (nth (U.i (0 : Int)) (U.list L) (Int.toNat (U.int i))))) (0 : Nat))) ++ tabX (U.list (nth (U.i (0 : Int)) (List.tail (List.tail (U.list (nth (U.i 
  (0 : Int)) (U.list L) (Int.toNat (U.int i)))))) (0 : Nat))) (U.int c)), Obj.box [SV.val (Ct.int IntKind.i64) c, SV.val (Ct.int IntKind.i64) sz, SV.val Ct.str bk, SV.val (Ct.sl false [Ct.sl true [Ct.int 
  IntKind.i64, Ct.int IntKind.i64, Ct.int IntKind.i64, Ct.int IntKind.i64, Ct.int IntKind.u32]]) T, SV.val (Ct.sl true [Ct.str, Ct.int IntKind.i64, Ct.sl false [Ct.sl true [Ct.int IntKind.i64, Ct.int IntKind.i64, 
  Ct.int IntKind.i64, Ct.int IntKind.i64, Ct.int IntKind.u32]]]) S, SV.val (Ct.sl true [Ct.str, Ct.bool, Ct.sl true [Ct.int IntKind.i64, Ct.int IntKind.i64]]) M, SV.val (Ct.sl false [Ct.int IntKind.i64]) 
  Q]]) N then (mIs ((1663 : Nat) + (1 : Nat)) (0 : Nat) ((127 : Nat) + (1 : Nat)) (0 : Nat) ((1665 : Nat) + (1 : Nat)) ((4 : Nat) + (1 : Nat)) ∧ ([Ct.str, Ct.int IntKind.i64, Ct.sl false [Ct.sl true [Ct.int 
  IntKind.i64, Ct.int IntKind.i64, Ct.int IntKind.i64, Ct.int IntKind.i64, Ct.int IntKind.u32]]] = [Ct.str, Ct.int IntKind.i64, Ct.sl false [Ct.sl true [Ct.int IntKind.i64, Ct.int IntKind.i64, Ct.int IntKind.i64, 
  Ct.int IntKind.i64, Ct.int IntKind.u32]]] ∧ [Ct.int IntKind.i64, Ct.int IntKind.i64, Ct.int IntKind.i64, Ct.int IntKind.i64, Ct.int IntKind.u32] = [Ct.int IntKind.i64, Ct.int IntKind.i64, Ct.int IntKind.i64, 
  Ct.int IntKind.i64, Ct.int IntKind.u32] ∧ [Ct.str, Ct.int IntKind.i64, Ct.sl false [Ct.sl true [Ct.int IntKind.i64, Ct.int IntKind.i64, Ct.int IntKind.i64, Ct.int IntKind.i64, Ct.int IntKind.u32]]] = [Ct.str, 
  Ct.int IntKind.i64, Ct.sl false [Ct.sl true [Ct.int IntKind.i64, Ct.int IntKind.i64, Ct.int IntKind.i64, Ct.int IntKind.i64, Ct.int IntKind.u32]]] ∧ [Ct.str, Ct.bool, Ct.sl true [Ct.int IntKind.i64, Ct.int 
  IntKind.i64]] = [Ct.str, Ct.bool, Ct.sl true [Ct.int IntKind.i64, Ct.int IntKind.i64]]) ∧ U.int n = (↑(List.length (U.list L)) : Int) ∧ U.int n ≤ (8 : Int) ∧ (0 : Int) ≤ IntKind.wrap IntKind.i64 (U.int 
  i + (1 : Int)) ∧ IntKind.wrap IntKind.i64 (U.int i + (1 : Int)) ≤ U.int n ∧ (∀ (s : U), s ∈ U.list L → List.length (U.list (e2 s)) ≤ (1099511627776 : Nat)) ∧ (↑(List.length (xs ++ textB [] (U.str (nth 
  (U.i (0 : Int)) (U.list (nth (U.i (0 : Int)) (U.list L) (Int.toNat (U.int i)))) (0 : Nat))) ++ num [] (2 : Int) (U.int (nth (U.i (0 : Int)) (List.tail (U.list (nth (U.i (0 : Int)) (U.list L) (Int.toNat 
  (U.int i))))) (0 : Nat))) ++ tabX (U.list (nth (U.i (0 : Int)) (List.tail (List.tail (U.list (nth (U.i (0 : Int)) (U.list L) (Int.toNat (U.int i)))))) (0 : Nat))) (U.int c))) : Int) + (200000 : Int) * 
  (U.int n - IntKind.wrap IntKind.i64 (U.int i + (1 : Int))) ≤ (300000000 : Int)) ∧ k (Ex.exit (nat_lit 0)) (St.mk [(nat_lit 4, SV.ptr (nat_lit 1664) (nat_lit 0)), (nat_lit 1, SV.ptr (nat_lit 128) (nat_lit 
  0))] [(nat_lit 1664, Obj.box [SV.own (nat_lit 1666)]), (nat_lit 1666, Obj.arr (nat_lit 5) (xs ++ textB [] (U.str (nth (U.i (0 : Int)) (U.list (nth (U.i (0 : Int)) (U.list L) (Int.toNat (U.int i)))) (0 
  : Nat))) ++ num [] (2 : Int) (U.int (nth (U.i (0 : Int)) (List.tail (U.list (nth (U.i (0 : Int)) (U.list L) (Int.toNat (U.int i))))) (0 : Nat))) ++ tabX (U.list (nth (U.i (0 : Int)) (List.tail (List.tail 
  (U.list (nth (U.i (0 : Int)) (U.list L) (Int.toNat (U.int i)))))) (0 : Nat))) (U.int c) ++ shotsB (U.int c) (List.drop (Int.toNat (IntKind.wrap IntKind.i64 (U.int i + (1 : Int)))) (U.list L)))), (nat_lit 
  128, Obj.box [SV.val (Ct.int IntKind.i64) c, SV.val (Ct.int IntKind.i64) sz, SV.val Ct.str bk, SV.val (Ct.sl false [Ct.sl true [Ct.int IntKind.i64, Ct.int IntKind.i64, Ct.int IntKind.i64, Ct.int IntKind.i64, 
  Ct.int IntKind.u32]]) T, SV.val (Ct.sl true [Ct.str, Ct.int IntKind.i64, Ct.sl false [Ct.sl true [Ct.int IntKind.i64, Ct.int IntKind.i64, Ct.int IntKind.i64, Ct.int IntKind.i64, Ct.int IntKind.u32]]]) 
  S, SV.val (Ct.sl true [Ct.str, Ct.bool, Ct.sl true [Ct.int IntKind.i64, Ct.int IntKind.i64]]) M, SV.val (Ct.sl false [Ct.int IntKind.i64]) Q])]) else False else False else k (Ex.exit (nat_lit 0)) (St.mk 
  [(nat_lit 4, SV.ptr (nat_lit 1664) (nat_lit 0)), (nat_lit 1, SV.ptr (nat_lit 128) (nat_lit 0))] [(nat_lit 1664, Obj.box [SV.own (nat_lit 1666)]), (nat_lit 1666, Obj.arr (nat_lit 5) xs), (nat_lit 128, Obj.box 
  [SV.val (Ct.int IntKind.i64) c, SV.val (Ct.int IntKind.i64) sz, SV.val Ct.str bk, SV.val (Ct.sl false [Ct.sl true [Ct.int IntKind.i64, Ct.int IntKind.i64, Ct.int IntKind.i64, Ct.int IntKind.i64, Ct.int 
  IntKind.u32]]) T, SV.val (Ct.sl true [Ct.str, Ct.int IntKind.i64, Ct.sl false [Ct.sl true [Ct.int IntKind.i64, Ct.int IntKind.i64, Ct.int IntKind.i64, Ct.int IntKind.i64, Ct.int IntKind.u32]]]) S, SV.val 
  (Ct.sl true [Ct.str, Ct.bool, Ct.sl true [Ct.int IntKind.i64, Ct.int IntKind.i64]]) M, SV.val (Ct.sl false [Ct.int IntKind.i64]) Q])])) := by kernel_rfl
theorem mput_round2 (pan : KP) (μ : Mu) (N : Nat) (k : KE) (i n L c sz bk T S M Q : U) (xs : List U) : (exec (mputC.panics pan) (loopBody Try.f12 1) 2 ⟨[(67, vi i), (66, vi n), (65, vt BC L), (4, .ptr 1664 0), (1, .ptr 128 0)], [(1664, .box [.own 1666]), (1666, .arr u8T xs), (128, .box (mCells c sz bk T S M Q))]⟩ (again PR (some ([4, 1], [1664, 1666, 128])) none pan [67, 66, 65, 4, 1] [1664, 1666, 128] mputLoop2 μ N k)) = (bif decide (U.int i < U.int n) then bif decide ((0 : Int) ≤ U.int i ∧ U.int i < (↑(List.length (U.list L)) : Int)) then (wIs ((2097152 : Nat) + (1 : Nat)) (0 : Nat) ((2097152 : Nat) + (1 : Nat)) ((2097279 
  : Nat) + (1 : Nat)) ((2097279 : Nat) + (1 : Nat)) ((4 : Nat) + (1 : Nat)) ∧ [Ct.int IntKind.i64, Ct.int IntKind.i64] = [Ct.int IntKind.i64, Ct.int IntKind.i64] ∧ (↑(List.length xs) : Int) + (8 : Int) * 
  (↑(List.length (U.list (nth (U.i (0 : Int)) (List.tail (List.tail (U.list (nth (U.i (0 : Int)) (U.list L) (Int.toNat (U.int i)))))) (0 : Nat)))) : Int) ≤ (700000000 : Int)) ∧ bif Nat.blt (μ [SV.val (Ct.int 
  IntKind.i64) (U.i (IntKind.wrap IntKind.i64 (U.int i + (1 : Int)))), SV.val (Ct.int IntKind.i64) n, SV.val (Ct.sl true [Ct.str, Ct.bool, Ct.sl true [Ct.int IntKind.i64, Ct.int IntKind.i64]]) L, SV.ptr 
  (nat_lit 1664) (nat_lit 0), SV.ptr (nat_lit 128) (nat_lit 0)] [Obj.box [SV.own (nat_lit 1666)], Obj.arr (nat_lit 5) (xs ++ mapB (U.str (nth (U.i (0 : Int)) (U.list (nth (U.i (0 : Int)) (U.list L) (Int.toNat 
  (U.int i)))) (0 : Nat))) (U.bool (nth (U.i (0 : Int)) (List.tail (U.list (nth (U.i (0 : Int)) (U.list L) (Int.toNat (U.int i))))) (0 : Nat))) (U.list (nth (U.i (0 : Int)) (List.tail (List.tail (U.list 
  (nth (U.i (0 : Int)) (U.list L) (Int.toNat (U.int i)))))) (0 : Nat)))), Obj.box [SV.val (Ct.int IntKind.i64) c, SV.val (Ct.int IntKind.i64) sz, SV.val Ct.str bk, SV.val (Ct.sl false [Ct.sl true [Ct.int 
  IntKind.i64, Ct.int IntKind.i64, Ct.int IntKind.i64, Ct.int IntKind.i64, Ct.int IntKind.u32]]) T, SV.val (Ct.sl true [Ct.str, Ct.int IntKind.i64, Ct.sl false [Ct.sl true [Ct.int IntKind.i64, Ct.int IntKind.i64, 
  Ct.int IntKind.i64, Ct.int IntKind.i64, Ct.int IntKind.u32]]]) S, SV.val (Ct.sl true [Ct.str, Ct.bool, Ct.sl true [Ct.int IntKind.i64, Ct.int IntKind.i64]]) M, SV.val (Ct.sl false [Ct.int IntKind.i64]) 
  Q]]) N then (mIs ((1663 : Nat) + (1 : Nat)) (0 : Nat) ((127 : Nat) + (1 : Nat)) (0 : Nat) ((1665 : Nat) + (1 : Nat)) ((4 : Nat) + (1 : Nat)) ∧ ([Ct.str, Ct.bool, Ct.sl true [Ct.int IntKind.i64, Ct.int 
  IntKind.i64]] = [Ct.str, Ct.bool, Ct.sl true [Ct.int IntKind.i64, Ct.int IntKind.i64]] ∧ [Ct.int IntKind.i64, Ct.int IntKind.i64, Ct.int IntKind.i64, Ct.int IntKind.i64, Ct.int IntKind.u32] = [Ct.int IntKind.i64, 
  Ct.int IntKind.i64, Ct.int IntKind.i64, Ct.int IntKind.i64, Ct.int IntKind.u32] ∧ [Ct.str, Ct.int IntKind.i64, Ct.sl false [Ct.sl true [Ct.int IntKind.i64, Ct.int IntKind.i64, Ct.int IntKind.i64, Ct.int 
  IntKind.i64, Ct.int IntKind.u32]]] = [Ct.str, Ct.int IntKind.i64, Ct.sl false [Ct.sl true [Ct.int IntKind.i64, Ct.int IntKind.i64, Ct.int IntKind.i64, Ct.int IntKind.i64, Ct.int IntKind.u32]]] ∧ [Ct.str, 
  Ct.bool, Ct.sl true [Ct.int IntKind.i64, Ct.int IntKind.i64]] = [Ct.str, Ct.bool, Ct.sl true [Ct.int IntKind.i64, Ct.int IntKind.i64]]) ∧ U.int n = (↑(List.length (U.list L)) : Int) ∧ U.int n ≤ (8 : Int) 
  ∧ (0 : Int) ≤ IntKind.wrap IntKind.i64 (U.int i + (1 : Int)) ∧ IntKind.wrap IntKind.i64 (U.int i + (1 : Int)) ≤ U.int n ∧ (∀ (b : U), b ∈ U.list L → List.length (U.list (e2 b)) ≤ (1000000 : Nat)) ∧ (↑(List.length 
  (xs ++ mapB (U.str (nth (U.i (0 : Int)) (U.list (nth (U.i (0 : Int)) (U.list L) (Int.toNat (U.int i)))) (0 : Nat))) (U.bool (nth (U.i (0 : Int)) (List.tail (U.list (nth (U.i (0 : Int)) (U.list L) (Int.toNat 
  (U.int i))))) (0 : Nat))) (U.list (nth (U.i (0 : Int)) (List.tail (List.tail (U.list (nth (U.i (0 : Int)) (U.list L) (Int.toNat (U.int i)))))) (0 : Nat))))) : Int) + (9000000 : Int) * (U.int n - IntKind.wrap 
  IntKind.i64 (U.int i + (1 : Int))) ≤ (400000000 : Int)) ∧ k (Ex.exit (nat_lit 2)) (St.mk [(nat_lit 4, SV.ptr (nat_lit 1664) (nat_lit 0)), (nat_lit 1, SV.ptr (nat_lit 128) (nat_lit 0))] [(nat_lit 1664, 
  Obj.box [SV.own (nat_lit 1666)]), (nat_lit 1666, Obj.arr (nat_lit 5) (xs ++ mapB (U.str (nth (U.i (0 : Int)) (U.list (nth (U.i (0 : Int)) (U.list L) (Int.toNat (U.int i)))) (0 : Nat))) (U.bool (nth (U.i 
  (0 : Int)) (List.tail (U.list (nth (U.i (0 : Int)) (U.list L) (Int.toNat (U.int i))))) (0 : Nat))) (U.list (nth (U.i (0 : Int)) (List.tail (List.tail (U.list (nth (U.i (0 : Int)) (U.list L) (Int.toNat 
  (U.int i)))))) (0 : Nat))) ++ mapsB (List.drop (Int.toNat (IntKind.wrap IntKind.i64 (U.int i + (1 : Int)))) (U.list L)))), (nat_lit 128, Obj.box [SV.val (Ct.int IntKind.i64) c, SV.val (Ct.int IntKind.i64) 
  sz, SV.val Ct.str bk, SV.val (Ct.sl false [Ct.sl true [Ct.int IntKind.i64, Ct.int IntKind.i64, Ct.int IntKind.i64, Ct.int IntKind.i64, Ct.int IntKind.u32]]) T, SV.val (Ct.sl true [Ct.str, Ct.int IntKind.i64, 
  Ct.sl false [Ct.sl true [Ct.int IntKind.i64, Ct.int IntKind.i64, Ct.int IntKind.i64, Ct.int IntKind.i64, Ct.int IntKind.u32]]]) S, SV.val (Ct.sl true [Ct.str, Ct.bool, Ct.sl true [Ct.int IntKind.i64, Ct.int 
  IntKind.i64]]) M, SV.val (Ct.sl false [Ct.int IntKind.i64]) Q])]) else False else False else k (Ex.exit (nat_lit 2)) (St.mk [(nat_lit 4, SV.ptr (nat_lit 1664) (nat_lit 0)), (nat_lit 1, SV.ptr (nat_lit 
  128) (nat_lit 0))] [(nat_lit 1664, Obj.box [SV.own (nat_lit 1666)]), (nat_lit 1666, Obj.arr (nat_lit 5) xs), (nat_lit 128, Obj.box [SV.val (Ct.int IntKind.i64) c, SV.val (Ct.int IntKind.i64) sz, SV.val 
  Ct.str bk, SV.val (Ct.sl false [Ct.sl true [Ct.int IntKind.i64, Ct.int IntKind.i64, Ct.int IntKind.i64, Ct.int IntKind.i64, Ct.int IntKind.u32]]) T, SV.val (Ct.sl true [Ct.str, Ct.int IntKind.i64, Ct.sl 
  false [Ct.sl true [Ct.int IntKind.i64, Ct.int IntKind.i64, Ct.int IntKind.i64, Ct.int IntKind.i64, Ct.int IntKind.u32]]]) S, SV.val (Ct.sl true [Ct.str, Ct.bool, Ct.sl true [Ct.int IntKind.i64, Ct.int 
  IntKind.i64]]) M, SV.val (Ct.sl false [Ct.int IntKind.i64]) Q])])) := by kernel_rfl
theorem mput_tree (R : RF) (c sz bk T S M Q : U) : (run mputC Try.f12 [[c, sz, bk, T, S, M, Q]] R) = (bif !metaR c sz bk T S M Q then R [[U.l []], [U.i (1 : Int)]] else (wIs ((2097152 : Nat) + (1 : Nat)) (0 : Nat) ((2097152 : Nat) + (1 : Nat)) ((2097279 : Nat) + (1 : Nat)) ((2097279 : Nat) + (1 : Nat)) 
  ((4 : Nat) + (1 : Nat)) ∧ (1 : Int) ≤ (8 : Int) ∧ (0 : Nat) ≤ (800000000 : Nat)) ∧ (wIs ((2097152 : Nat) + (1 : Nat)) (0 : Nat) ((2097152 : Nat) + (1 : Nat)) ((2097279 : Nat) + (1 : Nat)) ((2097279 : Nat) 
  + (1 : Nat)) ((4 : Nat) + (1 : Nat)) ∧ (2 : Int) ≤ (8 : Int) ∧ List.length ([] ++ num [] (1 : Int) (U.int c)) ≤ (800000000 : Nat)) ∧ (wIs ((2097152 : Nat) + (1 : Nat)) (0 : Nat) ((2097152 : Nat) + (1 : 
  Nat)) ((2097279 : Nat) + (1 : Nat)) ((2097279 : Nat) + (1 : Nat)) ((4 : Nat) + (1 : Nat)) ∧ List.length ([] ++ num [] (1 : Int) (U.int c) ++ num [] (2 : Int) (U.int sz)) ≤ (800000000 : Nat)) ∧ (wIs ((2097152 
  : Nat) + (1 : Nat)) (0 : Nat) ((2097152 : Nat) + (1 : Nat)) ((2097279 : Nat) + (1 : Nat)) ((2097279 : Nat) + (1 : Nat)) ((4 : Nat) + (1 : Nat)) ∧ [Ct.int IntKind.i64, Ct.int IntKind.i64, Ct.int IntKind.i64, 
  Ct.int IntKind.i64, Ct.int IntKind.u32] = [Ct.int IntKind.i64, Ct.int IntKind.i64, Ct.int IntKind.i64, Ct.int IntKind.i64, Ct.int IntKind.u32] ∧ List.length (U.list T) ≤ (1099511627776 : Nat) ∧ List.length 
  ([] ++ num [] (1 : Int) (U.int c) ++ num [] (2 : Int) (U.int sz) ++ textB [] (U.str bk)) ≤ (800000000 : Nat)) ∧ (wIs ((2097152 : Nat) + (1 : Nat)) (0 : Nat) ((2097152 : Nat) + (1 : Nat)) ((2097279 : Nat) 
  + (1 : Nat)) ((2097279 : Nat) + (1 : Nat)) ((4 : Nat) + (1 : Nat)) ∧ (1 : Int) ≤ (8 : Int) ∧ List.length ([] ++ num [] (1 : Int) (U.int c) ++ num [] (2 : Int) (U.int sz) ++ textB [] (U.str bk) ++ tabX 
  (U.list T) (U.int c)) ≤ (800000000 : Nat)) ∧ (mIs ((1663 : Nat) + (1 : Nat)) (0 : Nat) ((127 : Nat) + (1 : Nat)) (0 : Nat) ((1665 : Nat) + (1 : Nat)) ((4 : Nat) + (1 : Nat)) ∧ ([Ct.str, Ct.int IntKind.i64, 
  Ct.sl false [Ct.sl true [Ct.int IntKind.i64, Ct.int IntKind.i64, Ct.int IntKind.i64, Ct.int IntKind.i64, Ct.int IntKind.u32]]] = [Ct.str, Ct.int IntKind.i64, Ct.sl false [Ct.sl true [Ct.int IntKind.i64, 
  Ct.int IntKind.i64, Ct.int IntKind.i64, Ct.int IntKind.i64, Ct.int IntKind.u32]]] ∧ [Ct.int IntKind.i64, Ct.int IntKind.i64, Ct.int IntKind.i64, Ct.int IntKind.i64, Ct.int IntKind.u32] = [Ct.int IntKind.i64, 
  Ct.int IntKind.i64, Ct.int IntKind.i64, Ct.int IntKind.i64, Ct.int IntKind.u32] ∧ [Ct.str, Ct.int IntKind.i64, Ct.sl false [Ct.sl true [Ct.int IntKind.i64, Ct.int IntKind.i64, Ct.int IntKind.i64, Ct.int 
  IntKind.i64, Ct.int IntKind.u32]]] = [Ct.str, Ct.int IntKind.i64, Ct.sl false [Ct.sl true [Ct.int IntKind.i64, Ct.int IntKind.i64, Ct.int IntKind.i64, Ct.int IntKind.i64, Ct.int IntKind.u32]]] ∧ [Ct.str, 
  Ct.bool, Ct.sl true [Ct.int IntKind.i64, Ct.int IntKind.i64]] = [Ct.str, Ct.bool, Ct.sl true [Ct.int IntKind.i64, Ct.int IntKind.i64]]) ∧ (↑(List.length (U.list S)) : Int) = (↑(List.length (U.list S)) 
  : Int) ∧ (↑(List.length (U.list S)) : Int) ≤ (8 : Int) ∧ (0 : Int) ≤ (0 : Int) ∧ (0 : Int) ≤ (↑(List.length (U.list S)) : Int) ∧ (∀ (s : U), s ∈ U.list S → List.length (U.list (e2 s)) ≤ (1099511627776 
  : Nat)) ∧ (↑(List.length ([] ++ num [] (1 : Int) (U.int c) ++ num [] (2 : Int) (U.int sz) ++ textB [] (U.str bk) ++ tabX (U.list T) (U.int c) ++ num [] (1 : Int) (↑(List.length (U.list S)) : Int))) : Int) 
  + (200000 : Int) * ((↑(List.length (U.list S)) : Int) - (0 : Int)) ≤ (300000000 : Int)) ∧ (wIs ((2097152 : Nat) + (1 : Nat)) (0 : Nat) ((2097152 : Nat) + (1 : Nat)) ((2097279 : Nat) + (1 : Nat)) ((2097279 
  : Nat) + (1 : Nat)) ((4 : Nat) + (1 : Nat)) ∧ (1 : Int) ≤ (8 : Int) ∧ List.length ([] ++ num [] (1 : Int) (U.int c) ++ num [] (2 : Int) (U.int sz) ++ textB [] (U.str bk) ++ tabX (U.list T) (U.int c) ++ 
  num [] (1 : Int) (↑(List.length (U.list S)) : Int) ++ shotsB (U.int c) (List.drop (Int.toNat (0 : Int)) (U.list S))) ≤ (800000000 : Nat)) ∧ (mIs ((1663 : Nat) + (1 : Nat)) (0 : Nat) ((127 : Nat) + (1 : 
  Nat)) (0 : Nat) ((1665 : Nat) + (1 : Nat)) ((4 : Nat) + (1 : Nat)) ∧ ([Ct.str, Ct.bool, Ct.sl true [Ct.int IntKind.i64, Ct.int IntKind.i64]] = [Ct.str, Ct.bool, Ct.sl true [Ct.int IntKind.i64, Ct.int IntKind.i64]] 
  ∧ [Ct.int IntKind.i64, Ct.int IntKind.i64, Ct.int IntKind.i64, Ct.int IntKind.i64, Ct.int IntKind.u32] = [Ct.int IntKind.i64, Ct.int IntKind.i64, Ct.int IntKind.i64, Ct.int IntKind.i64, Ct.int IntKind.u32] 
  ∧ [Ct.str, Ct.int IntKind.i64, Ct.sl false [Ct.sl true [Ct.int IntKind.i64, Ct.int IntKind.i64, Ct.int IntKind.i64, Ct.int IntKind.i64, Ct.int IntKind.u32]]] = [Ct.str, Ct.int IntKind.i64, Ct.sl false 
  [Ct.sl true [Ct.int IntKind.i64, Ct.int IntKind.i64, Ct.int IntKind.i64, Ct.int IntKind.i64, Ct.int IntKind.u32]]] ∧ [Ct.str, Ct.bool, Ct.sl true [Ct.int IntKind.i64, Ct.int IntKind.i64]] = [Ct.str, Ct.bool, 
  Ct.sl true [Ct.int IntKind.i64, Ct.int IntKind.i64]]) ∧ (↑(List.length (U.list M)) : Int) = (↑(List.length (U.list M)) : Int) ∧ (↑(List.length (U.list M)) : Int) ≤ (8 : Int) ∧ (0 : Int) ≤ (0 : Int) ∧ (0 
  : Int) ≤ (↑(List.length (U.list M)) : Int) ∧ (∀ (b : U), b ∈ U.list M → List.length (U.list (e2 b)) ≤ (1000000 : Nat)) ∧ (↑(List.length ([] ++ num [] (1 : Int) (U.int c) ++ num [] (2 : Int) (U.int sz) 
  ++ textB [] (U.str bk) ++ tabX (U.list T) (U.int c) ++ num [] (1 : Int) (↑(List.length (U.list S)) : Int) ++ shotsB (U.int c) (List.drop (Int.toNat (0 : Int)) (U.list S)) ++ num [] (1 : Int) (↑(List.length 
  (U.list M)) : Int))) : Int) + (9000000 : Int) * ((↑(List.length (U.list M)) : Int) - (0 : Int)) ≤ (400000000 : Int)) ∧ (wIs ((2097152 : Nat) + (1 : Nat)) (0 : Nat) ((2097152 : Nat) + (1 : Nat)) ((2097279 
  : Nat) + (1 : Nat)) ((2097279 : Nat) + (1 : Nat)) ((4 : Nat) + (1 : Nat)) ∧ (↑(List.length ([] ++ num [] (1 : Int) (U.int c) ++ num [] (2 : Int) (U.int sz) ++ textB [] (U.str bk) ++ tabX (U.list T) (U.int 
  c) ++ num [] (1 : Int) (↑(List.length (U.list S)) : Int) ++ shotsB (U.int c) (List.drop (Int.toNat (0 : Int)) (U.list S)) ++ num [] (1 : Int) (↑(List.length (U.list M)) : Int) ++ mapsB (List.drop (Int.toNat 
  (0 : Int)) (U.list M)))) : Int) + (8 : Int) * (↑(List.length (U.list Q)) : Int) ≤ (700000000 : Int)) ∧ bif decide ((↑(List.length ([] ++ num [] (1 : Int) (U.int c) ++ num [] (2 : Int) (U.int sz) ++ textB 
  [] (U.str bk) ++ tabX (U.list T) (U.int c) ++ num [] (1 : Int) (↑(List.length (U.list S)) : Int) ++ shotsB (U.int c) (List.drop (Int.toNat (0 : Int)) (U.list S)) ++ num [] (1 : Int) (↑(List.length (U.list 
  M)) : Int) ++ mapsB (List.drop (Int.toNat (0 : Int)) (U.list M)) ++ (num [] (4 : Int) (↑(List.length (U.list Q)) : Int) ++ countsB (U.list Q)))) : Int) > (1048576 : Int)) then R [[U.l []], [U.i (2 : Int)]] 
  else R [[U.l ([] ++ num [] (1 : Int) (U.int c) ++ num [] (2 : Int) (U.int sz) ++ textB [] (U.str bk) ++ tabX (U.list T) (U.int c) ++ num [] (1 : Int) (↑(List.length (U.list S)) : Int) ++ shotsB (U.int 
  c) (List.drop (Int.toNat (0 : Int)) (U.list S)) ++ num [] (1 : Int) (↑(List.length (U.list M)) : Int) ++ mapsB (List.drop (Int.toNat (0 : Int)) (U.list M)) ++ (num [] (4 : Int) (↑(List.length (U.list Q)) 
  : Int) ++ countsB (U.list Q)))], [U.i (0 : Int)]]) := by kernel_rfl
end Go.Mat

/-
  WALKS 15: metas as bytes: meta.Put. Conditions: none.
-/
namespace Go.Mat
open Go Go.Den Go.Proofs

theorem shotsB_len (c : Int) : ∀ L : List U, (∀ s ∈ L, (e2 s).list.length ≤ 1099511627776) → (shotsB c L).length ≤ 140000 * L.length
  | [], _ => by simp [shotsB]
  | s :: r, h => by
    have h1 := shotsB_len c r fun s hs => h s (List.mem_cons_of_mem _ hs)
    have h2 := textB_len (e0 s).str
    have h3 := num2 (e1 s).int
    have h4 := tabX_len c (h s (List.mem_cons_self ..))
    rw [shotsB]
    simp only [List.length_append, List.length_cons]
    omega
theorem mapB_len (nm : ByteArray) (on : Bool) (L : List U) : (mapB nm on L).length ≤ 65540 + 4 * L.length := by
  have h2 := textB_len nm
  have h3 := num1 (onB on)
  have h4 := num2 L.length
  have h5 := spansB_len L
  rw [mapB]
  simp only [List.length_append]
  omega
theorem mapsB_len : ∀ L : List U, (∀ b ∈ L, (e2 b).list.length ≤ 1000000) → (mapsB L).length ≤ 5000000 * L.length
  | [], _ => by simp [mapsB]
  | b :: r, h => by
    have h1 := mapsB_len r fun s hs => h s (List.mem_cons_of_mem _ hs)
    have h2 := mapB_len (e0 b).str (e1 b).bool (e2 b).list
    have h3 := h b (List.mem_cons_self ..)
    rw [mapsB]
    simp only [List.length_append, List.length_cons]
    omega
theorem mem_at {L : List U} {i : Nat} (h : i < L.length) : U.at L i ∈ L := by
  have hd : L.drop i = U.at L i :: _ := drop_at h
  exact List.mem_of_mem_drop (by rw [hd]; exact List.mem_cons_self ..)
theorem mis : mIs 1664 0 128 0 1666 u8T := ⟨rfl, rfl, rfl, rfl, rfl, rfl⟩
theorem mput_loop0 : LoopOk mputC 0 (loopBody Try.f12 0) := by
  refine loopOk_of (F := mputLoop0) (ts := [40, 39, 38, 4, 1]) (os := [1664, 1666, 128]) rfl (fun svs _ => match svs with | .val _ i :: .val _ m :: _ => (m.int - i.int).toNat | _ => 0) ?_
  intro pan svs os k ho1 ho2 h
  unfold mputLoop0 at h
  split at h
  · rename_i i n ec L p o p1 o1 q t xs c sz bk x1 T x2 S x3 M Q
    obtain ⟨⟨⟨rfl, rfl, rfl, rfl, rfl, rfl⟩, ⟨rfl, rfl, rfl, rfl⟩, hn, hn8, h0, hi, hT, hx⟩, hk⟩ := h
    refine .eq (mput_round0 pan _ _ k i n L c sz bk T S M Q xs) ?_
    refine bd (fun hlt => dt ⟨h0, by omega⟩ ?_) (fun hlt => ?_)
    · have hT' := hT _ (mem_at (L := L.list) (i := i.int.toNat) (by omega))
      rw [drop_at (by omega), shotsB] at hk
      simp only [U.at, e0, e1, e2, ← List.append_assoc] at hk hT'
      have h1 := textB_len (nth (.i 0) (nth (.i 0) L.list i.int.toNat).list 0).str
      have h2 := num2 (nth (.i 0) (nth (.i 0) L.list i.int.toNat).list 1).int
      have h3 := tabX_len c.int hT'
      have hw : IntKind.wrap .i64 (i.int + 1) = i.int + 1 := i64_in (by omega) (by omega)
      have hc : (i.int + 1).toNat = i.int.toNat + 1 := by omega
      have hlt' : (n.int - (i.int + 1)).toNat < (n.int - i.int).toNat := by omega
      simp only [nth_tail, Nat.zero_add, Nat.reduceAdd, hw, hc]
      exact ⟨⟨wis, by omega⟩, ⟨wis, by omega, by rw [List.length_append]; omega⟩, ⟨wis, by trivial, hT', by rw [List.length_append, List.length_append]; omega⟩, blt hlt' ⟨⟨mis, ⟨by trivial, by trivial, by trivial, by trivial⟩, hn, hn8, by omega, by omega, hT, by simp only [List.length_append]; omega⟩, hk⟩⟩
    · rw [List.drop_of_length_le (by omega), shotsB, List.append_nil] at hk
      exact hk
  · exact h.elim
theorem mput_loop2 : LoopOk mputC 2 (loopBody Try.f12 1) := by
  refine loopOk_of (F := mputLoop2) (ts := [67, 66, 65, 4, 1]) (os := [1664, 1666, 128]) rfl (fun svs _ => match svs with | .val _ i :: .val _ m :: _ => (m.int - i.int).toNat | _ => 0) ?_
  intro pan svs os k ho1 ho2 h
  unfold mputLoop2 at h
  split at h
  · rename_i i n ec L p o p1 o1 q t xs c sz bk x1 T x2 S x3 M Q
    obtain ⟨⟨⟨rfl, rfl, rfl, rfl, rfl, rfl⟩, ⟨rfl, rfl, rfl, rfl⟩, hn, hn8, h0, hi, hT, hx⟩, hk⟩ := h
    refine .eq (mput_round2 pan _ _ k i n L c sz bk T S M Q xs) ?_
    refine bd (fun hlt => dt ⟨h0, by omega⟩ ?_) (fun hlt => ?_)
    · have hT' := hT _ (mem_at (L := L.list) (i := i.int.toNat) (by omega))
      rw [drop_at (by omega), mapsB] at hk
      simp only [U.at, e0, e1, e2, ← List.append_assoc] at hk hT'
      have h1 := mapB_len (nth (.i 0) (nth (.i 0) L.list i.int.toNat).list 0).str (nth (.i 0) (nth (.i 0) L.list i.int.toNat).list 1).bool (nth (.i 0) (nth (.i 0) L.list i.int.toNat).list 2).list
      have hw : IntKind.wrap .i64 (i.int + 1) = i.int + 1 := i64_in (by omega) (by omega)
      have hc : (i.int + 1).toNat = i.int.toNat + 1 := by omega
      have hlt' : (n.int - (i.int + 1)).toNat < (n.int - i.int).toNat := by omega
      simp only [nth_tail, Nat.zero_add, Nat.reduceAdd, hw, hc]
      exact ⟨⟨wis, by trivial, by omega⟩, blt hlt' ⟨⟨mis, ⟨by trivial, by trivial, by trivial, by trivial⟩, hn, hn8, by omega, by omega, hT, by simp only [List.length_append]; omega⟩, hk⟩⟩
    · rw [List.drop_of_length_le (by omega), mapsB, List.append_nil] at hk
      exact hk
  · exact h.elim
theorem mput_ok : SpecFP PR 12 mputP mputS := fun fn us hfn hpre => by
  have hf : PR.funcs[(12 : Nat)]? = some Try.f12 := by kernel_rfl
  rw [hf] at hfn; cases hfn
  refine fn_okH (C := mputC) (mkC_ok eqs0_ok mixed_ok (.cons meta_ok .nil) (.cons wnum_ok (.cons wtext_ok (.cons wtable_ok (.cons wmap_ok (.cons wcounts_ok .nil)))))) hf (by kernel_rfl) (loops_two (by kernel_rfl) mput_loop0 mput_loop2) fun hok => ?_
  have hp : Try.f12.params.toList = [29] := by kernel_rfl
  rw [hp] at hok
  obtain ⟨c, sz, bk, T, S, M, Q, hus⟩ : ∃ c sz bk T S M Q, us = [[c, sz, bk, T, S, M, Q]] := by
    obtain ⟨u, rfl, h1⟩ := shape1 (by kernel_rfl : Cs PR 29 = some (true, [.int .i64, .int .i64, .str, .sl false [.sl true EC], .sl true SC, .sl true BC, .sl false [.int .i64]])) hok.1
    obtain ⟨c, sz, bk, T, S, M, Q, rfl⟩ := len7 h1
    exact ⟨c, sz, bk, T, S, M, Q, rfl⟩
  subst hus
  refine .eq (mput_tree _ c sz bk T S M Q) ?_
  unfold mputP sizeOk at hpre
  simp only [nth_zero, nth_succ] at hpre
  obtain ⟨hT, hS, hM⟩ := hpre
  unfold mputS metaX metaE
  simp only [nth_zero, nth_succ]
  refine bi (fun h => by rw [nt h]; rfl) (fun h => ?_)
  have hr := nf h
  rw [hr]
  obtain ⟨_, _, _, _, _, hS8, hM8, hQ, _⟩ := (metaR_iff ..).1 hr
  have l1 := num1 c.int
  have l2 := num2 sz.int
  have l3 := textB_len bk.str
  have l4 := tabX_len c.int hT
  have l5 := num1 S.list.length
  have l6 := shotsB_len c.int S.list hS
  have l7 := num1 M.list.length
  have l8 := mapsB_len M.list hM
  have hB : [] ++ num [] 1 c.int ++ num [] 2 sz.int ++ textB [] bk.str ++ tabX T.list c.int ++ num [] 1 S.list.length ++ shotsB c.int S.list ++ num [] 1 M.list.length ++ mapsB M.list ++ (num [] 4 Q.list.length ++ countsB Q.list) = metaB c.int sz.int bk.str T.list S.list M.list Q.list := by
    simp [metaB]
  simp only [List.drop_zero, Int.toNat_zero, hB]
  refine ⟨⟨wis, by omega, by omega⟩, ⟨wis, by omega, ?_⟩, ⟨wis, ?_⟩, ⟨wis, by trivial, hT, ?_⟩, ⟨wis, by omega, ?_⟩, ⟨mis, ⟨by trivial, by trivial, by trivial, by trivial⟩, by trivial, by omega, by trivial, by omega, hS, ?_⟩, ⟨wis, by omega, ?_⟩, ⟨mis, ⟨by trivial, by trivial, by trivial, by trivial⟩, by trivial, by omega, by trivial, by omega, hM, ?_⟩, ⟨wis, ?_⟩, ?_⟩
  all_goals try (simp only [List.length_append, List.length_nil]; omega)
  refine bi (fun h => ?_) (fun h => ?_)
  · rw [show metaL c.int sz.int bk.str T.list S.list M.list Q.list = true from h]; rfl
  · rw [show metaL c.int sz.int bk.str T.list S.list M.list Q.list = false from h]; rfl
end Go.Mat

/-
  TREES 16: the document's metas as bytes. Conditions: none.
-/
namespace Go.Mat
open Go Go.Den Go.Proofs
def shotOk (s : U) : Prop := (e0 s).str.size ≤ 65535 ∧ 0 ≤ (e1 s).int ∧ (e1 s).int ≤ 65535 ∧ (e2 s).list.length ≤ 1099511627776
def spanOk (s : U) : Prop := 0 ≤ (e0 s).int ∧ (e0 s).int ≤ 65535 ∧ 0 ≤ (e1 s).int ∧ (e1 s).int ≤ 65535
def bmapOk (b : U) : Prop := (e0 b).str.size ≤ 65535 ∧ (e2 b).list.length ≤ 65535 ∧ ∀ s ∈ (e2 b).list, spanOk s
def cntOk (n : U) : Prop := 0 ≤ n.int ∧ n.int ≤ 65535
noncomputable def rmputLoop0 : LoopF := fun _ svs os k => match svs, os with
  | [.val (.int .i64) i, .val (.sl false [.int .u8]) b, .ptr p o], [.box [.val (.int .i64) c, .val (.int .i64) sz, .val .str bk, .val (.sl false [.sl true x1]) T, .val (.sl true x2) S, .val (.sl true x3) M, .val (.sl false [.int .i64]) Q]] =>
    ((p = 128 ∧ o = 0) ∧ (x1 = EC ∧ x2 = SC ∧ x3 = BC) ∧ b = .l b.list ∧ S.list.length ≤ 8 ∧ 0 ≤ i.int ∧ i.int ≤ S.list.length ∧ (∀ s ∈ S.list, shotOk s) ∧ (b.list.length : Int) + 200000 * (S.list.length - i.int) ≤ 300000000) ∧
    k (.exit 0) ⟨[(4, vl (.int .u8) (.l (b.list ++ shotsB c.int (S.list.drop i.int.toNat)))), (1, .ptr 128 0)], [(128, .box (mCells c sz bk T S M Q))]⟩
  | _, _ => False
noncomputable def rmputLoop2 : LoopF := fun _ svs os k => match svs, os with
  | [.val (.int .i64) i, .val (.sl false [.int .u8]) b, .ptr p o], [.box [.val (.int .i64) c, .val (.int .i64) sz, .val .str bk, .val (.sl false [.sl true x1]) T, .val (.sl true x2) S, .val (.sl true x3) M, .val (.sl false [.int .i64]) Q]] =>
    ((p = 128 ∧ o = 0) ∧ (x1 = EC ∧ x2 = SC ∧ x3 = BC) ∧ b = .l b.list ∧ M.list.length ≤ 8 ∧ 0 ≤ i.int ∧ i.int ≤ M.list.length ∧ (∀ x ∈ M.list, bmapOk x) ∧ (b.list.length : Int) + 9000000 * (M.list.length - i.int) ≤ 400000000) ∧
    k (.exit 2) ⟨[(4, vl (.int .u8) (.l (b.list ++ mapsB (M.list.drop i.int.toNat)))), (1, .ptr 128 0)], [(128, .box (mCells c sz bk T S M Q))]⟩
  | _, _ => False
noncomputable def rmputLoop4 : LoopF := fun _ svs os k => match svs, os with
  | [.val (.int .i64) i, .ptr p9 o9, .val (.sl false [.int .u8]) b, .val (.int .i64) j, .ptr p o], [.box [.val .str nm, .val .bool on, .val (.sl true x4) L], .box [.val (.int .i64) c, .val (.int .i64) sz, .val .str bk, .val (.sl false [.sl true x1]) T, .val (.sl true x2) S, .val (.sl true x3) M, .val (.sl false [.int .i64]) Q]] =>
    ((p9 = 1152 ∧ o9 = 0 ∧ p = 128 ∧ o = 0) ∧ (x4 = SpC ∧ x1 = EC ∧ x2 = SC ∧ x3 = BC) ∧ b = .l b.list ∧ L.list.length ≤ 65535 ∧ 0 ≤ i.int ∧ i.int ≤ L.list.length ∧ (∀ s ∈ L.list, spanOk s) ∧ (b.list.length : Int) + 8 * (L.list.length - i.int) ≤ 500000000) ∧
    k (.exit 4) ⟨[(4, vl (.int .u8) (.l (b.list ++ spansB (L.list.drop i.int.toNat)))), (8, vi j), (1, .ptr 128 0)], [(128, .box (mCells c sz bk T S M Q))]⟩
  | _, _ => False
noncomputable def rmputLoop6 : LoopF := fun _ svs os k => match svs, os with
  | [.val (.int .i64) i, .val (.sl false [.int .u8]) b, .ptr p o], [.box [.val (.int .i64) c, .val (.int .i64) sz, .val .str bk, .val (.sl false [.sl true x1]) T, .val (.sl true x2) S, .val (.sl true x3) M, .val (.sl false [.int .i64]) Q]] =>
    ((p = 128 ∧ o = 0) ∧ (x1 = EC ∧ x2 = SC ∧ x3 = BC) ∧ b = .l b.list ∧ Q.list.length ≤ 65536 ∧ 0 ≤ i.int ∧ i.int ≤ Q.list.length ∧ (∀ x ∈ Q.list, cntOk x) ∧ (b.list.length : Int) + 8 * (Q.list.length - i.int) ≤ 500000000) ∧
    k (.exit 6) ⟨[(4, vl (.int .u8) (.l (b.list ++ countsB (Q.list.drop i.int.toNat))))], []⟩
  | _, _ => False
noncomputable def rmputLoop8 : LoopF := fun _ svs os k => match svs, os with
  | [.val (.int .i64) n, .val (.int .i64) i, .val (.sl false [.int .u8]) b, .ptr p o], [.box [.val (.int .i64) c, .val (.int .i64) sz, .val .str bk, .val (.sl false [.sl true x1]) T, .val (.sl true x2) S, .val (.sl true x3) M, .val (.sl false [.int .i64]) Q]] =>
    ((p = 128 ∧ o = 0) ∧ (x1 = EC ∧ x2 = SC ∧ x3 = BC) ∧ n = .i n.int ∧ Q.list.length ≤ 65536 ∧ 0 ≤ i.int ∧ 1 ≤ n.int ∧ n.int ≤ 65535 ∧ i.int + n.int ≤ Q.list.length) ∧
    k (.exit 8) ⟨[(13, vi (.i (lead (U.at Q.list i.int.toNat).int n.int (Q.list.drop (i.int + n.int).toNat)))), (12, vi i), (4, vl (.int .u8) b), (1, .ptr 128 0)], [(128, .box (mCells c sz bk T S M Q))]⟩
  | _, _ => False
noncomputable def rmputC : Ctx := Ctx.withCalm (mkC PR eqs0 (fnsCons 15 rmetaS (fnsConsP 29 tputP tputS fnsNil))
  (trsCons 27 [false, false, false] numF (trsCons 28 [false, false] rtextF trsNil))
  (loopCons 8 [13, 12, 4, 1] [128] rmputLoop8 (loopCons 6 [12, 4, 1] [128] rmputLoop6 (loopCons 4 [11, 9, 4, 8, 1] [1152, 128] rmputLoop4 (loopCons 2 [8, 4, 1] [128] rmputLoop2 (loopCons 0 [7, 4, 1] [128] rmputLoop0 noLoops)))))
  (outCons 8 [13, 12, 4, 1] [128] (outCons 6 [4] [] (outCons 4 [4, 8, 1] [128] (outCons 2 [4, 1] [128] (outCons 0 [4, 1] [128] noOut))))) noOut) [27, 28]
theorem rmput_round0 (pan : KP) (μ : Mu) (N : Nat) (k : KE) (i b c sz bk T S M Q : U) : (exec (rmputC.panics pan) (loopBody Try.f13 0) 0 ⟨[(7, vi i), (4, vl (.int .u8) b), (1, .ptr 128 0)], [(128, .box (mCells c sz bk T S M Q))]⟩ (again PR (some ([4, 1], [128])) none pan [7, 4, 1] [128] rmputLoop0 μ N k)) = (bif decide (U.int i < (↑(List.length (U.list S)) : Int)) then bif decide ((0 : Int) ≤ U.int i ∧ U.int i < (↑(List.length (U.list S)) : Int)) then List.length (U.list b) ≤ (536870912 : Nat) ∧ bif decide 
  ((0 : Int) ≤ U.int i ∧ U.int i < (↑(List.length (U.list S)) : Int)) then List.length (textB (U.list b) (U.str (nth (U.i (0 : Int)) (List.drop (0 : Nat) (U.list (nth (U.i (0 : Int)) (U.list S) (Int.toNat 
  (U.int i))))) (0 : Nat)))) ≤ (536870912 : Nat) ∧ bif decide ((0 : Int) ≤ U.int i ∧ U.int i < (↑(List.length (U.list S)) : Int)) then tputP [[nth (U.i (0 : Int)) (List.drop (2 : Nat) (U.list (nth (U.i (0 
  : Int)) (U.list S) (Int.toNat (U.int i))))) (0 : Nat)], [c]] ∧ bif decide (List.length (num (textB (U.list b) (U.str (nth (U.i (0 : Int)) (List.drop (0 : Nat) (U.list (nth (U.i (0 : Int)) (U.list S) (Int.toNat 
  (U.int i))))) (0 : Nat)))) (2 : Int) (U.int (nth (U.i (0 : Int)) (List.drop (1 : Nat) (U.list (nth (U.i (0 : Int)) (U.list S) (Int.toNat (U.int i))))) (0 : Nat)))) + List.length (bif tableR (U.list (nth 
  (U.i (0 : Int)) (List.drop (2 : Nat) (U.list (nth (U.i (0 : Int)) (U.list S) (Int.toNat (U.int i))))) (0 : Nat))) (4096 : Int) (U.int c) then tputB (U.list (nth (U.i (0 : Int)) (List.drop (2 : Nat) (U.list 
  (nth (U.i (0 : Int)) (U.list S) (Int.toNat (U.int i))))) (0 : Nat))) (U.int c) else []) ≤ room) && !oddB ((9359 : Nat) + (1 : Nat)) then bif Nat.blt (μ [SV.val (Ct.int IntKind.i64) (U.i (IntKind.wrap IntKind.i64 
  (U.int i + (1 : Int)))), SV.val (Ct.sl false [Ct.int IntKind.u8]) (U.l (num (textB (U.list b) (U.str (nth (U.i (0 : Int)) (List.drop (0 : Nat) (U.list (nth (U.i (0 : Int)) (U.list S) (Int.toNat (U.int 
  i))))) (0 : Nat)))) (2 : Int) (U.int (nth (U.i (0 : Int)) (List.drop (1 : Nat) (U.list (nth (U.i (0 : Int)) (U.list S) (Int.toNat (U.int i))))) (0 : Nat))) ++ bif tableR (U.list (nth (U.i (0 : Int)) (List.drop 
  (2 : Nat) (U.list (nth (U.i (0 : Int)) (U.list S) (Int.toNat (U.int i))))) (0 : Nat))) (4096 : Int) (U.int c) then tputB (U.list (nth (U.i (0 : Int)) (List.drop (2 : Nat) (U.list (nth (U.i (0 : Int)) (U.list 
  S) (Int.toNat (U.int i))))) (0 : Nat))) (U.int c) else [])), SV.ptr (nat_lit 128) (nat_lit 0)] [Obj.box [SV.val (Ct.int IntKind.i64) c, SV.val (Ct.int IntKind.i64) sz, SV.val Ct.str bk, SV.val (Ct.sl false 
  [Ct.sl true [Ct.int IntKind.i64, Ct.int IntKind.i64, Ct.int IntKind.i64, Ct.int IntKind.i64, Ct.int IntKind.u32]]) T, SV.val (Ct.sl true [Ct.str, Ct.int IntKind.i64, Ct.sl false [Ct.sl true [Ct.int IntKind.i64, 
  Ct.int IntKind.i64, Ct.int IntKind.i64, Ct.int IntKind.i64, Ct.int IntKind.u32]]]) S, SV.val (Ct.sl true [Ct.str, Ct.bool, Ct.sl true [Ct.int IntKind.i64, Ct.int IntKind.i64]]) M, SV.val (Ct.sl false [Ct.int 
  IntKind.i64]) Q]]) N then ((nat_lit 128 = nat_lit 128 ∧ nat_lit 0 = nat_lit 0) ∧ ([Ct.int IntKind.i64, Ct.int IntKind.i64, Ct.int IntKind.i64, Ct.int IntKind.i64, Ct.int IntKind.u32] = [Ct.int IntKind.i64, 
  Ct.int IntKind.i64, Ct.int IntKind.i64, Ct.int IntKind.i64, Ct.int IntKind.u32] ∧ [Ct.str, Ct.int IntKind.i64, Ct.sl false [Ct.sl true [Ct.int IntKind.i64, Ct.int IntKind.i64, Ct.int IntKind.i64, Ct.int 
  IntKind.i64, Ct.int IntKind.u32]]] = [Ct.str, Ct.int IntKind.i64, Ct.sl false [Ct.sl true [Ct.int IntKind.i64, Ct.int IntKind.i64, Ct.int IntKind.i64, Ct.int IntKind.i64, Ct.int IntKind.u32]]] ∧ [Ct.str, 
  Ct.bool, Ct.sl true [Ct.int IntKind.i64, Ct.int IntKind.i64]] = [Ct.str, Ct.bool, Ct.sl true [Ct.int IntKind.i64, Ct.int IntKind.i64]]) ∧ U.l (num (textB (U.list b) (U.str (nth (U.i (0 : Int)) (List.drop 
  (0 : Nat) (U.list (nth (U.i (0 : Int)) (U.list S) (Int.toNat (U.int i))))) (0 : Nat)))) (2 : Int) (U.int (nth (U.i (0 : Int)) (List.drop (1 : Nat) (U.list (nth (U.i (0 : Int)) (U.list S) (Int.toNat (U.int 
  i))))) (0 : Nat))) ++ bif tableR (U.list (nth (U.i (0 : Int)) (List.drop (2 : Nat) (U.list (nth (U.i (0 : Int)) (U.list S) (Int.toNat (U.int i))))) (0 : Nat))) (4096 : Int) (U.int c) then tputB (U.list 
  (nth (U.i (0 : Int)) (List.drop (2 : Nat) (U.list (nth (U.i (0 : Int)) (U.list S) (Int.toNat (U.int i))))) (0 : Nat))) (U.int c) else []) = U.l (num (textB (U.list b) (U.str (nth (U.i (0 : Int)) (List.drop 
  (0 : Nat) (U.list (nth (U.i (0 : Int)) (U.list S) (Int.toNat (U.int i))))) (0 : Nat)))) (2 : Int) (U.int (nth (U.i (0 : Int)) (List.drop (1 : Nat) (U.list (nth (U.i (0 : Int)) (U.list S) (Int.toNat (U.int 
  i))))) (0 : Nat))) ++ bif tableR (U.list (nth (U.i (0 : Int)) (List.drop (2 : Nat) (U.list (nth (U.i (0 : Int)) (U.list S) (Int.toNat (U.int i))))) (0 : Nat))) (4096 : Int) (U.int c) then tputB (U.list 
  (nth (U.i (0 : Int)) (List.drop (2 : Nat) (U.list (nth (U.i (0 : Int)) (U.list S) (Int.toNat (U.int i))))) (0 : Nat))) (U.int c) else []) ∧ List.length (U.list S) ≤ (8 : Nat) ∧ (0 : Int) ≤ IntKind.wrap 
  IntKind.i64 (U.int i + (1 : Int)) ∧ IntKind.wrap IntKind.i64 (U.int i + (1 : Int)) ≤ (↑(List.length (U.list S)) : Int) ∧ (∀ (s : U), s ∈ U.list S → shotOk s) ∧ (↑(List.length (num (textB (U.list b) (U.str 
  (nth (U.i (0 : Int)) (List.drop (0 : Nat) (U.list (nth (U.i (0 : Int)) (U.list S) (Int.toNat (U.int i))))) (0 : Nat)))) (2 : Int) (U.int (nth (U.i (0 : Int)) (List.drop (1 : Nat) (U.list (nth (U.i (0 : 
  Int)) (U.list S) (Int.toNat (U.int i))))) (0 : Nat))) ++ bif tableR (U.list (nth (U.i (0 : Int)) (List.drop (2 : Nat) (U.list (nth (U.i (0 : Int)) (U.list S) (Int.toNat (U.int i))))) (0 : Nat))) (4096 
  : Int) (U.int c) then tputB (U.list (nth (U.i (0 : Int)) (List.drop (2 : Nat) (U.list (nth (U.i (0 : Int)) (U.list S) (Int.toNat (U.int i))))) (0 : Nat))) (U.int c) else [])) : Int) + (200000 : Int) * 
  ((↑(List.length (U.list S)) : Int) - IntKind.wrap IntKind.i64 (U.int i + (1 : Int))) ≤ (300000000 : Int)) ∧ k (Ex.exit (nat_lit 0)) (St.mk [(nat_lit 4, SV.val (Ct.sl false [Ct.int IntKind.u8]) (U.l ((num 
  (textB (U.list b) (U.str (nth (U.i (0 : Int)) (List.drop (0 : Nat) (U.list (nth (U.i (0 : Int)) (U.list S) (Int.toNat (U.int i))))) (0 : Nat)))) (2 : Int) (U.int (nth (U.i (0 : Int)) (List.drop (1 : Nat) 
  (U.list (nth (U.i (0 : Int)) (U.list S) (Int.toNat (U.int i))))) (0 : Nat))) ++ bif tableR (U.list (nth (U.i (0 : Int)) (List.drop (2 : Nat) (U.list (nth (U.i (0 : Int)) (U.list S) (Int.toNat (U.int i))))) 
  (0 : Nat))) (4096 : Int) (U.int c) then tputB (U.list (nth (U.i (0 : Int)) (List.drop (2 : Nat) (U.list (nth (U.i (0 : Int)) (U.list S) (Int.toNat (U.int i))))) (0 : Nat))) (U.int c) else []) ++ shotsB 
  (U.int c) (List.drop (Int.toNat (IntKind.wrap IntKind.i64 (U.int i + (1 : Int)))) (U.list S))))), (nat_lit 1, SV.ptr (nat_lit 128) (nat_lit 0))] [(nat_lit 128, Obj.box [SV.val (Ct.int IntKind.i64) c, SV.val 
  (Ct.int IntKind.i64) sz, SV.val Ct.str bk, SV.val (Ct.sl false [Ct.sl true [Ct.int IntKind.i64, Ct.int IntKind.i64, Ct.int IntKind.i64, Ct.int IntKind.i64, Ct.int IntKind.u32]]) T, SV.val (Ct.sl true [Ct.str, 
  Ct.int IntKind.i64, Ct.sl false [Ct.sl true [Ct.int IntKind.i64, Ct.int IntKind.i64, Ct.int IntKind.i64, Ct.int IntKind.i64, Ct.int IntKind.u32]]]) S, SV.val (Ct.sl true [Ct.str, Ct.bool, Ct.sl true [Ct.int 
  IntKind.i64, Ct.int IntKind.i64]]) M, SV.val (Ct.sl false [Ct.int IntKind.i64]) Q])]) else False else False else False else False else False else k (Ex.exit (nat_lit 0)) (St.mk [(nat_lit 4, SV.val (Ct.sl 
  false [Ct.int IntKind.u8]) b), (nat_lit 1, SV.ptr (nat_lit 128) (nat_lit 0))] [(nat_lit 128, Obj.box [SV.val (Ct.int IntKind.i64) c, SV.val (Ct.int IntKind.i64) sz, SV.val Ct.str bk, SV.val (Ct.sl false 
  [Ct.sl true [Ct.int IntKind.i64, Ct.int IntKind.i64, Ct.int IntKind.i64, Ct.int IntKind.i64, Ct.int IntKind.u32]]) T, SV.val (Ct.sl true [Ct.str, Ct.int IntKind.i64, Ct.sl false [Ct.sl true [Ct.int IntKind.i64, 
  Ct.int IntKind.i64, Ct.int IntKind.i64, Ct.int IntKind.i64, Ct.int IntKind.u32]]]) S, SV.val (Ct.sl true [Ct.str, Ct.bool, Ct.sl true [Ct.int IntKind.i64, Ct.int IntKind.i64]]) M, SV.val (Ct.sl false [Ct.int 
  IntKind.i64]) Q])])) := by kernel_rfl
theorem rmput_round2 (pan : KP) (μ : Mu) (N : Nat) (k : KE) (i b c sz bk T S M Q : U) : (exec (rmputC.panics pan) (loopBody Try.f13 1) 2 ⟨[(8, vi i), (4, vl (.int .u8) b), (1, .ptr 128 0)], [(128, .box (mCells c sz bk T S M Q))]⟩ (again PR (some ([4, 1], [128])) none pan [8, 4, 1] [128] rmputLoop2 μ N k)) = (bif decide (U.int i < (↑(List.length (U.list M)) : Int)) then bif decide ((0 : Int) ≤ U.int i ∧ U.int i < (↑(List.length (U.list M)) : Int)) then List.length (U.list b) ≤ (536870912 : Nat) ∧ bif U.bool 
  (nth (U.i (0 : Int)) (List.tail (U.list (nth (U.i (0 : Int)) (U.list M) (Int.toNat (U.int i))))) (0 : Nat)) then List.length (textB (U.list b) (U.str (nth (U.i (0 : Int)) (U.list (nth (U.i (0 : Int)) (U.list 
  M) (Int.toNat (U.int i)))) (0 : Nat)))) ≤ (536870912 : Nat) ∧ List.length (num (textB (U.list b) (U.str (nth (U.i (0 : Int)) (U.list (nth (U.i (0 : Int)) (U.list M) (Int.toNat (U.int i)))) (0 : Nat)))) 
  (1 : Int) (1 : Int)) ≤ (536870912 : Nat) ∧ ((nat_lit 1152 = nat_lit 1152 ∧ nat_lit 0 = nat_lit 0 ∧ nat_lit 128 = nat_lit 128 ∧ nat_lit 0 = nat_lit 0) ∧ ([Ct.int IntKind.i64, Ct.int IntKind.i64] = [Ct.int 
  IntKind.i64, Ct.int IntKind.i64] ∧ [Ct.int IntKind.i64, Ct.int IntKind.i64, Ct.int IntKind.i64, Ct.int IntKind.i64, Ct.int IntKind.u32] = [Ct.int IntKind.i64, Ct.int IntKind.i64, Ct.int IntKind.i64, Ct.int 
  IntKind.i64, Ct.int IntKind.u32] ∧ [Ct.str, Ct.int IntKind.i64, Ct.sl false [Ct.sl true [Ct.int IntKind.i64, Ct.int IntKind.i64, Ct.int IntKind.i64, Ct.int IntKind.i64, Ct.int IntKind.u32]]] = [Ct.str, 
  Ct.int IntKind.i64, Ct.sl false [Ct.sl true [Ct.int IntKind.i64, Ct.int IntKind.i64, Ct.int IntKind.i64, Ct.int IntKind.i64, Ct.int IntKind.u32]]] ∧ [Ct.str, Ct.bool, Ct.sl true [Ct.int IntKind.i64, Ct.int 
  IntKind.i64]] = [Ct.str, Ct.bool, Ct.sl true [Ct.int IntKind.i64, Ct.int IntKind.i64]]) ∧ U.l (num (num (textB (U.list b) (U.str (nth (U.i (0 : Int)) (U.list (nth (U.i (0 : Int)) (U.list M) (Int.toNat 
  (U.int i)))) (0 : Nat)))) (1 : Int) (1 : Int)) (2 : Int) (↑(List.length (U.list (nth (U.i (0 : Int)) (List.tail (List.tail (U.list (nth (U.i (0 : Int)) (U.list M) (Int.toNat (U.int i)))))) (0 : Nat)))) 
  : Int)) = U.l (num (num (textB (U.list b) (U.str (nth (U.i (0 : Int)) (U.list (nth (U.i (0 : Int)) (U.list M) (Int.toNat (U.int i)))) (0 : Nat)))) (1 : Int) (1 : Int)) (2 : Int) (↑(List.length (U.list 
  (nth (U.i (0 : Int)) (List.tail (List.tail (U.list (nth (U.i (0 : Int)) (U.list M) (Int.toNat (U.int i)))))) (0 : Nat)))) : Int)) ∧ List.length (U.list (nth (U.i (0 : Int)) (List.tail (List.tail (U.list 
  (nth (U.i (0 : Int)) (U.list M) (Int.toNat (U.int i)))))) (0 : Nat))) ≤ (65535 : Nat) ∧ (0 : Int) ≤ (0 : Int) ∧ (0 : Int) ≤ (↑(List.length (U.list (nth (U.i (0 : Int)) (List.tail (List.tail (U.list (nth 
  (U.i (0 : Int)) (U.list M) (Int.toNat (U.int i)))))) (0 : Nat)))) : Int) ∧ (∀ (s : U), s ∈ U.list (nth (U.i (0 : Int)) (List.tail (List.tail (U.list (nth (U.i (0 : Int)) (U.list M) (Int.toNat (U.int i)))))) 
  (0 : Nat)) → spanOk s) ∧ (↑(List.length (num (num (textB (U.list b) (U.str (nth (U.i (0 : Int)) (U.list (nth (U.i (0 : Int)) (U.list M) (Int.toNat (U.int i)))) (0 : Nat)))) (1 : Int) (1 : Int)) (2 : Int) 
  (↑(List.length (U.list (nth (U.i (0 : Int)) (List.tail (List.tail (U.list (nth (U.i (0 : Int)) (U.list M) (Int.toNat (U.int i)))))) (0 : Nat)))) : Int))) : Int) + (8 : Int) * ((↑(List.length (U.list (nth 
  (U.i (0 : Int)) (List.tail (List.tail (U.list (nth (U.i (0 : Int)) (U.list M) (Int.toNat (U.int i)))))) (0 : Nat)))) : Int) - (0 : Int)) ≤ (500000000 : Int)) ∧ bif Nat.blt (μ [SV.val (Ct.int IntKind.i64) 
  (U.i (IntKind.wrap IntKind.i64 (U.int i + (1 : Int)))), SV.val (Ct.sl false [Ct.int IntKind.u8]) (U.l (num (num (textB (U.list b) (U.str (nth (U.i (0 : Int)) (U.list (nth (U.i (0 : Int)) (U.list M) (Int.toNat 
  (U.int i)))) (0 : Nat)))) (1 : Int) (1 : Int)) (2 : Int) (↑(List.length (U.list (nth (U.i (0 : Int)) (List.tail (List.tail (U.list (nth (U.i (0 : Int)) (U.list M) (Int.toNat (U.int i)))))) (0 : Nat)))) 
  : Int) ++ spansB (List.drop (Int.toNat (0 : Int)) (U.list (nth (U.i (0 : Int)) (List.tail (List.tail (U.list (nth (U.i (0 : Int)) (U.list M) (Int.toNat (U.int i)))))) (0 : Nat)))))), SV.ptr (nat_lit 128) 
  (nat_lit 0)] [Obj.box [SV.val (Ct.int IntKind.i64) c, SV.val (Ct.int IntKind.i64) sz, SV.val Ct.str bk, SV.val (Ct.sl false [Ct.sl true [Ct.int IntKind.i64, Ct.int IntKind.i64, Ct.int IntKind.i64, Ct.int 
  IntKind.i64, Ct.int IntKind.u32]]) T, SV.val (Ct.sl true [Ct.str, Ct.int IntKind.i64, Ct.sl false [Ct.sl true [Ct.int IntKind.i64, Ct.int IntKind.i64, Ct.int IntKind.i64, Ct.int IntKind.i64, Ct.int IntKind.u32]]]) 
  S, SV.val (Ct.sl true [Ct.str, Ct.bool, Ct.sl true [Ct.int IntKind.i64, Ct.int IntKind.i64]]) M, SV.val (Ct.sl false [Ct.int IntKind.i64]) Q]]) N then ((nat_lit 128 = nat_lit 128 ∧ nat_lit 0 = nat_lit 
  0) ∧ ([Ct.int IntKind.i64, Ct.int IntKind.i64, Ct.int IntKind.i64, Ct.int IntKind.i64, Ct.int IntKind.u32] = [Ct.int IntKind.i64, Ct.int IntKind.i64, Ct.int IntKind.i64, Ct.int IntKind.i64, Ct.int IntKind.u32] 
  ∧ [Ct.str, Ct.int IntKind.i64, Ct.sl false [Ct.sl true [Ct.int IntKind.i64, Ct.int IntKind.i64, Ct.int IntKind.i64, Ct.int IntKind.i64, Ct.int IntKind.u32]]] = [Ct.str, Ct.int IntKind.i64, Ct.sl false 
  [Ct.sl true [Ct.int IntKind.i64, Ct.int IntKind.i64, Ct.int IntKind.i64, Ct.int IntKind.i64, Ct.int IntKind.u32]]] ∧ [Ct.str, Ct.bool, Ct.sl true [Ct.int IntKind.i64, Ct.int IntKind.i64]] = [Ct.str, Ct.bool, 
  Ct.sl true [Ct.int IntKind.i64, Ct.int IntKind.i64]]) ∧ U.l (num (num (textB (U.list b) (U.str (nth (U.i (0 : Int)) (U.list (nth (U.i (0 : Int)) (U.list M) (Int.toNat (U.int i)))) (0 : Nat)))) (1 : Int) 
  (1 : Int)) (2 : Int) (↑(List.length (U.list (nth (U.i (0 : Int)) (List.tail (List.tail (U.list (nth (U.i (0 : Int)) (U.list M) (Int.toNat (U.int i)))))) (0 : Nat)))) : Int) ++ spansB (List.drop (Int.toNat 
  (0 : Int)) (U.list (nth (U.i (0 : Int)) (List.tail (List.tail (U.list (nth (U.i (0 : Int)) (U.list M) (Int.toNat (U.int i)))))) (0 : Nat))))) = U.l (num (num (textB (U.list b) (U.str (nth (U.i (0 : Int)) 
  (U.list (nth (U.i (0 : Int)) (U.list M) (Int.toNat (U.int i)))) (0 : Nat)))) (1 : Int) (1 : Int)) (2 : Int) (↑(List.length (U.list (nth (U.i (0 : Int)) (List.tail (List.tail (U.list (nth (U.i (0 : Int)) 
  (U.list M) (Int.toNat (U.int i)))))) (0 : Nat)))) : Int) ++ spansB (List.drop (Int.toNat (0 : Int)) (U.list (nth (U.i (0 : Int)) (List.tail (List.tail (U.list (nth (U.i (0 : Int)) (U.list M) (Int.toNat 
  (U.int i)))))) (0 : Nat))))) ∧ List.length (U.list M) ≤ (8 : Nat) ∧ (0 : Int) ≤ IntKind.wrap IntKind.i64 (U.int i + (1 : Int)) ∧ IntKind.wrap IntKind.i64 (U.int i + (1 : Int)) ≤ (↑(List.length (U.list 
  M)) : Int) ∧ (∀ (x : U), x ∈ U.list M → bmapOk x) ∧ (↑(List.length (num (num (textB (U.list b) (U.str (nth (U.i (0 : Int)) (U.list (nth (U.i (0 : Int)) (U.list M) (Int.toNat (U.int i)))) (0 : Nat)))) (1 
  : Int) (1 : Int)) (2 : Int) (↑(List.length (U.list (nth (U.i (0 : Int)) (List.tail (List.tail (U.list (nth (U.i (0 : Int)) (U.list M) (Int.toNat (U.int i)))))) (0 : Nat)))) : Int) ++ spansB (List.drop 
  (Int.toNat (0 : Int)) (U.list (nth (U.i (0 : Int)) (List.tail (List.tail (U.list (nth (U.i (0 : Int)) (U.list M) (Int.toNat (U.int i)))))) (0 : Nat)))))) : Int) + (9000000 : Int) * ((↑(List.length (U.list 
  M)) : Int) - IntKind.wrap IntKind.i64 (U.int i + (1 : Int))) ≤ (400000000 : Int)) ∧ k (Ex.exit (nat_lit 2)) (St.mk [(nat_lit 4, SV.val (Ct.sl false [Ct.int IntKind.u8]) (U.l (num (num (textB (U.list b) 
  (U.str (nth (U.i (0 : Int)) (U.list (nth (U.i (0 : Int)) (U.list M) (Int.toNat (U.int i)))) (0 : Nat)))) (1 : Int) (1 : Int)) (2 : Int) (↑(List.length (U.list (nth (U.i (0 : Int)) (List.tail (List.tail 
  (U.list (nth (U.i (0 : Int)) (U.list M) (Int.toNat (U.int i)))))) (0 : Nat)))) : Int) ++ spansB (List.drop (Int.toNat (0 : Int)) (U.list (nth (U.i (0 : Int)) (List.tail (List.tail (U.list (nth (U.i (0 
  : Int)) (U.list M) (Int.toNat (U.int i)))))) (0 : Nat)))) ++ mapsB (List.drop (Int.toNat (IntKind.wrap IntKind.i64 (U.int i + (1 : Int)))) (U.list M))))), (nat_lit 1, SV.ptr (nat_lit 128) (nat_lit 0))] 
  [(nat_lit 128, Obj.box [SV.val (Ct.int IntKind.i64) c, SV.val (Ct.int IntKind.i64) sz, SV.val Ct.str bk, SV.val (Ct.sl false [Ct.sl true [Ct.int IntKind.i64, Ct.int IntKind.i64, Ct.int IntKind.i64, Ct.int 
  IntKind.i64, Ct.int IntKind.u32]]) T, SV.val (Ct.sl true [Ct.str, Ct.int IntKind.i64, Ct.sl false [Ct.sl true [Ct.int IntKind.i64, Ct.int IntKind.i64, Ct.int IntKind.i64, Ct.int IntKind.i64, Ct.int IntKind.u32]]]) 
  S, SV.val (Ct.sl true [Ct.str, Ct.bool, Ct.sl true [Ct.int IntKind.i64, Ct.int IntKind.i64]]) M, SV.val (Ct.sl false [Ct.int IntKind.i64]) Q])]) else False else List.length (textB (U.list b) (U.str (nth 
  (U.i (0 : Int)) (U.list (nth (U.i (0 : Int)) (U.list M) (Int.toNat (U.int i)))) (0 : Nat)))) ≤ (536870912 : Nat) ∧ List.length (num (textB (U.list b) (U.str (nth (U.i (0 : Int)) (U.list (nth (U.i (0 : 
  Int)) (U.list M) (Int.toNat (U.int i)))) (0 : Nat)))) (1 : Int) (0 : Int)) ≤ (536870912 : Nat) ∧ ((nat_lit 1152 = nat_lit 1152 ∧ nat_lit 0 = nat_lit 0 ∧ nat_lit 128 = nat_lit 128 ∧ nat_lit 0 = nat_lit 
  0) ∧ ([Ct.int IntKind.i64, Ct.int IntKind.i64] = [Ct.int IntKind.i64, Ct.int IntKind.i64] ∧ [Ct.int IntKind.i64, Ct.int IntKind.i64, Ct.int IntKind.i64, Ct.int IntKind.i64, Ct.int IntKind.u32] = [Ct.int 
  IntKind.i64, Ct.int IntKind.i64, Ct.int IntKind.i64, Ct.int IntKind.i64, Ct.int IntKind.u32] ∧ [Ct.str, Ct.int IntKind.i64, Ct.sl false [Ct.sl true [Ct.int IntKind.i64, Ct.int IntKind.i64, Ct.int IntKind.i64, 
  Ct.int IntKind.i64, Ct.int IntKind.u32]]] = [Ct.str, Ct.int IntKind.i64, Ct.sl false [Ct.sl true [Ct.int IntKind.i64, Ct.int IntKind.i64, Ct.int IntKind.i64, Ct.int IntKind.i64, Ct.int IntKind.u32]]] ∧ 
  [Ct.str, Ct.bool, Ct.sl true [Ct.int IntKind.i64, Ct.int IntKind.i64]] = [Ct.str, Ct.bool, Ct.sl true [Ct.int IntKind.i64, Ct.int IntKind.i64]]) ∧ U.l (num (num (textB (U.list b) (U.str (nth (U.i (0 : 
  Int)) (U.list (nth (U.i (0 : Int)) (U.list M) (Int.toNat (U.int i)))) (0 : Nat)))) (1 : Int) (0 : Int)) (2 : Int) (↑(List.length (U.list (nth (U.i (0 : Int)) (List.tail (List.tail (U.list (nth (U.i (0 
  : Int)) (U.list M) (Int.toNat (U.int i)))))) (0 : Nat)))) : Int)) = U.l (num (num (textB (U.list b) (U.str (nth (U.i (0 : Int)) (U.list (nth (U.i (0 : Int)) (U.list M) (Int.toNat (U.int i)))) (0 : Nat)))) 
  (1 : Int) (0 : Int)) (2 : Int) (↑(List.length (U.list (nth (U.i (0 : Int)) (List.tail (List.tail (U.list (nth (U.i (0 : Int)) (U.list M) (Int.toNat (U.int i)))))) (0 : Nat)))) : Int)) ∧ List.length (U.list 
  (nth (U.i (0 : Int)) (List.tail (List.tail (U.list (nth (U.i (0 : Int)) (U.list M) (Int.toNat (U.int i)))))) (0 : Nat))) ≤ (65535 : Nat) ∧ (0 : Int) ≤ (0 : Int) ∧ (0 : Int) ≤ (↑(List.length (U.list (nth 
  (U.i (0 : Int)) (List.tail (List.tail (U.list (nth (U.i (0 : Int)) (U.list M) (Int.toNat (U.int i)))))) (0 : Nat)))) : Int) ∧ (∀ (s : U), s ∈ U.list (nth (U.i (0 : Int)) (List.tail (List.tail (U.list (nth 
  (U.i (0 : Int)) (U.list M) (Int.toNat (U.int i)))))) (0 : Nat)) → spanOk s) ∧ (↑(List.length (num (num (textB (U.list b) (U.str (nth (U.i (0 : Int)) (U.list (nth (U.i (0 : Int)) (U.list M) (Int.toNat (U.int 
  i)))) (0 : Nat)))) (1 : Int) (0 : Int)) (2 : Int) (↑(List.length (U.list (nth (U.i (0 : Int)) (List.tail (List.tail (U.list (nth (U.i (0 : Int)) (U.list M) (Int.toNat (U.int i)))))) (0 : Nat)))) : Int))) 
  : Int) + (8 : Int) * ((↑(List.length (U.list (nth (U.i (0 : Int)) (List.tail (List.tail (U.list (nth (U.i (0 : Int)) (U.list M) (Int.toNat (U.int i)))))) (0 : Nat)))) : Int) - (0 : Int)) ≤ (500000000 : 
  Int)) ∧ bif Nat.blt (μ [SV.val (Ct.int IntKind.i64) (U.i (IntKind.wrap IntKind.i64 (U.int i + (1 : Int)))), SV.val (Ct.sl false [Ct.int IntKind.u8]) (U.l (num (num (textB (U.list b) (U.str (nth (U.i (0 
  : Int)) (U.list (nth (U.i (0 : Int)) (U.list M) (Int.toNat (U.int i)))) (0 : Nat)))) (1 : Int) (0 : Int)) (2 : Int) (↑(List.length (U.list (nth (U.i (0 : Int)) (List.tail (List.tail (U.list (nth (U.i (0 
  : Int)) (U.list M) (Int.toNat (U.int i)))))) (0 : Nat)))) : Int) ++ spansB (List.drop (Int.toNat (0 : Int)) (U.list (nth (U.i (0 : Int)) (List.tail (List.tail (U.list (nth (U.i (0 : Int)) (U.list M) (Int.toNat 
  (U.int i)))))) (0 : Nat)))))), SV.ptr (nat_lit 128) (nat_lit 0)] [Obj.box [SV.val (Ct.int IntKind.i64) c, SV.val (Ct.int IntKind.i64) sz, SV.val Ct.str bk, SV.val (Ct.sl false [Ct.sl true [Ct.int IntKind.i64, 
  Ct.int IntKind.i64, Ct.int IntKind.i64, Ct.int IntKind.i64, Ct.int IntKind.u32]]) T, SV.val (Ct.sl true [Ct.str, Ct.int IntKind.i64, Ct.sl false [Ct.sl true [Ct.int IntKind.i64, Ct.int IntKind.i64, Ct.int 
  IntKind.i64, Ct.int IntKind.i64, Ct.int IntKind.u32]]]) S, SV.val (Ct.sl true [Ct.str, Ct.bool, Ct.sl true [Ct.int IntKind.i64, Ct.int IntKind.i64]]) M, SV.val (Ct.sl false [Ct.int IntKind.i64]) Q]]) N 
  then ((nat_lit 128 = nat_lit 128 ∧ nat_lit 0 = nat_lit 0) ∧ ([Ct.int IntKind.i64, Ct.int IntKind.i64, Ct.int IntKind.i64, Ct.int IntKind.i64, Ct.int IntKind.u32] = [Ct.int IntKind.i64, Ct.int IntKind.i64, 
  Ct.int IntKind.i64, Ct.int IntKind.i64, Ct.int IntKind.u32] ∧ [Ct.str, Ct.int IntKind.i64, Ct.sl false [Ct.sl true [Ct.int IntKind.i64, Ct.int IntKind.i64, Ct.int IntKind.i64, Ct.int IntKind.i64, Ct.int 
  IntKind.u32]]] = [Ct.str, Ct.int IntKind.i64, Ct.sl false [Ct.sl true [Ct.int IntKind.i64, Ct.int IntKind.i64, Ct.int IntKind.i64, Ct.int IntKind.i64, Ct.int IntKind.u32]]] ∧ [Ct.str, Ct.bool, Ct.sl true 
  [Ct.int IntKind.i64, Ct.int IntKind.i64]] = [Ct.str, Ct.bool, Ct.sl true [Ct.int IntKind.i64, Ct.int IntKind.i64]]) ∧ U.l (num (num (textB (U.list b) (U.str (nth (U.i (0 : Int)) (U.list (nth (U.i (0 : 
  Int)) (U.list M) (Int.toNat (U.int i)))) (0 : Nat)))) (1 : Int) (0 : Int)) (2 : Int) (↑(List.length (U.list (nth (U.i (0 : Int)) (List.tail (List.tail (U.list (nth (U.i (0 : Int)) (U.list M) (Int.toNat 
  (U.int i)))))) (0 : Nat)))) : Int) ++ spansB (List.drop (Int.toNat (0 : Int)) (U.list (nth (U.i (0 : Int)) (List.tail (List.tail (U.list (nth (U.i (0 : Int)) (U.list M) (Int.toNat (U.int i)))))) (0 : Nat))))) 
  = U.l (num (num (textB (U.list b) (U.str (nth (U.i (0 : Int)) (U.list (nth (U.i (0 : Int)) (U.list M) (Int.toNat (U.int i)))) (0 : Nat)))) (1 : Int) (0 : Int)) (2 : Int) (↑(List.length (U.list (nth (U.i 
  (0 : Int)) (List.tail (List.tail (U.list (nth (U.i (0 : Int)) (U.list M) (Int.toNat (U.int i)))))) (0 : Nat)))) : Int) ++ spansB (List.drop (Int.toNat (0 : Int)) (U.list (nth (U.i (0 : Int)) (List.tail 
  (List.tail (U.list (nth (U.i (0 : Int)) (U.list M) (Int.toNat (U.int i)))))) (0 : Nat))))) ∧ List.length (U.list M) ≤ (8 : Nat) ∧ (0 : Int) ≤ IntKind.wrap IntKind.i64 (U.int i + (1 : Int)) ∧ IntKind.wrap 
  IntKind.i64 (U.int i + (1 : Int)) ≤ (↑(List.length (U.list M)) : Int) ∧ (∀ (x : U), x ∈ U.list M → bmapOk x) ∧ (↑(List.length (num (num (textB (U.list b) (U.str (nth (U.i (0 : Int)) (U.list (nth (U.i (0 
  : Int)) (U.list M) (Int.toNat (U.int i)))) (0 : Nat)))) (1 : Int) (0 : Int)) (2 : Int) (↑(List.length (U.list (nth (U.i (0 : Int)) (List.tail (List.tail (U.list (nth (U.i (0 : Int)) (U.list M) (Int.toNat 
  (U.int i)))))) (0 : Nat)))) : Int) ++ spansB (List.drop (Int.toNat (0 : Int)) (U.list (nth (U.i (0 : Int)) (List.tail (List.tail (U.list (nth (U.i (0 : Int)) (U.list M) (Int.toNat (U.int i)))))) (0 : Nat)))))) 
  : Int) + (9000000 : Int) * ((↑(List.length (U.list M)) : Int) - IntKind.wrap IntKind.i64 (U.int i + (1 : Int))) ≤ (400000000 : Int)) ∧ k (Ex.exit (nat_lit 2)) (St.mk [(nat_lit 4, SV.val (Ct.sl false [Ct.int 
  IntKind.u8]) (U.l (num (num (textB (U.list b) (U.str (nth (U.i (0 : Int)) (U.list (nth (U.i (0 : Int)) (U.list M) (Int.toNat (U.int i)))) (0 : Nat)))) (1 : Int) (0 : Int)) (2 : Int) (↑(List.length (U.list 
  (nth (U.i (0 : Int)) (List.tail (List.tail (U.list (nth (U.i (0 : Int)) (U.list M) (Int.toNat (U.int i)))))) (0 : Nat)))) : Int) ++ spansB (List.drop (Int.toNat (0 : Int)) (U.list (nth (U.i (0 : Int)) 
  (List.tail (List.tail (U.list (nth (U.i (0 : Int)) (U.list M) (Int.toNat (U.int i)))))) (0 : Nat)))) ++ mapsB (List.drop (Int.toNat (IntKind.wrap IntKind.i64 (U.int i + (1 : Int)))) (U.list M))))), (nat_lit 
  1, SV.ptr (nat_lit 128) (nat_lit 0))] [(nat_lit 128, Obj.box [SV.val (Ct.int IntKind.i64) c, SV.val (Ct.int IntKind.i64) sz, SV.val Ct.str bk, SV.val (Ct.sl false [Ct.sl true [Ct.int IntKind.i64, Ct.int 
  IntKind.i64, Ct.int IntKind.i64, Ct.int IntKind.i64, Ct.int IntKind.u32]]) T, SV.val (Ct.sl true [Ct.str, Ct.int IntKind.i64, Ct.sl false [Ct.sl true [Ct.int IntKind.i64, Ct.int IntKind.i64, Ct.int IntKind.i64, 
  Ct.int IntKind.i64, Ct.int IntKind.u32]]]) S, SV.val (Ct.sl true [Ct.str, Ct.bool, Ct.sl true [Ct.int IntKind.i64, Ct.int IntKind.i64]]) M, SV.val (Ct.sl false [Ct.int IntKind.i64]) Q])]) else False else 
  False else k (Ex.exit (nat_lit 2)) (St.mk [(nat_lit 4, SV.val (Ct.sl false [Ct.int IntKind.u8]) b), (nat_lit 1, SV.ptr (nat_lit 128) (nat_lit 0))] [(nat_lit 128, Obj.box [SV.val (Ct.int IntKind.i64) c, 
  SV.val (Ct.int IntKind.i64) sz, SV.val Ct.str bk, SV.val (Ct.sl false [Ct.sl true [Ct.int IntKind.i64, Ct.int IntKind.i64, Ct.int IntKind.i64, Ct.int IntKind.i64, Ct.int IntKind.u32]]) T, SV.val (Ct.sl 
  true [Ct.str, Ct.int IntKind.i64, Ct.sl false [Ct.sl true [Ct.int IntKind.i64, Ct.int IntKind.i64, Ct.int IntKind.i64, Ct.int IntKind.i64, Ct.int IntKind.u32]]]) S, SV.val (Ct.sl true [Ct.str, Ct.bool, 
  Ct.sl true [Ct.int IntKind.i64, Ct.int IntKind.i64]]) M, SV.val (Ct.sl false [Ct.int IntKind.i64]) Q])])) := by kernel_rfl
theorem rmput_round4 (pan : KP) (μ : Mu) (N : Nat) (k : KE) (i b j nm on L c sz bk T S M Q : U) : (exec (rmputC.panics pan) (loopBody Try.f13 2) 4 ⟨[(11, vi i), (9, .ptr 1152 0), (4, vl (.int .u8) b), (8, vi j), (1, .ptr 128 0)], [(1152, .box [vs nm, vb on, vt SpC L]), (128, .box (mCells c sz bk T S M Q))]⟩ (again PR (some ([4, 8, 1], [128])) none pan [11, 9, 4, 8, 1] [1152, 128] rmputLoop4 μ N k)) = (bif decide (U.int i < (↑(List.length (U.list L)) : Int)) then bif decide ((0 : Int) ≤ U.int i ∧ U.int i < (↑(List.length (U.list L)) : Int)) then bif decide ((0 : Int) ≤ U.int i ∧ U.int i < (↑(List.length 
  (U.list L)) : Int)) then List.length (U.list b) ≤ (536870912 : Nat) ∧ List.length (num (U.list b) (2 : Int) (U.int (nth (U.i (0 : Int)) (List.drop (0 : Nat) (U.list (nth (U.i (0 : Int)) (U.list L) (Int.toNat 
  (U.int i))))) (0 : Nat)))) ≤ (536870912 : Nat) ∧ bif Nat.blt (μ [SV.val (Ct.int IntKind.i64) (U.i (IntKind.wrap IntKind.i64 (U.int i + (1 : Int)))), SV.ptr (nat_lit 1152) (nat_lit 0), SV.val (Ct.sl false 
  [Ct.int IntKind.u8]) (U.l (num (num (U.list b) (2 : Int) (U.int (nth (U.i (0 : Int)) (List.drop (0 : Nat) (U.list (nth (U.i (0 : Int)) (U.list L) (Int.toNat (U.int i))))) (0 : Nat)))) (2 : Int) (U.int 
  (nth (U.i (0 : Int)) (List.drop (1 : Nat) (U.list (nth (U.i (0 : Int)) (U.list L) (Int.toNat (U.int i))))) (0 : Nat))))), SV.val (Ct.int IntKind.i64) j, SV.ptr (nat_lit 128) (nat_lit 0)] [Obj.box [SV.val 
  Ct.str nm, SV.val Ct.bool on, SV.val (Ct.sl true [Ct.int IntKind.i64, Ct.int IntKind.i64]) L], Obj.box [SV.val (Ct.int IntKind.i64) c, SV.val (Ct.int IntKind.i64) sz, SV.val Ct.str bk, SV.val (Ct.sl false 
  [Ct.sl true [Ct.int IntKind.i64, Ct.int IntKind.i64, Ct.int IntKind.i64, Ct.int IntKind.i64, Ct.int IntKind.u32]]) T, SV.val (Ct.sl true [Ct.str, Ct.int IntKind.i64, Ct.sl false [Ct.sl true [Ct.int IntKind.i64, 
  Ct.int IntKind.i64, Ct.int IntKind.i64, Ct.int IntKind.i64, Ct.int IntKind.u32]]]) S, SV.val (Ct.sl true [Ct.str, Ct.bool, Ct.sl true [Ct.int IntKind.i64, Ct.int IntKind.i64]]) M, SV.val (Ct.sl false [Ct.int 
  IntKind.i64]) Q]]) N then ((nat_lit 1152 = nat_lit 1152 ∧ nat_lit 0 = nat_lit 0 ∧ nat_lit 128 = nat_lit 128 ∧ nat_lit 0 = nat_lit 0) ∧ ([Ct.int IntKind.i64, Ct.int IntKind.i64] = [Ct.int IntKind.i64, Ct.int 
  IntKind.i64] ∧ [Ct.int IntKind.i64, Ct.int IntKind.i64, Ct.int IntKind.i64, Ct.int IntKind.i64, Ct.int IntKind.u32] = [Ct.int IntKind.i64, Ct.int IntKind.i64, Ct.int IntKind.i64, Ct.int IntKind.i64, Ct.int 
  IntKind.u32] ∧ [Ct.str, Ct.int IntKind.i64, Ct.sl false [Ct.sl true [Ct.int IntKind.i64, Ct.int IntKind.i64, Ct.int IntKind.i64, Ct.int IntKind.i64, Ct.int IntKind.u32]]] = [Ct.str, Ct.int IntKind.i64, 
  Ct.sl false [Ct.sl true [Ct.int IntKind.i64, Ct.int IntKind.i64, Ct.int IntKind.i64, Ct.int IntKind.i64, Ct.int IntKind.u32]]] ∧ [Ct.str, Ct.bool, Ct.sl true [Ct.int IntKind.i64, Ct.int IntKind.i64]] = 
  [Ct.str, Ct.bool, Ct.sl true [Ct.int IntKind.i64, Ct.int IntKind.i64]]) ∧ U.l (num (num (U.list b) (2 : Int) (U.int (nth (U.i (0 : Int)) (List.drop (0 : Nat) (U.list (nth (U.i (0 : Int)) (U.list L) (Int.toNat 
  (U.int i))))) (0 : Nat)))) (2 : Int) (U.int (nth (U.i (0 : Int)) (List.drop (1 : Nat) (U.list (nth (U.i (0 : Int)) (U.list L) (Int.toNat (U.int i))))) (0 : Nat)))) = U.l (num (num (U.list b) (2 : Int) 
  (U.int (nth (U.i (0 : Int)) (List.drop (0 : Nat) (U.list (nth (U.i (0 : Int)) (U.list L) (Int.toNat (U.int i))))) (0 : Nat)))) (2 : Int) (U.int (nth (U.i (0 : Int)) (List.drop (1 : Nat) (U.list (nth (U.i 
  (0 : Int)) (U.list L) (Int.toNat (U.int i))))) (0 : Nat)))) ∧ List.length (U.list L) ≤ (65535 : Nat) ∧ (0 : Int) ≤ IntKind.wrap IntKind.i64 (U.int i + (1 : Int)) ∧ IntKind.wrap IntKind.i64 (U.int i + (1 
  : Int)) ≤ (↑(List.length (U.list L)) : Int) ∧ (∀ (s : U), s ∈ U.list L → spanOk s) ∧ (↑(List.length (num (num (U.list b) (2 : Int) (U.int (nth (U.i (0 : Int)) (List.drop (0 : Nat) (U.list (nth (U.i (0 
  : Int)) (U.list L) (Int.toNat (U.int i))))) (0 : Nat)))) (2 : Int) (U.int (nth (U.i (0 : Int)) (List.drop (1 : Nat) (U.list (nth (U.i (0 : Int)) (U.list L) (Int.toNat (U.int i))))) (0 : Nat))))) : Int) 
  + (8 : Int) * ((↑(List.length (U.list L)) : Int) - IntKind.wrap IntKind.i64 (U.int i + (1 : Int))) ≤ (500000000 : Int)) ∧ k (Ex.exit (nat_lit 4)) (St.mk [(nat_lit 4, SV.val (Ct.sl false [Ct.int IntKind.u8]) 
  (U.l (num (num (U.list b) (2 : Int) (U.int (nth (U.i (0 : Int)) (List.drop (0 : Nat) (U.list (nth (U.i (0 : Int)) (U.list L) (Int.toNat (U.int i))))) (0 : Nat)))) (2 : Int) (U.int (nth (U.i (0 : Int)) 
  (List.drop (1 : Nat) (U.list (nth (U.i (0 : Int)) (U.list L) (Int.toNat (U.int i))))) (0 : Nat))) ++ spansB (List.drop (Int.toNat (IntKind.wrap IntKind.i64 (U.int i + (1 : Int)))) (U.list L))))), (nat_lit 
  8, SV.val (Ct.int IntKind.i64) j), (nat_lit 1, SV.ptr (nat_lit 128) (nat_lit 0))] [(nat_lit 128, Obj.box [SV.val (Ct.int IntKind.i64) c, SV.val (Ct.int IntKind.i64) sz, SV.val Ct.str bk, SV.val (Ct.sl 
  false [Ct.sl true [Ct.int IntKind.i64, Ct.int IntKind.i64, Ct.int IntKind.i64, Ct.int IntKind.i64, Ct.int IntKind.u32]]) T, SV.val (Ct.sl true [Ct.str, Ct.int IntKind.i64, Ct.sl false [Ct.sl true [Ct.int 
  IntKind.i64, Ct.int IntKind.i64, Ct.int IntKind.i64, Ct.int IntKind.i64, Ct.int IntKind.u32]]]) S, SV.val (Ct.sl true [Ct.str, Ct.bool, Ct.sl true [Ct.int IntKind.i64, Ct.int IntKind.i64]]) M, SV.val (Ct.sl 
  false [Ct.int IntKind.i64]) Q])]) else False else False else False else k (Ex.exit (nat_lit 4)) (St.mk [(nat_lit 4, SV.val (Ct.sl false [Ct.int IntKind.u8]) b), (nat_lit 8, SV.val (Ct.int IntKind.i64) 
  j), (nat_lit 1, SV.ptr (nat_lit 128) (nat_lit 0))] [(nat_lit 128, Obj.box [SV.val (Ct.int IntKind.i64) c, SV.val (Ct.int IntKind.i64) sz, SV.val Ct.str bk, SV.val (Ct.sl false [Ct.sl true [Ct.int IntKind.i64, 
  Ct.int IntKind.i64, Ct.int IntKind.i64, Ct.int IntKind.i64, Ct.int IntKind.u32]]) T, SV.val (Ct.sl true [Ct.str, Ct.int IntKind.i64, Ct.sl false [Ct.sl true [Ct.int IntKind.i64, Ct.int IntKind.i64, Ct.int 
  IntKind.i64, Ct.int IntKind.i64, Ct.int IntKind.u32]]]) S, SV.val (Ct.sl true [Ct.str, Ct.bool, Ct.sl true [Ct.int IntKind.i64, Ct.int IntKind.i64]]) M, SV.val (Ct.sl false [Ct.int IntKind.i64]) Q])])) := by kernel_rfl
theorem rmput_round6 (pan : KP) (μ : Mu) (N : Nat) (k : KE) (i b c sz bk T S M Q : U) : (exec (rmputC.panics pan) (loopBody Try.f13 3) 6 ⟨[(12, vi i), (4, vl (.int .u8) b), (1, .ptr 128 0)], [(128, .box (mCells c sz bk T S M Q))]⟩ (again PR (some ([4], [])) none pan [12, 4, 1] [128] rmputLoop6 μ N k)) = (bif decide (U.int i < (↑(List.length (U.list Q)) : Int)) then ((nat_lit 128 = nat_lit 128 ∧ nat_lit 0 = nat_lit 0) ∧ ([Ct.int IntKind.i64, Ct.int IntKind.i64, Ct.int IntKind.i64, Ct.int IntKind.i64, Ct.int 
  IntKind.u32] = [Ct.int IntKind.i64, Ct.int IntKind.i64, Ct.int IntKind.i64, Ct.int IntKind.i64, Ct.int IntKind.u32] ∧ [Ct.str, Ct.int IntKind.i64, Ct.sl false [Ct.sl true [Ct.int IntKind.i64, Ct.int IntKind.i64, 
  Ct.int IntKind.i64, Ct.int IntKind.i64, Ct.int IntKind.u32]]] = [Ct.str, Ct.int IntKind.i64, Ct.sl false [Ct.sl true [Ct.int IntKind.i64, Ct.int IntKind.i64, Ct.int IntKind.i64, Ct.int IntKind.i64, Ct.int 
  IntKind.u32]]] ∧ [Ct.str, Ct.bool, Ct.sl true [Ct.int IntKind.i64, Ct.int IntKind.i64]] = [Ct.str, Ct.bool, Ct.sl true [Ct.int IntKind.i64, Ct.int IntKind.i64]]) ∧ U.i (1 : Int) = U.i (1 : Int) ∧ List.length 
  (U.list Q) ≤ (65536 : Nat) ∧ (0 : Int) ≤ U.int i ∧ (1 : Int) ≤ (1 : Int) ∧ (1 : Int) ≤ (65535 : Int) ∧ U.int i + (1 : Int) ≤ (↑(List.length (U.list Q)) : Int)) ∧ bif decide ((0 : Int) ≤ U.int i ∧ U.int 
  i < (↑(List.length (U.list Q)) : Int)) then List.length (U.list b) ≤ (536870912 : Nat) ∧ List.length (num (U.list b) (2 : Int) (lead (U.int (nth (U.i (0 : Int)) (U.list Q) (Int.toNat (U.int i)))) (1 : 
  Int) (List.drop (Int.toNat (U.int i + (1 : Int))) (U.list Q)))) ≤ (536870912 : Nat) ∧ bif Nat.blt (μ [SV.val (Ct.int IntKind.i64) (U.i (IntKind.wrap IntKind.i64 (U.int i + lead (U.int (nth (U.i (0 : Int)) 
  (U.list Q) (Int.toNat (U.int i)))) (1 : Int) (List.drop (Int.toNat (U.int i + (1 : Int))) (U.list Q))))), SV.val (Ct.sl false [Ct.int IntKind.u8]) (U.l (num (num (U.list b) (2 : Int) (lead (U.int (nth 
  (U.i (0 : Int)) (U.list Q) (Int.toNat (U.int i)))) (1 : Int) (List.drop (Int.toNat (U.int i + (1 : Int))) (U.list Q)))) (2 : Int) (U.int (nth (U.i (0 : Int)) (U.list Q) (Int.toNat (U.int i)))))), SV.ptr 
  (nat_lit 128) (nat_lit 0)] [Obj.box [SV.val (Ct.int IntKind.i64) c, SV.val (Ct.int IntKind.i64) sz, SV.val Ct.str bk, SV.val (Ct.sl false [Ct.sl true [Ct.int IntKind.i64, Ct.int IntKind.i64, Ct.int IntKind.i64, 
  Ct.int IntKind.i64, Ct.int IntKind.u32]]) T, SV.val (Ct.sl true [Ct.str, Ct.int IntKind.i64, Ct.sl false [Ct.sl true [Ct.int IntKind.i64, Ct.int IntKind.i64, Ct.int IntKind.i64, Ct.int IntKind.i64, Ct.int 
  IntKind.u32]]]) S, SV.val (Ct.sl true [Ct.str, Ct.bool, Ct.sl true [Ct.int IntKind.i64, Ct.int IntKind.i64]]) M, SV.val (Ct.sl false [Ct.int IntKind.i64]) Q]]) N then ((nat_lit 128 = nat_lit 128 ∧ nat_lit 
  0 = nat_lit 0) ∧ ([Ct.int IntKind.i64, Ct.int IntKind.i64, Ct.int IntKind.i64, Ct.int IntKind.i64, Ct.int IntKind.u32] = [Ct.int IntKind.i64, Ct.int IntKind.i64, Ct.int IntKind.i64, Ct.int IntKind.i64, 
  Ct.int IntKind.u32] ∧ [Ct.str, Ct.int IntKind.i64, Ct.sl false [Ct.sl true [Ct.int IntKind.i64, Ct.int IntKind.i64, Ct.int IntKind.i64, Ct.int IntKind.i64, Ct.int IntKind.u32]]] = [Ct.str, Ct.int IntKind.i64, 
  Ct.sl false [Ct.sl true [Ct.int IntKind.i64, Ct.int IntKind.i64, Ct.int IntKind.i64, Ct.int IntKind.i64, Ct.int IntKind.u32]]] ∧ [Ct.str, Ct.bool, Ct.sl true [Ct.int IntKind.i64, Ct.int IntKind.i64]] = 
  [Ct.str, Ct.bool, Ct.sl true [Ct.int IntKind.i64, Ct.int IntKind.i64]]) ∧ U.l (num (num (U.list b) (2 : Int) (lead (U.int (nth (U.i (0 : Int)) (U.list Q) (Int.toNat (U.int i)))) (1 : Int) (List.drop (Int.toNat 
  (U.int i + (1 : Int))) (U.list Q)))) (2 : Int) (U.int (nth (U.i (0 : Int)) (U.list Q) (Int.toNat (U.int i))))) = U.l (num (num (U.list b) (2 : Int) (lead (U.int (nth (U.i (0 : Int)) (U.list Q) (Int.toNat 
  (U.int i)))) (1 : Int) (List.drop (Int.toNat (U.int i + (1 : Int))) (U.list Q)))) (2 : Int) (U.int (nth (U.i (0 : Int)) (U.list Q) (Int.toNat (U.int i))))) ∧ List.length (U.list Q) ≤ (65536 : Nat) ∧ (0 
  : Int) ≤ IntKind.wrap IntKind.i64 (U.int i + lead (U.int (nth (U.i (0 : Int)) (U.list Q) (Int.toNat (U.int i)))) (1 : Int) (List.drop (Int.toNat (U.int i + (1 : Int))) (U.list Q))) ∧ IntKind.wrap IntKind.i64 
  (U.int i + lead (U.int (nth (U.i (0 : Int)) (U.list Q) (Int.toNat (U.int i)))) (1 : Int) (List.drop (Int.toNat (U.int i + (1 : Int))) (U.list Q))) ≤ (↑(List.length (U.list Q)) : Int) ∧ (∀ (x : U), x ∈ 
  U.list Q → cntOk x) ∧ (↑(List.length (num (num (U.list b) (2 : Int) (lead (U.int (nth (U.i (0 : Int)) (U.list Q) (Int.toNat (U.int i)))) (1 : Int) (List.drop (Int.toNat (U.int i + (1 : Int))) (U.list Q)))) 
  (2 : Int) (U.int (nth (U.i (0 : Int)) (U.list Q) (Int.toNat (U.int i)))))) : Int) + (8 : Int) * ((↑(List.length (U.list Q)) : Int) - IntKind.wrap IntKind.i64 (U.int i + lead (U.int (nth (U.i (0 : Int)) 
  (U.list Q) (Int.toNat (U.int i)))) (1 : Int) (List.drop (Int.toNat (U.int i + (1 : Int))) (U.list Q)))) ≤ (500000000 : Int)) ∧ k (Ex.exit (nat_lit 6)) (St.mk [(nat_lit 4, SV.val (Ct.sl false [Ct.int IntKind.u8]) 
  (U.l (num (num (U.list b) (2 : Int) (lead (U.int (nth (U.i (0 : Int)) (U.list Q) (Int.toNat (U.int i)))) (1 : Int) (List.drop (Int.toNat (U.int i + (1 : Int))) (U.list Q)))) (2 : Int) (U.int (nth (U.i 
  (0 : Int)) (U.list Q) (Int.toNat (U.int i)))) ++ countsB (List.drop (Int.toNat (IntKind.wrap IntKind.i64 (U.int i + lead (U.int (nth (U.i (0 : Int)) (U.list Q) (Int.toNat (U.int i)))) (1 : Int) (List.drop 
  (Int.toNat (U.int i + (1 : Int))) (U.list Q))))) (U.list Q)))))] []) else False else False else k (Ex.exit (nat_lit 6)) (St.mk [(nat_lit 4, SV.val (Ct.sl false [Ct.int IntKind.u8]) b)] [])) := by kernel_rfl
theorem rmput_round8 (pan : KP) (μ : Mu) (N : Nat) (k : KE) (n i b c sz bk T S M Q : U) : (exec (rmputC.panics pan) (loopBody Try.f13 4) 8 ⟨[(13, vi n), (12, vi i), (4, vl (.int .u8) b), (1, .ptr 128 0)], [(128, .box (mCells c sz bk T S M Q))]⟩ (again PR (some ([13, 12, 4, 1], [128])) none pan [13, 12, 4, 1] [128] rmputLoop8 μ N k)) = (bif decide (IntKind.wrap IntKind.i64 (U.int i + U.int n) < (↑(List.length (U.list Q)) : Int)) then bif decide (U.int n < (65535 : Int)) then bif decide ((0 : Int) ≤ IntKind.wrap IntKind.i64 (U.int i + 
  U.int n) ∧ IntKind.wrap IntKind.i64 (U.int i + U.int n) < (↑(List.length (U.list Q)) : Int)) then bif decide ((0 : Int) ≤ U.int i ∧ U.int i < (↑(List.length (U.list Q)) : Int)) then bif U.int (nth (U.i 
  (0 : Int)) (U.list Q) (Int.toNat (IntKind.wrap IntKind.i64 (U.int i + U.int n)))) == U.int (nth (U.i (0 : Int)) (U.list Q) (Int.toNat (U.int i))) then bif Nat.blt (μ [SV.val (Ct.int IntKind.i64) (U.i (IntKind.wrap 
  IntKind.i64 (U.int n + (1 : Int)))), SV.val (Ct.int IntKind.i64) i, SV.val (Ct.sl false [Ct.int IntKind.u8]) b, SV.ptr (nat_lit 128) (nat_lit 0)] [Obj.box [SV.val (Ct.int IntKind.i64) c, SV.val (Ct.int 
  IntKind.i64) sz, SV.val Ct.str bk, SV.val (Ct.sl false [Ct.sl true [Ct.int IntKind.i64, Ct.int IntKind.i64, Ct.int IntKind.i64, Ct.int IntKind.i64, Ct.int IntKind.u32]]) T, SV.val (Ct.sl true [Ct.str, 
  Ct.int IntKind.i64, Ct.sl false [Ct.sl true [Ct.int IntKind.i64, Ct.int IntKind.i64, Ct.int IntKind.i64, Ct.int IntKind.i64, Ct.int IntKind.u32]]]) S, SV.val (Ct.sl true [Ct.str, Ct.bool, Ct.sl true [Ct.int 
  IntKind.i64, Ct.int IntKind.i64]]) M, SV.val (Ct.sl false [Ct.int IntKind.i64]) Q]]) N then ((nat_lit 128 = nat_lit 128 ∧ nat_lit 0 = nat_lit 0) ∧ ([Ct.int IntKind.i64, Ct.int IntKind.i64, Ct.int IntKind.i64, 
  Ct.int IntKind.i64, Ct.int IntKind.u32] = [Ct.int IntKind.i64, Ct.int IntKind.i64, Ct.int IntKind.i64, Ct.int IntKind.i64, Ct.int IntKind.u32] ∧ [Ct.str, Ct.int IntKind.i64, Ct.sl false [Ct.sl true [Ct.int 
  IntKind.i64, Ct.int IntKind.i64, Ct.int IntKind.i64, Ct.int IntKind.i64, Ct.int IntKind.u32]]] = [Ct.str, Ct.int IntKind.i64, Ct.sl false [Ct.sl true [Ct.int IntKind.i64, Ct.int IntKind.i64, Ct.int IntKind.i64, 
  Ct.int IntKind.i64, Ct.int IntKind.u32]]] ∧ [Ct.str, Ct.bool, Ct.sl true [Ct.int IntKind.i64, Ct.int IntKind.i64]] = [Ct.str, Ct.bool, Ct.sl true [Ct.int IntKind.i64, Ct.int IntKind.i64]]) ∧ U.i (IntKind.wrap 
  IntKind.i64 (U.int n + (1 : Int))) = U.i (IntKind.wrap IntKind.i64 (U.int n + (1 : Int))) ∧ List.length (U.list Q) ≤ (65536 : Nat) ∧ (0 : Int) ≤ U.int i ∧ (1 : Int) ≤ IntKind.wrap IntKind.i64 (U.int n 
  + (1 : Int)) ∧ IntKind.wrap IntKind.i64 (U.int n + (1 : Int)) ≤ (65535 : Int) ∧ U.int i + IntKind.wrap IntKind.i64 (U.int n + (1 : Int)) ≤ (↑(List.length (U.list Q)) : Int)) ∧ k (Ex.exit (nat_lit 8)) (St.mk 
  [(nat_lit 13, SV.val (Ct.int IntKind.i64) (U.i (lead (U.int (nth (U.i (0 : Int)) (U.list Q) (Int.toNat (U.int i)))) (IntKind.wrap IntKind.i64 (U.int n + (1 : Int))) (List.drop (Int.toNat (U.int i + IntKind.wrap 
  IntKind.i64 (U.int n + (1 : Int)))) (U.list Q))))), (nat_lit 12, SV.val (Ct.int IntKind.i64) i), (nat_lit 4, SV.val (Ct.sl false [Ct.int IntKind.u8]) b), (nat_lit 1, SV.ptr (nat_lit 128) (nat_lit 0))] 
  [(nat_lit 128, Obj.box [SV.val (Ct.int IntKind.i64) c, SV.val (Ct.int IntKind.i64) sz, SV.val Ct.str bk, SV.val (Ct.sl false [Ct.sl true [Ct.int IntKind.i64, Ct.int IntKind.i64, Ct.int IntKind.i64, Ct.int 
  IntKind.i64, Ct.int IntKind.u32]]) T, SV.val (Ct.sl true [Ct.str, Ct.int IntKind.i64, Ct.sl false [Ct.sl true [Ct.int IntKind.i64, Ct.int IntKind.i64, Ct.int IntKind.i64, Ct.int IntKind.i64, Ct.int IntKind.u32]]]) 
  S, SV.val (Ct.sl true [Ct.str, Ct.bool, Ct.sl true [Ct.int IntKind.i64, Ct.int IntKind.i64]]) M, SV.val (Ct.sl false [Ct.int IntKind.i64]) Q])]) else False else k (Ex.exit (nat_lit 8)) (St.mk [(nat_lit 
  13, SV.val (Ct.int IntKind.i64) n), (nat_lit 12, SV.val (Ct.int IntKind.i64) i), (nat_lit 4, SV.val (Ct.sl false [Ct.int IntKind.u8]) b), (nat_lit 1, SV.ptr (nat_lit 128) (nat_lit 0))] [(nat_lit 128, Obj.box 
  [SV.val (Ct.int IntKind.i64) c, SV.val (Ct.int IntKind.i64) sz, SV.val Ct.str bk, SV.val (Ct.sl false [Ct.sl true [Ct.int IntKind.i64, Ct.int IntKind.i64, Ct.int IntKind.i64, Ct.int IntKind.i64, Ct.int 
  IntKind.u32]]) T, SV.val (Ct.sl true [Ct.str, Ct.int IntKind.i64, Ct.sl false [Ct.sl true [Ct.int IntKind.i64, Ct.int IntKind.i64, Ct.int IntKind.i64, Ct.int IntKind.i64, Ct.int IntKind.u32]]]) S, SV.val 
  (Ct.sl true [Ct.str, Ct.bool, Ct.sl true [Ct.int IntKind.i64, Ct.int IntKind.i64]]) M, SV.val (Ct.sl false [Ct.int IntKind.i64]) Q])]) else False else False else k (Ex.exit (nat_lit 8)) (St.mk [(nat_lit 
  13, SV.val (Ct.int IntKind.i64) n), (nat_lit 12, SV.val (Ct.int IntKind.i64) i), (nat_lit 4, SV.val (Ct.sl false [Ct.int IntKind.u8]) b), (nat_lit 1, SV.ptr (nat_lit 128) (nat_lit 0))] [(nat_lit 128, Obj.box 
  [SV.val (Ct.int IntKind.i64) c, SV.val (Ct.int IntKind.i64) sz, SV.val Ct.str bk, SV.val (Ct.sl false [Ct.sl true [Ct.int IntKind.i64, Ct.int IntKind.i64, Ct.int IntKind.i64, Ct.int IntKind.i64, Ct.int 
  IntKind.u32]]) T, SV.val (Ct.sl true [Ct.str, Ct.int IntKind.i64, Ct.sl false [Ct.sl true [Ct.int IntKind.i64, Ct.int IntKind.i64, Ct.int IntKind.i64, Ct.int IntKind.i64, Ct.int IntKind.u32]]]) S, SV.val 
  (Ct.sl true [Ct.str, Ct.bool, Ct.sl true [Ct.int IntKind.i64, Ct.int IntKind.i64]]) M, SV.val (Ct.sl false [Ct.int IntKind.i64]) Q])]) else k (Ex.exit (nat_lit 8)) (St.mk [(nat_lit 13, SV.val (Ct.int IntKind.i64) 
  n), (nat_lit 12, SV.val (Ct.int IntKind.i64) i), (nat_lit 4, SV.val (Ct.sl false [Ct.int IntKind.u8]) b), (nat_lit 1, SV.ptr (nat_lit 128) (nat_lit 0))] [(nat_lit 128, Obj.box [SV.val (Ct.int IntKind.i64) 
  c, SV.val (Ct.int IntKind.i64) sz, SV.val Ct.str bk, SV.val (Ct.sl false [Ct.sl true [Ct.int IntKind.i64, Ct.int IntKind.i64, Ct.int IntKind.i64, Ct.int IntKind.i64, Ct.int IntKind.u32]]) T, SV.val (Ct.sl 
  true [Ct.str, Ct.int IntKind.i64, Ct.sl false [Ct.sl true [Ct.int IntKind.i64, Ct.int IntKind.i64, Ct.int IntKind.i64, Ct.int IntKind.i64, Ct.int IntKind.u32]]]) S, SV.val (Ct.sl true [Ct.str, Ct.bool, 
  Ct.sl true [Ct.int IntKind.i64, Ct.int IntKind.i64]]) M, SV.val (Ct.sl false [Ct.int IntKind.i64]) Q])])) := by kernel_rfl
theorem rmput_tree (R : RF) (c sz bk T S M Q : U) : (run rmputC Try.f13 [[c, sz, bk, T, S, M, Q]] R) = (bif !rmetaR c sz bk T S M Q then R [[U.l []], [U.i (1 : Int)]] else (0 : Nat) ≤ (536870912 : Nat) ∧ List.length (num [] (1 : Int) (U.int c)) ≤ (536870912 : Nat) ∧ List.length (num (num [] (1 : Int) (U.int 
  c)) (2 : Int) (U.int sz)) ≤ (536870912 : Nat) ∧ tputP [[T], [c]] ∧ bif decide (List.length (textB (num (num [] (1 : Int) (U.int c)) (2 : Int) (U.int sz)) (U.str bk)) + List.length (bif tableR (U.list T) 
  (4096 : Int) (U.int c) then tputB (U.list T) (U.int c) else []) ≤ room) && !oddB ((3727 : Nat) + (1 : Nat)) then List.length (textB (num (num [] (1 : Int) (U.int c)) (2 : Int) (U.int sz)) (U.str bk) ++ 
  bif tableR (U.list T) (4096 : Int) (U.int c) then tputB (U.list T) (U.int c) else []) ≤ (536870912 : Nat) ∧ ((nat_lit 128 = nat_lit 128 ∧ nat_lit 0 = nat_lit 0) ∧ ([Ct.int IntKind.i64, Ct.int IntKind.i64, 
  Ct.int IntKind.i64, Ct.int IntKind.i64, Ct.int IntKind.u32] = [Ct.int IntKind.i64, Ct.int IntKind.i64, Ct.int IntKind.i64, Ct.int IntKind.i64, Ct.int IntKind.u32] ∧ [Ct.str, Ct.int IntKind.i64, Ct.sl false 
  [Ct.sl true [Ct.int IntKind.i64, Ct.int IntKind.i64, Ct.int IntKind.i64, Ct.int IntKind.i64, Ct.int IntKind.u32]]] = [Ct.str, Ct.int IntKind.i64, Ct.sl false [Ct.sl true [Ct.int IntKind.i64, Ct.int IntKind.i64, 
  Ct.int IntKind.i64, Ct.int IntKind.i64, Ct.int IntKind.u32]]] ∧ [Ct.str, Ct.bool, Ct.sl true [Ct.int IntKind.i64, Ct.int IntKind.i64]] = [Ct.str, Ct.bool, Ct.sl true [Ct.int IntKind.i64, Ct.int IntKind.i64]]) 
  ∧ U.l (num (textB (num (num [] (1 : Int) (U.int c)) (2 : Int) (U.int sz)) (U.str bk) ++ bif tableR (U.list T) (4096 : Int) (U.int c) then tputB (U.list T) (U.int c) else []) (1 : Int) (↑(List.length (U.list 
  S)) : Int)) = U.l (num (textB (num (num [] (1 : Int) (U.int c)) (2 : Int) (U.int sz)) (U.str bk) ++ bif tableR (U.list T) (4096 : Int) (U.int c) then tputB (U.list T) (U.int c) else []) (1 : Int) (↑(List.length 
  (U.list S)) : Int)) ∧ List.length (U.list S) ≤ (8 : Nat) ∧ (0 : Int) ≤ (0 : Int) ∧ (0 : Int) ≤ (↑(List.length (U.list S)) : Int) ∧ (∀ (s : U), s ∈ U.list S → shotOk s) ∧ (↑(List.length (num (textB (num 
  (num [] (1 : Int) (U.int c)) (2 : Int) (U.int sz)) (U.str bk) ++ bif tableR (U.list T) (4096 : Int) (U.int c) then tputB (U.list T) (U.int c) else []) (1 : Int) (↑(List.length (U.list S)) : Int))) : Int) 
  + (200000 : Int) * ((↑(List.length (U.list S)) : Int) - (0 : Int)) ≤ (300000000 : Int)) ∧ List.length (num (textB (num (num [] (1 : Int) (U.int c)) (2 : Int) (U.int sz)) (U.str bk) ++ bif tableR (U.list 
  T) (4096 : Int) (U.int c) then tputB (U.list T) (U.int c) else []) (1 : Int) (↑(List.length (U.list S)) : Int) ++ shotsB (U.int c) (List.drop (Int.toNat (0 : Int)) (U.list S))) ≤ (536870912 : Nat) ∧ ((nat_lit 
  128 = nat_lit 128 ∧ nat_lit 0 = nat_lit 0) ∧ ([Ct.int IntKind.i64, Ct.int IntKind.i64, Ct.int IntKind.i64, Ct.int IntKind.i64, Ct.int IntKind.u32] = [Ct.int IntKind.i64, Ct.int IntKind.i64, Ct.int IntKind.i64, 
  Ct.int IntKind.i64, Ct.int IntKind.u32] ∧ [Ct.str, Ct.int IntKind.i64, Ct.sl false [Ct.sl true [Ct.int IntKind.i64, Ct.int IntKind.i64, Ct.int IntKind.i64, Ct.int IntKind.i64, Ct.int IntKind.u32]]] = [Ct.str, 
  Ct.int IntKind.i64, Ct.sl false [Ct.sl true [Ct.int IntKind.i64, Ct.int IntKind.i64, Ct.int IntKind.i64, Ct.int IntKind.i64, Ct.int IntKind.u32]]] ∧ [Ct.str, Ct.bool, Ct.sl true [Ct.int IntKind.i64, Ct.int 
  IntKind.i64]] = [Ct.str, Ct.bool, Ct.sl true [Ct.int IntKind.i64, Ct.int IntKind.i64]]) ∧ U.l (num (num (textB (num (num [] (1 : Int) (U.int c)) (2 : Int) (U.int sz)) (U.str bk) ++ bif tableR (U.list T) 
  (4096 : Int) (U.int c) then tputB (U.list T) (U.int c) else []) (1 : Int) (↑(List.length (U.list S)) : Int) ++ shotsB (U.int c) (List.drop (Int.toNat (0 : Int)) (U.list S))) (1 : Int) (↑(List.length (U.list 
  M)) : Int)) = U.l (num (num (textB (num (num [] (1 : Int) (U.int c)) (2 : Int) (U.int sz)) (U.str bk) ++ bif tableR (U.list T) (4096 : Int) (U.int c) then tputB (U.list T) (U.int c) else []) (1 : Int) 
  (↑(List.length (U.list S)) : Int) ++ shotsB (U.int c) (List.drop (Int.toNat (0 : Int)) (U.list S))) (1 : Int) (↑(List.length (U.list M)) : Int)) ∧ List.length (U.list M) ≤ (8 : Nat) ∧ (0 : Int) ≤ (0 : 
  Int) ∧ (0 : Int) ≤ (↑(List.length (U.list M)) : Int) ∧ (∀ (x : U), x ∈ U.list M → bmapOk x) ∧ (↑(List.length (num (num (textB (num (num [] (1 : Int) (U.int c)) (2 : Int) (U.int sz)) (U.str bk) ++ bif tableR 
  (U.list T) (4096 : Int) (U.int c) then tputB (U.list T) (U.int c) else []) (1 : Int) (↑(List.length (U.list S)) : Int) ++ shotsB (U.int c) (List.drop (Int.toNat (0 : Int)) (U.list S))) (1 : Int) (↑(List.length 
  (U.list M)) : Int))) : Int) + (9000000 : Int) * ((↑(List.length (U.list M)) : Int) - (0 : Int)) ≤ (400000000 : Int)) ∧ List.length (num (num (textB (num (num [] (1 : Int) (U.int c)) (2 : Int) (U.int sz)) 
  (U.str bk) ++ bif tableR (U.list T) (4096 : Int) (U.int c) then tputB (U.list T) (U.int c) else []) (1 : Int) (↑(List.length (U.list S)) : Int) ++ shotsB (U.int c) (List.drop (Int.toNat (0 : Int)) (U.list 
  S))) (1 : Int) (↑(List.length (U.list M)) : Int) ++ mapsB (List.drop (Int.toNat (0 : Int)) (U.list M))) ≤ (536870912 : Nat) ∧ ((nat_lit 128 = nat_lit 128 ∧ nat_lit 0 = nat_lit 0) ∧ ([Ct.int IntKind.i64, 
  Ct.int IntKind.i64, Ct.int IntKind.i64, Ct.int IntKind.i64, Ct.int IntKind.u32] = [Ct.int IntKind.i64, Ct.int IntKind.i64, Ct.int IntKind.i64, Ct.int IntKind.i64, Ct.int IntKind.u32] ∧ [Ct.str, Ct.int 
  IntKind.i64, Ct.sl false [Ct.sl true [Ct.int IntKind.i64, Ct.int IntKind.i64, Ct.int IntKind.i64, Ct.int IntKind.i64, Ct.int IntKind.u32]]] = [Ct.str, Ct.int IntKind.i64, Ct.sl false [Ct.sl true [Ct.int 
  IntKind.i64, Ct.int IntKind.i64, Ct.int IntKind.i64, Ct.int IntKind.i64, Ct.int IntKind.u32]]] ∧ [Ct.str, Ct.bool, Ct.sl true [Ct.int IntKind.i64, Ct.int IntKind.i64]] = [Ct.str, Ct.bool, Ct.sl true [Ct.int 
  IntKind.i64, Ct.int IntKind.i64]]) ∧ U.l (num (num (num (textB (num (num [] (1 : Int) (U.int c)) (2 : Int) (U.int sz)) (U.str bk) ++ bif tableR (U.list T) (4096 : Int) (U.int c) then tputB (U.list T) (U.int 
  c) else []) (1 : Int) (↑(List.length (U.list S)) : Int) ++ shotsB (U.int c) (List.drop (Int.toNat (0 : Int)) (U.list S))) (1 : Int) (↑(List.length (U.list M)) : Int) ++ mapsB (List.drop (Int.toNat (0 : 
  Int)) (U.list M))) (4 : Int) (↑(List.length (U.list Q)) : Int)) = U.l (num (num (num (textB (num (num [] (1 : Int) (U.int c)) (2 : Int) (U.int sz)) (U.str bk) ++ bif tableR (U.list T) (4096 : Int) (U.int 
  c) then tputB (U.list T) (U.int c) else []) (1 : Int) (↑(List.length (U.list S)) : Int) ++ shotsB (U.int c) (List.drop (Int.toNat (0 : Int)) (U.list S))) (1 : Int) (↑(List.length (U.list M)) : Int) ++ 
  mapsB (List.drop (Int.toNat (0 : Int)) (U.list M))) (4 : Int) (↑(List.length (U.list Q)) : Int)) ∧ List.length (U.list Q) ≤ (65536 : Nat) ∧ (0 : Int) ≤ (0 : Int) ∧ (0 : Int) ≤ (↑(List.length (U.list Q)) 
  : Int) ∧ (∀ (x : U), x ∈ U.list Q → cntOk x) ∧ (↑(List.length (num (num (num (textB (num (num [] (1 : Int) (U.int c)) (2 : Int) (U.int sz)) (U.str bk) ++ bif tableR (U.list T) (4096 : Int) (U.int c) then 
  tputB (U.list T) (U.int c) else []) (1 : Int) (↑(List.length (U.list S)) : Int) ++ shotsB (U.int c) (List.drop (Int.toNat (0 : Int)) (U.list S))) (1 : Int) (↑(List.length (U.list M)) : Int) ++ mapsB (List.drop 
  (Int.toNat (0 : Int)) (U.list M))) (4 : Int) (↑(List.length (U.list Q)) : Int))) : Int) + (8 : Int) * ((↑(List.length (U.list Q)) : Int) - (0 : Int)) ≤ (500000000 : Int)) ∧ bif decide ((↑(List.length (num 
  (num (num (textB (num (num [] (1 : Int) (U.int c)) (2 : Int) (U.int sz)) (U.str bk) ++ bif tableR (U.list T) (4096 : Int) (U.int c) then tputB (U.list T) (U.int c) else []) (1 : Int) (↑(List.length (U.list 
  S)) : Int) ++ shotsB (U.int c) (List.drop (Int.toNat (0 : Int)) (U.list S))) (1 : Int) (↑(List.length (U.list M)) : Int) ++ mapsB (List.drop (Int.toNat (0 : Int)) (U.list M))) (4 : Int) (↑(List.length 
  (U.list Q)) : Int) ++ countsB (List.drop (Int.toNat (0 : Int)) (U.list Q)))) : Int) > (1048576 : Int)) then R [[U.l []], [U.i (2 : Int)]] else R [[U.l (num (num (num (textB (num (num [] (1 : Int) (U.int 
  c)) (2 : Int) (U.int sz)) (U.str bk) ++ bif tableR (U.list T) (4096 : Int) (U.int c) then tputB (U.list T) (U.int c) else []) (1 : Int) (↑(List.length (U.list S)) : Int) ++ shotsB (U.int c) (List.drop 
  (Int.toNat (0 : Int)) (U.list S))) (1 : Int) (↑(List.length (U.list M)) : Int) ++ mapsB (List.drop (Int.toNat (0 : Int)) (U.list M))) (4 : Int) (↑(List.length (U.list Q)) : Int) ++ countsB (List.drop (Int.toNat 
  (0 : Int)) (U.list Q)))], [U.i (0 : Int)]] else False) := by kernel_rfl
end Go.Mat

/-
  WALKS 16: the document's metas as bytes: ref12.Put. Conditions: none.
-/
namespace Go.Mat
open Go Go.Den Go.Proofs

theorem text_app {b : List U} {s : ByteArray} (h : s.size ≤ 65535) : textB b s = b ++ textB [] s := by
  unfold textB
  rw [show longB s = false from decide_eq_false (by omega), cond_false, cond_false, num_app (good2 (by omega) (by omega)), List.append_assoc]
theorem rmput_loop0 : LoopOk rmputC 0 (loopBody Try.f13 0) := by
  refine loopOk_of (F := rmputLoop0) (ts := [7, 4, 1]) (os := [128]) rfl (fun svs os => match svs, os with | .val _ i :: _, [.box [_, _, _, _, .val _ S, _, _]] => ((S.list.length : Int) - i.int).toNat | _, _ => 0) ?_
  intro pan svs os k ho1 ho2 h
  unfold rmputLoop0 at h
  split at h
  · rename_i i b p o c sz bk x1 T x2 S x3 M Q
    obtain ⟨⟨⟨rfl, rfl⟩, ⟨rfl, rfl, rfl⟩, hb, hS8, h0, hi, hok, hx⟩, hk⟩ := h
    refine .eq (rmput_round0 pan _ _ k i b c sz bk T S M Q) ?_
    refine bd (fun hlt => dt ⟨h0, by omega⟩ ?_) (fun hlt => ?_)
    · have hs := hok _ (mem_at (L := S.list) (i := i.int.toNat) (by omega))
      rw [drop_at (by omega), shotsB] at hk
      unfold shotOk at hs
      simp only [U.at, e0, e1, e2, ← List.append_assoc] at hk hs
      obtain ⟨hnm, hv0, hv1, hT'⟩ := hs
      have h1 := textB_len (nth (.i 0) (nth (.i 0) S.list i.int.toNat).list 0).str
      have h2 := num2 (nth (.i 0) (nth (.i 0) S.list i.int.toNat).list 1).int
      have h3 := tabX_len c.int hT'
      have hw : IntKind.wrap .i64 (i.int + 1) = i.int + 1 := i64_in (by omega) (by omega)
      have hc : (i.int + 1).toNat = i.int.toNat + 1 := by omega
      have hlt' : ((S.list.length : Int) - (i.int + 1)).toNat < ((S.list.length : Int) - i.int).toNat := by omega
      have e1 := text_app (b := b.list) hnm
      have e2 : num (textB b.list (nth (.i 0) (nth (.i 0) S.list i.int.toNat).list 0).str) 2 (nth (.i 0) (nth (.i 0) S.list i.int.toNat).list 1).int = b.list ++ textB [] (nth (.i 0) (nth (.i 0) S.list i.int.toNat).list 0).str ++ num [] 2 (nth (.i 0) (nth (.i 0) S.list i.int.toNat).list 1).int := by
        rw [e1]; exact num_app (good2 hv0 hv1)
      unfold tabX at h3
      simp only [nth_drop, Nat.add_zero, hw, hc]
      rw [e2, e1]
      refine ⟨by omega, dt ⟨h0, by omega⟩ ⟨by rw [List.length_append]; omega, dt ⟨h0, by omega⟩ ⟨hT', broom ?_ rfl (blt hlt' ⟨⟨⟨by trivial, by trivial⟩, ⟨by trivial, by trivial, by trivial⟩, by trivial, hS8, by omega, by omega, hok, by simp only [List.length_append]; omega⟩, hk⟩)⟩⟩⟩
      simp only [List.length_append, room]; omega
    · rw [List.drop_of_length_le (by omega), shotsB, List.append_nil, ← hb] at hk
      exact hk
  · exact h.elim
theorem rmput_loop4 : LoopOk rmputC 4 (loopBody Try.f13 2) := by
  refine loopOk_of (F := rmputLoop4) (ts := [11, 9, 4, 8, 1]) (os := [1152, 128]) rfl (fun svs os => match svs, os with | .val _ i :: _, .box [_, _, .val _ L] :: _ => ((L.list.length : Int) - i.int).toNat | _, _ => 0) ?_
  intro pan svs os k ho1 ho2 h
  unfold rmputLoop4 at h
  split at h
  · rename_i i p9 o9 b j p o nm on x4 L c sz bk x1 T x2 S x3 M Q
    obtain ⟨⟨⟨rfl, rfl, rfl, rfl⟩, ⟨rfl, rfl, rfl, rfl⟩, hb, hL8, h0, hi, hok, hx⟩, hk⟩ := h
    refine .eq (rmput_round4 pan _ _ k i b j nm on L c sz bk T S M Q) ?_
    refine bd (fun hlt => dt ⟨h0, by omega⟩ (dt ⟨h0, by omega⟩ ?_)) (fun hlt => ?_)
    · have hs := hok _ (mem_at (L := L.list) (i := i.int.toNat) (by omega))
      rw [drop_at (by omega), spansB] at hk
      unfold spanOk at hs
      simp only [U.at, e0, e1, ← List.append_assoc] at hk hs
      obtain ⟨ha0, ha1, hb0, hb1⟩ := hs
      have h1 := num2 (nth (.i 0) (nth (.i 0) L.list i.int.toNat).list 0).int
      have h2 := num2 (nth (.i 0) (nth (.i 0) L.list i.int.toNat).list 1).int
      have hw : IntKind.wrap .i64 (i.int + 1) = i.int + 1 := i64_in (by omega) (by omega)
      have hc : (i.int + 1).toNat = i.int.toNat + 1 := by omega
      have hlt' : ((L.list.length : Int) - (i.int + 1)).toNat < ((L.list.length : Int) - i.int).toNat := by omega
      have e1 : num b.list 2 (nth (.i 0) (nth (.i 0) L.list i.int.toNat).list 0).int = b.list ++ num [] 2 (nth (.i 0) (nth (.i 0) L.list i.int.toNat).list 0).int := num_app (good2 ha0 ha1)
      have e2 : num (num b.list 2 (nth (.i 0) (nth (.i 0) L.list i.int.toNat).list 0).int) 2 (nth (.i 0) (nth (.i 0) L.list i.int.toNat).list 1).int = b.list ++ num [] 2 (nth (.i 0) (nth (.i 0) L.list i.int.toNat).list 0).int ++ num [] 2 (nth (.i 0) (nth (.i 0) L.list i.int.toNat).list 1).int := by
        rw [e1]; exact num_app (good2 hb0 hb1)
      simp only [nth_drop, Nat.add_zero, hw, hc]
      rw [e2, e1]
      exact ⟨by omega, by rw [List.length_append]; omega, blt hlt' ⟨⟨⟨by trivial, by trivial, by trivial, by trivial⟩, ⟨by trivial, by trivial, by trivial, by trivial⟩, by trivial, hL8, by omega, by omega, hok, by simp only [List.length_append]; omega⟩, hk⟩⟩
    · rw [List.drop_of_length_le (by omega), spansB, List.append_nil, ← hb] at hk
      exact hk
  · exact h.elim
theorem rmput_loop2 : LoopOk rmputC 2 (loopBody Try.f13 1) := by
  refine loopOk_of (F := rmputLoop2) (ts := [8, 4, 1]) (os := [128]) rfl (fun svs os => match svs, os with | .val _ i :: _, [.box [_, _, _, _, _, .val _ M, _]] => ((M.list.length : Int) - i.int).toNat | _, _ => 0) ?_
  intro pan svs os k ho1 ho2 h
  unfold rmputLoop2 at h
  split at h
  · rename_i i b p o c sz bk x1 T x2 S x3 M Q
    obtain ⟨⟨⟨rfl, rfl⟩, ⟨rfl, rfl, rfl⟩, hb, hM8, h0, hi, hok, hx⟩, hk⟩ := h
    refine .eq (rmput_round2 pan _ _ k i b c sz bk T S M Q) ?_
    refine bd (fun hlt => dt ⟨h0, by omega⟩ ⟨by omega, ?_⟩) (fun hlt => ?_)
    · have hs := hok _ (mem_at (L := M.list) (i := i.int.toNat) (by omega))
      rw [drop_at (by omega), mapsB, mapB] at hk
      unfold bmapOk at hs
      simp only [U.at, e0, e1, e2] at hk hs
      obtain ⟨hnm, hLl, hsp⟩ := hs
      have h1 := textB_len (nth (.i 0) (nth (.i 0) M.list i.int.toNat).list 0).str
      have h3 := num2 (nth (.i 0) (nth (.i 0) M.list i.int.toNat).list 2).list.length
      have h4 := spansB_len (nth (.i 0) (nth (.i 0) M.list i.int.toNat).list 2).list
      have hw : IntKind.wrap .i64 (i.int + 1) = i.int + 1 := i64_in (by omega) (by omega)
      have hc : (i.int + 1).toNat = i.int.toNat + 1 := by omega
      have hlt' : ((M.list.length : Int) - (i.int + 1)).toNat < ((M.list.length : Int) - i.int).toNat := by omega
      have e1 := text_app (b := b.list) hnm
      simp only [nth_tail, Nat.zero_add, Nat.reduceAdd, hw, hc, Int.toNat_zero, List.drop_zero]
      refine bi (fun hb => ?_) (fun hb => ?_)
      · rw [hb] at hk
        simp only [onB, cond_true, ← List.append_assoc] at hk
        have e2 : num (textB b.list (nth (.i 0) (nth (.i 0) M.list i.int.toNat).list 0).str) 1 1 = b.list ++ textB [] (nth (.i 0) (nth (.i 0) M.list i.int.toNat).list 0).str ++ num [] 1 1 := by
          rw [e1]; exact num_app (good1 (by omega) (by omega))
        have e3 : num (num (textB b.list (nth (.i 0) (nth (.i 0) M.list i.int.toNat).list 0).str) 1 1) 2 (nth (.i 0) (nth (.i 0) M.list i.int.toNat).list 2).list.length = b.list ++ textB [] (nth (.i 0) (nth (.i 0) M.list i.int.toNat).list 0).str ++ num [] 1 1 ++ num [] 2 (nth (.i 0) (nth (.i 0) M.list i.int.toNat).list 2).list.length := by
          rw [e2]; exact num_app (good2 (by omega) (by omega))
        have h2 := num1 1
        rw [e3, e2, e1]
        exact ⟨by simp only [List.length_append]; omega, by simp only [List.length_append]; omega, ⟨⟨by trivial, by trivial, by trivial, by trivial⟩, ⟨by trivial, by trivial, by trivial, by trivial⟩, by trivial, hLl, by trivial, by omega, hsp, by simp only [List.length_append]; omega⟩, blt hlt' ⟨⟨⟨by trivial, by trivial⟩, ⟨by trivial, by trivial, by trivial⟩, by trivial, hM8, by omega, by omega, hok, by simp only [List.length_append]; omega⟩, hk⟩⟩
      · rw [hb] at hk
        simp only [onB, cond_false, ← List.append_assoc] at hk
        have e2 : num (textB b.list (nth (.i 0) (nth (.i 0) M.list i.int.toNat).list 0).str) 1 0 = b.list ++ textB [] (nth (.i 0) (nth (.i 0) M.list i.int.toNat).list 0).str ++ num [] 1 0 := by
          rw [e1]; exact num_app (good1 (by omega) (by omega))
        have e3 : num (num (textB b.list (nth (.i 0) (nth (.i 0) M.list i.int.toNat).list 0).str) 1 0) 2 (nth (.i 0) (nth (.i 0) M.list i.int.toNat).list 2).list.length = b.list ++ textB [] (nth (.i 0) (nth (.i 0) M.list i.int.toNat).list 0).str ++ num [] 1 0 ++ num [] 2 (nth (.i 0) (nth (.i 0) M.list i.int.toNat).list 2).list.length := by
          rw [e2]; exact num_app (good2 (by omega) (by omega))
        have h2 := num1 0
        rw [e3, e2, e1]
        exact ⟨by simp only [List.length_append]; omega, by simp only [List.length_append]; omega, ⟨⟨by trivial, by trivial, by trivial, by trivial⟩, ⟨by trivial, by trivial, by trivial, by trivial⟩, by trivial, hLl, by trivial, by omega, hsp, by simp only [List.length_append]; omega⟩, blt hlt' ⟨⟨⟨by trivial, by trivial⟩, ⟨by trivial, by trivial, by trivial⟩, by trivial, hM8, by omega, by omega, hok, by simp only [List.length_append]; omega⟩, hk⟩⟩
    · rw [List.drop_of_length_le (by omega), mapsB, List.append_nil, ← hb] at hk
      exact hk
  · exact h.elim
theorem rmput_loop8 : LoopOk rmputC 8 (loopBody Try.f13 4) := by
  refine loopOk_of (F := rmputLoop8) (ts := [13, 12, 4, 1]) (os := [128]) rfl (fun svs _ => match svs with | .val _ n :: _ => (65535 - n.int).toNat | _ => 0) ?_
  intro pan svs os k ho1 ho2 h
  unfold rmputLoop8 at h
  split at h
  · rename_i n i b p o c sz bk x1 T x2 S x3 M Q
    obtain ⟨⟨⟨rfl, rfl⟩, ⟨rfl, rfl, rfl⟩, hnn, hL, h0, hn1, hn, hi⟩, hk⟩ := h
    refine .eq (rmput_round8 pan _ _ k n i b c sz bk T S M Q) ?_
    have hw : IntKind.wrap .i64 (i.int + n.int) = i.int + n.int := i64_in (by omega) (by omega)
    have hw2 : IntKind.wrap .i64 (n.int + 1) = n.int + 1 := i64_in (by omega) (by omega)
    simp only [hw, hw2]
    refine bd (fun h1 => bd (fun h2 => dt (by omega) (dt (by omega) ?_)) (fun h2 => ?_)) (fun h1 => ?_)
    · rw [drop_at (by omega), lead, decide_eq_true h2, Bool.true_and] at hk
      simp only [U.at] at hk
      have hc : (i.int + (n.int + 1)).toNat = (i.int + n.int).toNat + 1 := by omega
      rw [hc]
      refine bi (fun h3 => ?_) (fun h3 => ?_)
      · rw [h3] at hk
        exact blt (by show (65535 - (n.int + 1)).toNat < (65535 - n.int).toNat; omega) ⟨⟨⟨by trivial, by trivial⟩, ⟨by trivial, by trivial, by trivial⟩, by trivial, hL, h0, by omega, by omega, by omega⟩, hk⟩
      · rw [h3, cond_false, ← hnn] at hk
        exact hk
    · rw [drop_at (by omega), lead, decide_eq_false h2, Bool.false_and, cond_false, ← hnn] at hk
      exact hk
    · rw [List.drop_of_length_le (by omega), lead, ← hnn] at hk
      exact hk
  · exact h.elim
theorem rmput_loop6 : LoopOk rmputC 6 (loopBody Try.f13 3) := by
  refine loopOk_of (F := rmputLoop6) (ts := [12, 4, 1]) (os := [128]) rfl (fun svs os => match svs, os with | .val _ i :: _, [.box [_, _, _, _, _, _, .val _ Q]] => ((Q.list.length : Int) - i.int).toNat | _, _ => 0) ?_
  intro pan svs os k ho1 ho2 h
  unfold rmputLoop6 at h
  split at h
  · rename_i i b p o c sz bk x1 T x2 S x3 M Q
    obtain ⟨⟨⟨rfl, rfl⟩, ⟨rfl, rfl, rfl⟩, hb, hL, h0, hi, hok, hx⟩, hk⟩ := h
    refine .eq (rmput_round6 pan _ _ k i b c sz bk T S M Q) ?_
    refine bd (fun hlt => ?_) (fun hlt => ?_)
    · have hs := hok _ (mem_at (L := Q.list) (i := i.int.toNat) (by omega))
      rw [drop_at (by omega), countsB_cons, List.drop_drop] at hk
      unfold cntOk at hs
      simp only [U.at] at hk hs
      have hd : (i.int + 1).toNat = i.int.toNat + 1 := by omega
      have hge := lead_ge (nth (.i 0) Q.list i.int.toNat).int (Q.list.drop (i.int.toNat + 1)) 1
      simp only [List.length_drop] at hge
      simp only [hd]
      generalize lead (nth (.i 0) Q.list i.int.toNat).int 1 (Q.list.drop (i.int.toNat + 1)) = m at hk hge ⊢
      have hw : IntKind.wrap .i64 (i.int + m) = i.int + m := i64_in (by omega) (by omega)
      have hm : (i.int + m).toNat = i.int.toNat + 1 + (m - 1).toNat := by omega
      have h1 := num2 m
      have h2 := num2 (nth (.i 0) Q.list i.int.toNat).int
      have hlt' : ((Q.list.length : Int) - (i.int + m)).toNat < ((Q.list.length : Int) - i.int).toNat := by omega
      have e1 : num b.list 2 m = b.list ++ num [] 2 m := num_app (good2 (by omega) (by omega))
      have e2 : num (num b.list 2 m) 2 (nth (.i 0) Q.list i.int.toNat).int = b.list ++ num [] 2 m ++ num [] 2 (nth (.i 0) Q.list i.int.toNat).int := by
        rw [e1]; exact num_app (good2 hs.1 hs.2)
      simp only [← List.append_assoc] at hk
      simp only [hw, hm]
      rw [e2, e1]
      exact ⟨⟨⟨by trivial, by trivial⟩, ⟨by trivial, by trivial, by trivial⟩, by trivial, hL, h0, by omega, by omega, by omega⟩, dt (by omega) ⟨by omega, by rw [List.length_append]; omega, blt hlt' ⟨⟨⟨by trivial, by trivial⟩, ⟨by trivial, by trivial, by trivial⟩, by trivial, hL, by omega, by omega, hok, by simp only [List.length_append]; omega⟩, hk⟩⟩⟩
    · rw [List.drop_of_length_le (by omega), countsB, List.append_nil, ← hb] at hk
      exact hk
  · exact h.elim
/-- what right metas hold -/
theorem name_size {s : ByteArray} (h : nameR s = true) : s.size ≤ 16 := by
  unfold nameR at h
  simp only [Bool.and_eq_true, decide_eq_true_eq] at h
  have := h.1.2
  rw [str_len] at this
  exact this
theorem back_size {s : ByteArray} (h : backR s = true) : s.size ≤ 16 := by
  unfold backR at h
  rw [Bool.or_eq_true] at h
  rcases h with h | h
  · have : s.data.toList = [] := by simpa using h
    rw [← str_len, this]; simp
  · exact name_size h
theorem size_low {n c : Int} (h : sizeR n c = true) : 0 ≤ n ∧ n ≤ 4096 := by
  unfold sizeR at h
  simp only [Bool.and_eq_true, decide_eq_true_eq] at h
  exact h.1
theorem rshots_each {c : Int} {S : List U} : ∀ {r : List U} {i : Int}, rshotsR c S i r = true → ∀ s ∈ r, nameR (e0 s).str = true ∧ sizeR (e1 s).int c = true
  | [], _, _, s, hs => by cases hs
  | x :: r, i, h, s, hs => by
    rw [rshotsR] at h
    simp only [Bool.and_eq_true] at h
    rcases List.mem_cons.1 hs with rfl | hs
    · exact ⟨h.1.1.1.1, h.1.1.2⟩
    · exact rshots_each h.2 s hs
theorem rmaps_each {M : List U} : ∀ {r : List U} {i : Int}, rmapsR M i r = true → ∀ s ∈ r, nameR (e0 s).str = true ∧ spansR (-1) (e2 s).list = true ∧ lastR (e2 s).list = true
  | [], _, _, s, hs => by cases hs
  | x :: r, i, h, s, hs => by
    rw [rmapsR] at h
    simp only [Bool.and_eq_true] at h
    rcases List.mem_cons.1 hs with rfl | hs
    · exact ⟨h.1.1.1.1, h.1.1.2, h.1.2⟩
    · exact rmaps_each h.2 s hs
theorem counts_each : ∀ {r : List U}, countsR r = true → ∀ s ∈ r, cntOk s
  | [], _, s, hs => by cases hs
  | x :: r, h, s, hs => by
    rw [countsR] at h
    simp only [Bool.and_eq_true, decide_eq_true_eq] at h
    rcases List.mem_cons.1 hs with rfl | hs
    · exact ⟨h.1.1, h.1.2⟩
    · exact counts_each h.2 s hs
abbrev topE (L : List U) : Int := (e1 (U.at L (L.length - 1))).int
theorem spans_up : ∀ (L : List U) (last : Int), spansR last L = true → (L = [] ∨ last + L.length ≤ topE L) ∧ ∀ s ∈ L, 0 ≤ (e0 s).int ∧ (e0 s).int < (e1 s).int ∧ (e1 s).int ≤ topE L
  | [], _, _ => ⟨.inl rfl, fun s hs => by cases hs⟩
  | x :: r, last, h => by
    rw [spansR] at h
    unfold spanMay at h
    simp only [Bool.and_eq_true, decide_eq_true_eq] at h
    obtain ⟨⟨⟨⟨h1, h2⟩, h3⟩, h4⟩, h5⟩ := h
    obtain ⟨g1, g2⟩ := spans_up r _ h5
    by_cases hr : r = []
    · subst hr
      have ht : topE [x] = (e1 x).int := rfl
      refine ⟨.inr (by rw [ht]; simp; omega), fun s hs => ?_⟩
      have : s = x := by simpa using hs
      subst this
      exact ⟨h1, h2, by rw [ht]; omega⟩
    · have ht : topE (x :: r) = topE r := by
        unfold topE U.at
        cases r with
        | nil => exact absurd rfl hr
        | cons y s => simp
      have g1 := g1.resolve_left hr
      rw [ht]
      refine ⟨.inr (by rw [List.length_cons]; omega), fun s hs => ?_⟩
      rcases List.mem_cons.1 hs with rfl | hs
      · exact ⟨h1, h2, by omega⟩
      · exact g2 s hs
theorem span_ok {L : List U} (h : spansR (-1) L = true) (hl : lastR L = true) : L.length ≤ 65535 ∧ ∀ s ∈ L, spanOk s := by
  obtain ⟨g1, g2⟩ := spans_up L _ h
  by_cases h0 : L = []
  · subst h0; exact ⟨by simp, fun s hs => by cases hs⟩
  · have hp : 0 < L.length := List.length_pos_iff.2 h0
    have ht : topE L ≤ 4096 := by
      unfold lastR at hl
      rw [decide_eq_true hp] at hl
      simpa using hl
    have g1 := g1.resolve_left h0
    refine ⟨by omega, fun s hs => ?_⟩
    have := g2 s hs
    exact ⟨this.1, by omega, by omega, by omega⟩
theorem rmput_ok : SpecFP PR 13 mputP mputS := fun fn us hfn hpre => by
  have hf : PR.funcs[(13 : Nat)]? = some Try.f13 := by kernel_rfl
  rw [hf] at hfn; cases hfn
  refine fn_okH (C := rmputC) (Ctx.Ok.withCalm (mkC_ok eqs0_ok mixed_ok (.cons rmeta_ok (.consP rtput_ok .nil)) (.cons num2T_ok (.cons rtext_ok .nil)))) hf (by kernel_rfl) (loops_five (by kernel_rfl) rmput_loop0 rmput_loop2 rmput_loop4 rmput_loop6 rmput_loop8) fun hok => ?_
  have hp : Try.f13.params.toList = [29] := by kernel_rfl
  rw [hp] at hok
  obtain ⟨c, sz, bk, T, S, M, Q, hus⟩ : ∃ c sz bk T S M Q, us = [[c, sz, bk, T, S, M, Q]] := by
    obtain ⟨u, rfl, h1⟩ := shape1 (by kernel_rfl : Cs PR 29 = some (true, [.int .i64, .int .i64, .str, .sl false [.sl true EC], .sl true SC, .sl true BC, .sl false [.int .i64]])) hok.1
    obtain ⟨c, sz, bk, T, S, M, Q, rfl⟩ := len7 h1
    exact ⟨c, sz, bk, T, S, M, Q, rfl⟩
  subst hus
  refine .eq (rmput_tree _ c sz bk T S M Q) ?_
  unfold mputP sizeOk at hpre
  simp only [nth_zero, nth_succ] at hpre
  obtain ⟨hT, hS, hM⟩ := hpre
  unfold mputS metaX metaE
  simp only [nth_zero, nth_succ]
  rw [← rmetaR_eq hT hS]
  refine bi (fun h => by rw [nt h]; rfl) (fun h => ?_)
  have hr := nf h
  rw [hr]
  have hr2 := hr
  rw [rmetaR] at hr
  simp only [Bool.and_eq_true, decide_eq_true_eq] at hr
  obtain ⟨⟨⟨⟨⟨⟨⟨⟨⟨⟨hc0, hc6⟩, hsz⟩, hbk⟩, hS8⟩, hM8⟩, hQ⟩, _⟩, hSr⟩, hMr⟩, hQr⟩ := hr
  have hbk := back_size hbk
  have hsz := size_low hsz
  have hS2 : ∀ s ∈ S.list, shotOk s := fun s hs => by
    obtain ⟨h1, h2⟩ := rshots_each hSr s hs
    have := name_size h1
    have := size_low h2
    exact ⟨by omega, by omega, by omega, hS s hs⟩
  have hM2 : ∀ s ∈ M.list, bmapOk s := fun s hs => by
    obtain ⟨h1, h2, h3⟩ := rmaps_each hMr s hs
    have := name_size h1
    have := span_ok h2 h3
    exact ⟨by omega, this.1, this.2⟩
  have hQ2 := counts_each hQr
  have l1 := num1 c.int
  have l2 := num2 sz.int
  have l3 := textB_len bk.str
  have l4 := tabX_len c.int hT
  have l5 := num1 S.list.length
  have l6 := shotsB_len c.int S.list hS
  have l7 := num1 M.list.length
  have l8 := mapsB_len M.list hM
  have l9 := num4 Q.list.length
  have g1 : num (num [] 1 c.int) 2 sz.int = num [] 1 c.int ++ num [] 2 sz.int := num_app (good2 (by omega) (by omega))
  have g2 : textB (num (num [] 1 c.int) 2 sz.int) bk.str = num [] 1 c.int ++ num [] 2 sz.int ++ textB [] bk.str := by rw [g1]; exact text_app (by omega)
  simp only [List.drop_zero, Int.toNat_zero]
  have ht : (bif tableR T.list 4096 c.int then tputB T.list c.int else []) = tabX T.list c.int := rfl
  have g3 : num (num [] 1 c.int ++ num [] 2 sz.int ++ textB [] bk.str ++ tabX T.list c.int) 1 S.list.length = num [] 1 c.int ++ num [] 2 sz.int ++ textB [] bk.str ++ tabX T.list c.int ++ num [] 1 S.list.length := num_app (good1 (by omega) (by omega))
  have g4 : num (num [] 1 c.int ++ num [] 2 sz.int ++ textB [] bk.str ++ tabX T.list c.int ++ num [] 1 S.list.length ++ shotsB c.int S.list) 1 M.list.length = num [] 1 c.int ++ num [] 2 sz.int ++ textB [] bk.str ++ tabX T.list c.int ++ num [] 1 S.list.length ++ shotsB c.int S.list ++ num [] 1 M.list.length := num_app (good1 (by omega) (by omega))
  have g5 : num (num [] 1 c.int ++ num [] 2 sz.int ++ textB [] bk.str ++ tabX T.list c.int ++ num [] 1 S.list.length ++ shotsB c.int S.list ++ num [] 1 M.list.length ++ mapsB M.list) 4 Q.list.length = num [] 1 c.int ++ num [] 2 sz.int ++ textB [] bk.str ++ tabX T.list c.int ++ num [] 1 S.list.length ++ shotsB c.int S.list ++ num [] 1 M.list.length ++ mapsB M.list ++ num [] 4 Q.list.length := num_app (good4 (by omega) (by omega))
  rw [ht, g2, g1, g3, g4, g5]
  have hB : num [] 1 c.int ++ num [] 2 sz.int ++ textB [] bk.str ++ tabX T.list c.int ++ num [] 1 S.list.length ++ shotsB c.int S.list ++ num [] 1 M.list.length ++ mapsB M.list ++ num [] 4 Q.list.length ++ countsB Q.list = metaB c.int sz.int bk.str T.list S.list M.list Q.list := rfl
  rw [hB]
  refine ⟨by omega, by omega, by rw [List.length_append]; omega, hT, broom ?_ rfl ⟨?_, ⟨⟨by trivial, by trivial⟩, ⟨by trivial, by trivial, by trivial⟩, by trivial, hS8, by omega, by omega, hS2, ?_⟩, ?_, ⟨⟨by trivial, by trivial⟩, ⟨by trivial, by trivial, by trivial⟩, by trivial, hM8, by omega, by omega, hM2, ?_⟩, ?_, ⟨⟨by trivial, by trivial⟩, ⟨by trivial, by trivial, by trivial⟩, by trivial, hQ, by omega, by omega, hQ2, ?_⟩, ?_⟩⟩
  all_goals try (simp only [List.length_append, room]; omega)
  refine bi (fun h => ?_) (fun h => ?_)
  · rw [show metaL c.int sz.int bk.str T.list S.list M.list Q.list = true from h]; rfl
  · rw [show metaL c.int sz.int bk.str T.list S.list M.list Q.list = false from h]; rfl
end Go.Mat

/-
  TREES 17: the statements' limits; the law of metas as bytes. Conditions: none.
-/
namespace Go.Mat
open Go Go.Den Go.Proofs
/-- law8.Great -/
def greatN (n : Int) : List U → Int
  | [] => n
  | l :: r => bif decide (n ≤ 6000) then greatN (n + 1 + (bif decide (6000 < (l.list.length : Int)) then (6000 : Int) else (l.list.length : Int))) r else n
def greatT (L : List U) : Bool := decide (greatN 0 L > 6000)
def greatS : List (List U) → List (List U) := fun us => [[.b (greatT (nth (.i 0) (nth [] us 0) 0).list)]]
noncomputable def greatLoop : LoopF := fun _ svs os k => match svs, os with
  | [.val (.int .i64) i, .val (.int .i64) n, .ptr p o], [.box [.val (.sl false [.sl true ec]) L]] =>
    (p = 128 ∧ o = 0 ∧ ec = EC ∧ n = .i n.int ∧ 0 ≤ i.int ∧ i.int ≤ L.list.length ∧ 0 ≤ n.int ∧ n.int ≤ 20000) ∧
    k (.exit 0) ⟨[(3, vi (.i (greatN n.int (L.list.drop i.int.toNat))))], []⟩
  | _, _ => False
noncomputable def greatC : Ctx := mkC PR eqs0 fnsNil trsNil (loopCons 0 [4, 3, 1] [128] greatLoop noLoops) (outCons 0 [3] [] noOut) noOut
theorem great_round (pan : KP) (μ : Mu) (N : Nat) (k : KE) (i n L : U) : (exec (greatC.panics pan) (loopBody Try.f20 0) 0 ⟨[(4, vi i), (3, vi n), (1, .ptr 128 0)], [(128, .box [vl (.sl true EC) L])]⟩ (again PR (some ([3], [])) none pan [4, 3, 1] [128] greatLoop μ N k)) = (bif decide (U.int i < (↑(List.length (U.list L)) : Int)) then bif decide (U.int n ≤ (6000 : Int)) then bif decide ((0 : Int) ≤ U.int i ∧ U.int i < (↑(List.length (U.list L)) : Int)) then bif Nat.blt (μ 
  [SV.val (Ct.int IntKind.i64) (U.i (IntKind.wrap IntKind.i64 (U.int i + (1 : Int)))), SV.val (Ct.int IntKind.i64) (U.i (IntKind.wrap IntKind.i64 (IntKind.wrap IntKind.i64 (U.int n + (1 : Int)) + bif decide 
  ((6000 : Int) < (↑(List.length (U.list (nth (U.i (0 : Int)) (U.list L) (Int.toNat (U.int i))))) : Int)) then (6000 : Int) else (↑(List.length (U.list (nth (U.i (0 : Int)) (U.list L) (Int.toNat (U.int i))))) 
  : Int)))), SV.ptr (nat_lit 128) (nat_lit 0)] [Obj.box [SV.val (Ct.sl false [Ct.sl true [Ct.int IntKind.i64, Ct.int IntKind.i64, Ct.int IntKind.i64, Ct.int IntKind.i64, Ct.int IntKind.u32]]) L]]) N then 
  (nat_lit 128 = nat_lit 128 ∧ nat_lit 0 = nat_lit 0 ∧ [Ct.int IntKind.i64, Ct.int IntKind.i64, Ct.int IntKind.i64, Ct.int IntKind.i64, Ct.int IntKind.u32] = [Ct.int IntKind.i64, Ct.int IntKind.i64, Ct.int 
  IntKind.i64, Ct.int IntKind.i64, Ct.int IntKind.u32] ∧ U.i (IntKind.wrap IntKind.i64 (IntKind.wrap IntKind.i64 (U.int n + (1 : Int)) + bif decide ((6000 : Int) < (↑(List.length (U.list (nth (U.i (0 : Int)) 
  (U.list L) (Int.toNat (U.int i))))) : Int)) then (6000 : Int) else (↑(List.length (U.list (nth (U.i (0 : Int)) (U.list L) (Int.toNat (U.int i))))) : Int))) = U.i (IntKind.wrap IntKind.i64 (IntKind.wrap 
  IntKind.i64 (U.int n + (1 : Int)) + bif decide ((6000 : Int) < (↑(List.length (U.list (nth (U.i (0 : Int)) (U.list L) (Int.toNat (U.int i))))) : Int)) then (6000 : Int) else (↑(List.length (U.list (nth 
  (U.i (0 : Int)) (U.list L) (Int.toNat (U.int i))))) : Int))) ∧ (0 : Int) ≤ IntKind.wrap IntKind.i64 (U.int i + (1 : Int)) ∧ IntKind.wrap IntKind.i64 (U.int i + (1 : Int)) ≤ (↑(List.length (U.list L)) : 
  Int) ∧ (0 : Int) ≤ IntKind.wrap IntKind.i64 (IntKind.wrap IntKind.i64 (U.int n + (1 : Int)) + bif decide ((6000 : Int) < (↑(List.length (U.list (nth (U.i (0 : Int)) (U.list L) (Int.toNat (U.int i))))) 
  : Int)) then (6000 : Int) else (↑(List.length (U.list (nth (U.i (0 : Int)) (U.list L) (Int.toNat (U.int i))))) : Int)) ∧ IntKind.wrap IntKind.i64 (IntKind.wrap IntKind.i64 (U.int n + (1 : Int)) + bif decide 
  ((6000 : Int) < (↑(List.length (U.list (nth (U.i (0 : Int)) (U.list L) (Int.toNat (U.int i))))) : Int)) then (6000 : Int) else (↑(List.length (U.list (nth (U.i (0 : Int)) (U.list L) (Int.toNat (U.int i))))) 
  : Int)) ≤ (20000 : Int)) ∧ k (Ex.exit (nat_lit 0)) (St.mk [(nat_lit 3, SV.val (Ct.int IntKind.i64) (U.i (greatN (IntKind.wrap IntKind.i64 (IntKind.wrap IntKind.i64 (U.int n + (1 : Int)) + bif decide ((6000 
  : Int) < (↑(List.length (U.list (nth (U.i (0 : Int)) (U.list L) (Int.toNat (U.int i))))) : Int)) then (6000 : Int) else (↑(List.length (U.list (nth (U.i (0 : Int)) (U.list L) (Int.toNat (U.int i))))) : 
  Int))) (List.drop (Int.toNat (IntKind.wrap IntKind.i64 (U.int i + (1 : Int)))) (U.list L)))))] []) else False else False else k (Ex.exit (nat_lit 0)) (St.mk [(nat_lit 3, SV.val (Ct.int IntKind.i64) n)] 
  []) else k (Ex.exit (nat_lit 0)) (St.mk [(nat_lit 3, SV.val (Ct.int IntKind.i64) n)] [])) := by kernel_rfl
theorem great_tree (R : RF) (L : U) : (run greatC Try.f20 [[L]] R) = ((nat_lit 128 = nat_lit 128 ∧ nat_lit 0 = nat_lit 0 ∧ [Ct.int IntKind.i64, Ct.int IntKind.i64, Ct.int IntKind.i64, Ct.int IntKind.i64, Ct.int IntKind.u32] = [Ct.int IntKind.i64, Ct.int IntKind.i64, Ct.int 
  IntKind.i64, Ct.int IntKind.i64, Ct.int IntKind.u32] ∧ U.i (0 : Int) = U.i (0 : Int) ∧ (0 : Int) ≤ (0 : Int) ∧ (0 : Int) ≤ (↑(List.length (U.list L)) : Int) ∧ (0 : Int) ≤ (0 : Int) ∧ (0 : Int) ≤ (20000 
  : Int)) ∧ R [[U.b (decide (greatN (0 : Int) (List.drop (Int.toNat (0 : Int)) (U.list L)) > (6000 : Int)))]]) := by kernel_rfl
/-- law9.Great -/
def shotsG : List U → Bool
  | [] => false
  | s :: r => greatT (e2 s).list || decide (((e0 s).str.size : Int) > 1000) || shotsG r
def mapsG : List U → Bool
  | [] => false
  | b :: r => decide (((e2 b).list.length : Int) > 500) || decide (((e0 b).str.size : Int) > 1000) || mapsG r
def metaG (bk T S M Q : U) : Bool := greatT T.list || decide ((S.list.length : Int) > 20) || decide ((M.list.length : Int) > 20) || decide ((Q.list.length : Int) > 20000) || decide ((bk.str.size : Int) > 1000) || shotsG S.list || mapsG M.list
def metaGS : List (List U) → List (List U) := fun us => [[.b (metaG (nth (.i 0) (nth [] us 0) 2) (nth (.i 0) (nth [] us 0) 3) (nth (.i 0) (nth [] us 0) 4) (nth (.i 0) (nth [] us 0) 5) (nth (.i 0) (nth [] us 0) 6))]]
noncomputable def metaGLoop0 : LoopF := fun _ svs os k => match svs, os with
  | [.val (.int .i64) i, .ptr p o], [.box [.val (.int .i64) c, .val (.int .i64) sz, .val .str bk, .val (.sl false [.sl true x1]) T, .val (.sl true x2) S, .val (.sl true x3) M, .val (.sl false [.int .i64]) Q]] =>
    ((p = 128 ∧ o = 0) ∧ (x1 = EC ∧ x2 = SC ∧ x3 = BC) ∧ S.list.length ≤ 20 ∧ 0 ≤ i.int ∧ i.int ≤ S.list.length) ∧
    (bif shotsG (S.list.drop i.int.toNat) then k .ret ⟨[(2, vb (.b true))], []⟩ else k (.exit 0) ⟨[(1, .ptr 128 0)], [(128, .box (mCells c sz bk T S M Q))]⟩)
  | _, _ => False
noncomputable def metaGLoop2 : LoopF := fun _ svs os k => match svs, os with
  | [.val (.int .i64) i, .ptr p o], [.box [.val (.int .i64) c, .val (.int .i64) sz, .val .str bk, .val (.sl false [.sl true x1]) T, .val (.sl true x2) S, .val (.sl true x3) M, .val (.sl false [.int .i64]) Q]] =>
    ((p = 128 ∧ o = 0) ∧ (x1 = EC ∧ x2 = SC ∧ x3 = BC) ∧ M.list.length ≤ 20 ∧ 0 ≤ i.int ∧ i.int ≤ M.list.length) ∧
    (bif mapsG (M.list.drop i.int.toNat) then k .ret ⟨[(2, vb (.b true))], []⟩ else k (.exit 2) ⟨[], []⟩)
  | _, _ => False
noncomputable def metaGC : Ctx := mkC PR eqs0 (fnsCons 20 greatS fnsNil) trsNil (loopCons 2 [4, 1] [128] metaGLoop2 (loopCons 0 [3, 1] [128] metaGLoop0 noLoops)) (outCons 2 [] [] (outCons 0 [1] [128] (outCons 1048578 [2] [] (outCons 1048576 [2] [] noOut)))) noOut
theorem metaG_round0 (pan : KP) (μ : Mu) (N : Nat) (k : KE) (i c sz bk T S M Q : U) : (exec (metaGC.panics pan) (loopBody Try.f10 0) 0 ⟨[(3, vi i), (1, .ptr 128 0)], [(128, .box (mCells c sz bk T S M Q))]⟩ (again PR (some ([1], [128])) (some ([2], [])) pan [3, 1] [128] metaGLoop0 μ N k)) = (bif decide (U.int i < (↑(List.length (U.list S)) : Int)) then bif decide ((0 : Int) ≤ U.int i ∧ U.int i < (↑(List.length (U.list S)) : Int)) then bif greatT (U.list (nth (U.i (0 : Int)) (List.drop (2 : 
  Nat) (U.list (nth (U.i (0 : Int)) (U.list S) (Int.toNat (U.int i))))) (0 : Nat))) then k Ex.ret (St.mk [(nat_lit 2, SV.val Ct.bool (U.b true))] []) else bif decide ((0 : Int) ≤ U.int i ∧ U.int i < (↑(List.length 
  (U.list S)) : Int)) then bif decide ((↑(ByteArray.size (U.str (nth (U.i (0 : Int)) (List.drop (0 : Nat) (U.list (nth (U.i (0 : Int)) (U.list S) (Int.toNat (U.int i))))) (0 : Nat)))) : Int) > (1000 : Int)) 
  then k Ex.ret (St.mk [(nat_lit 2, SV.val Ct.bool (U.b true))] []) else bif Nat.blt (μ [SV.val (Ct.int IntKind.i64) (U.i (IntKind.wrap IntKind.i64 (U.int i + (1 : Int)))), SV.ptr (nat_lit 128) (nat_lit 
  0)] [Obj.box [SV.val (Ct.int IntKind.i64) c, SV.val (Ct.int IntKind.i64) sz, SV.val Ct.str bk, SV.val (Ct.sl false [Ct.sl true [Ct.int IntKind.i64, Ct.int IntKind.i64, Ct.int IntKind.i64, Ct.int IntKind.i64, 
  Ct.int IntKind.u32]]) T, SV.val (Ct.sl true [Ct.str, Ct.int IntKind.i64, Ct.sl false [Ct.sl true [Ct.int IntKind.i64, Ct.int IntKind.i64, Ct.int IntKind.i64, Ct.int IntKind.i64, Ct.int IntKind.u32]]]) 
  S, SV.val (Ct.sl true [Ct.str, Ct.bool, Ct.sl true [Ct.int IntKind.i64, Ct.int IntKind.i64]]) M, SV.val (Ct.sl false [Ct.int IntKind.i64]) Q]]) N then ((nat_lit 128 = nat_lit 128 ∧ nat_lit 0 = nat_lit 
  0) ∧ ([Ct.int IntKind.i64, Ct.int IntKind.i64, Ct.int IntKind.i64, Ct.int IntKind.i64, Ct.int IntKind.u32] = [Ct.int IntKind.i64, Ct.int IntKind.i64, Ct.int IntKind.i64, Ct.int IntKind.i64, Ct.int IntKind.u32] 
  ∧ [Ct.str, Ct.int IntKind.i64, Ct.sl false [Ct.sl true [Ct.int IntKind.i64, Ct.int IntKind.i64, Ct.int IntKind.i64, Ct.int IntKind.i64, Ct.int IntKind.u32]]] = [Ct.str, Ct.int IntKind.i64, Ct.sl false 
  [Ct.sl true [Ct.int IntKind.i64, Ct.int IntKind.i64, Ct.int IntKind.i64, Ct.int IntKind.i64, Ct.int IntKind.u32]]] ∧ [Ct.str, Ct.bool, Ct.sl true [Ct.int IntKind.i64, Ct.int IntKind.i64]] = [Ct.str, Ct.bool, 
  Ct.sl true [Ct.int IntKind.i64, Ct.int IntKind.i64]]) ∧ List.length (U.list S) ≤ (20 : Nat) ∧ (0 : Int) ≤ IntKind.wrap IntKind.i64 (U.int i + (1 : Int)) ∧ IntKind.wrap IntKind.i64 (U.int i + (1 : Int)) 
  ≤ (↑(List.length (U.list S)) : Int)) ∧ bif shotsG (List.drop (Int.toNat (IntKind.wrap IntKind.i64 (U.int i + (1 : Int)))) (U.list S)) then k Ex.ret (St.mk [(nat_lit 2, SV.val Ct.bool (U.b true))] []) else 
  k (Ex.exit (nat_lit 0)) (St.mk [(nat_lit 1, SV.ptr (nat_lit 128) (nat_lit 0))] [(nat_lit 128, Obj.box [SV.val (Ct.int IntKind.i64) c, SV.val (Ct.int IntKind.i64) sz, SV.val Ct.str bk, SV.val (Ct.sl false 
  [Ct.sl true [Ct.int IntKind.i64, Ct.int IntKind.i64, Ct.int IntKind.i64, Ct.int IntKind.i64, Ct.int IntKind.u32]]) T, SV.val (Ct.sl true [Ct.str, Ct.int IntKind.i64, Ct.sl false [Ct.sl true [Ct.int IntKind.i64, 
  Ct.int IntKind.i64, Ct.int IntKind.i64, Ct.int IntKind.i64, Ct.int IntKind.u32]]]) S, SV.val (Ct.sl true [Ct.str, Ct.bool, Ct.sl true [Ct.int IntKind.i64, Ct.int IntKind.i64]]) M, SV.val (Ct.sl false [Ct.int 
  IntKind.i64]) Q])]) else False else False else False else k (Ex.exit (nat_lit 0)) (St.mk [(nat_lit 1, SV.ptr (nat_lit 128) (nat_lit 0))] [(nat_lit 128, Obj.box [SV.val (Ct.int IntKind.i64) c, SV.val (Ct.int 
  IntKind.i64) sz, SV.val Ct.str bk, SV.val (Ct.sl false [Ct.sl true [Ct.int IntKind.i64, Ct.int IntKind.i64, Ct.int IntKind.i64, Ct.int IntKind.i64, Ct.int IntKind.u32]]) T, SV.val (Ct.sl true [Ct.str, 
  Ct.int IntKind.i64, Ct.sl false [Ct.sl true [Ct.int IntKind.i64, Ct.int IntKind.i64, Ct.int IntKind.i64, Ct.int IntKind.i64, Ct.int IntKind.u32]]]) S, SV.val (Ct.sl true [Ct.str, Ct.bool, Ct.sl true [Ct.int 
  IntKind.i64, Ct.int IntKind.i64]]) M, SV.val (Ct.sl false [Ct.int IntKind.i64]) Q])])) := by kernel_rfl
theorem metaG_round2 (pan : KP) (μ : Mu) (N : Nat) (k : KE) (i c sz bk T S M Q : U) : (exec (metaGC.panics pan) (loopBody Try.f10 1) 2 ⟨[(4, vi i), (1, .ptr 128 0)], [(128, .box (mCells c sz bk T S M Q))]⟩ (again PR (some ([], [])) (some ([2], [])) pan [4, 1] [128] metaGLoop2 μ N k)) = (bif decide (U.int i < (↑(List.length (U.list M)) : Int)) then bif decide ((0 : Int) ≤ U.int i ∧ U.int i < (↑(List.length (U.list M)) : Int)) then bif decide ((↑(List.length (U.list (nth (U.i (0 : Int)) 
  (List.drop (2 : Nat) (U.list (nth (U.i (0 : Int)) (U.list M) (Int.toNat (U.int i))))) (0 : Nat)))) : Int) > (500 : Int)) then k Ex.ret (St.mk [(nat_lit 2, SV.val Ct.bool (U.b true))] []) else bif decide 
  ((0 : Int) ≤ U.int i ∧ U.int i < (↑(List.length (U.list M)) : Int)) then bif decide ((↑(ByteArray.size (U.str (nth (U.i (0 : Int)) (List.drop (0 : Nat) (U.list (nth (U.i (0 : Int)) (U.list M) (Int.toNat 
  (U.int i))))) (0 : Nat)))) : Int) > (1000 : Int)) then k Ex.ret (St.mk [(nat_lit 2, SV.val Ct.bool (U.b true))] []) else bif Nat.blt (μ [SV.val (Ct.int IntKind.i64) (U.i (IntKind.wrap IntKind.i64 (U.int 
  i + (1 : Int)))), SV.ptr (nat_lit 128) (nat_lit 0)] [Obj.box [SV.val (Ct.int IntKind.i64) c, SV.val (Ct.int IntKind.i64) sz, SV.val Ct.str bk, SV.val (Ct.sl false [Ct.sl true [Ct.int IntKind.i64, Ct.int 
  IntKind.i64, Ct.int IntKind.i64, Ct.int IntKind.i64, Ct.int IntKind.u32]]) T, SV.val (Ct.sl true [Ct.str, Ct.int IntKind.i64, Ct.sl false [Ct.sl true [Ct.int IntKind.i64, Ct.int IntKind.i64, Ct.int IntKind.i64, 
  Ct.int IntKind.i64, Ct.int IntKind.u32]]]) S, SV.val (Ct.sl true [Ct.str, Ct.bool, Ct.sl true [Ct.int IntKind.i64, Ct.int IntKind.i64]]) M, SV.val (Ct.sl false [Ct.int IntKind.i64]) Q]]) N then ((nat_lit 
  128 = nat_lit 128 ∧ nat_lit 0 = nat_lit 0) ∧ ([Ct.int IntKind.i64, Ct.int IntKind.i64, Ct.int IntKind.i64, Ct.int IntKind.i64, Ct.int IntKind.u32] = [Ct.int IntKind.i64, Ct.int IntKind.i64, Ct.int IntKind.i64, 
  Ct.int IntKind.i64, Ct.int IntKind.u32] ∧ [Ct.str, Ct.int IntKind.i64, Ct.sl false [Ct.sl true [Ct.int IntKind.i64, Ct.int IntKind.i64, Ct.int IntKind.i64, Ct.int IntKind.i64, Ct.int IntKind.u32]]] = [Ct.str, 
  Ct.int IntKind.i64, Ct.sl false [Ct.sl true [Ct.int IntKind.i64, Ct.int IntKind.i64, Ct.int IntKind.i64, Ct.int IntKind.i64, Ct.int IntKind.u32]]] ∧ [Ct.str, Ct.bool, Ct.sl true [Ct.int IntKind.i64, Ct.int 
  IntKind.i64]] = [Ct.str, Ct.bool, Ct.sl true [Ct.int IntKind.i64, Ct.int IntKind.i64]]) ∧ List.length (U.list M) ≤ (20 : Nat) ∧ (0 : Int) ≤ IntKind.wrap IntKind.i64 (U.int i + (1 : Int)) ∧ IntKind.wrap 
  IntKind.i64 (U.int i + (1 : Int)) ≤ (↑(List.length (U.list M)) : Int)) ∧ bif mapsG (List.drop (Int.toNat (IntKind.wrap IntKind.i64 (U.int i + (1 : Int)))) (U.list M)) then k Ex.ret (St.mk [(nat_lit 2, 
  SV.val Ct.bool (U.b true))] []) else k (Ex.exit (nat_lit 2)) (St.mk [] []) else False else False else False else k (Ex.exit (nat_lit 2)) (St.mk [] [])) := by kernel_rfl
theorem metaG_tree (R : RF) (c sz bk T S M Q : U) : (run metaGC Try.f10 [[c, sz, bk, T, S, M, Q]] R) = (bif greatT (U.list T) then R [[U.b true]] else bif decide ((↑(List.length (U.list S)) : Int) > (20 : Int)) then R [[U.b true]] else bif decide ((↑(List.length (U.list M)) : Int) > (20 : Int)) then R [[U.b 
  true]] else bif decide ((↑(List.length (U.list Q)) : Int) > (20000 : Int)) then R [[U.b true]] else bif decide ((↑(ByteArray.size (U.str bk)) : Int) > (1000 : Int)) then R [[U.b true]] else ((nat_lit 128 
  = nat_lit 128 ∧ nat_lit 0 = nat_lit 0) ∧ ([Ct.int IntKind.i64, Ct.int IntKind.i64, Ct.int IntKind.i64, Ct.int IntKind.i64, Ct.int IntKind.u32] = [Ct.int IntKind.i64, Ct.int IntKind.i64, Ct.int IntKind.i64, 
  Ct.int IntKind.i64, Ct.int IntKind.u32] ∧ [Ct.str, Ct.int IntKind.i64, Ct.sl false [Ct.sl true [Ct.int IntKind.i64, Ct.int IntKind.i64, Ct.int IntKind.i64, Ct.int IntKind.i64, Ct.int IntKind.u32]]] = [Ct.str, 
  Ct.int IntKind.i64, Ct.sl false [Ct.sl true [Ct.int IntKind.i64, Ct.int IntKind.i64, Ct.int IntKind.i64, Ct.int IntKind.i64, Ct.int IntKind.u32]]] ∧ [Ct.str, Ct.bool, Ct.sl true [Ct.int IntKind.i64, Ct.int 
  IntKind.i64]] = [Ct.str, Ct.bool, Ct.sl true [Ct.int IntKind.i64, Ct.int IntKind.i64]]) ∧ List.length (U.list S) ≤ (20 : Nat) ∧ (0 : Int) ≤ (0 : Int) ∧ (0 : Int) ≤ (↑(List.length (U.list S)) : Int)) ∧ 
  bif shotsG (List.drop (Int.toNat (0 : Int)) (U.list S)) then R [[U.b true]] else ((nat_lit 128 = nat_lit 128 ∧ nat_lit 0 = nat_lit 0) ∧ ([Ct.int IntKind.i64, Ct.int IntKind.i64, Ct.int IntKind.i64, Ct.int 
  IntKind.i64, Ct.int IntKind.u32] = [Ct.int IntKind.i64, Ct.int IntKind.i64, Ct.int IntKind.i64, Ct.int IntKind.i64, Ct.int IntKind.u32] ∧ [Ct.str, Ct.int IntKind.i64, Ct.sl false [Ct.sl true [Ct.int IntKind.i64, 
  Ct.int IntKind.i64, Ct.int IntKind.i64, Ct.int IntKind.i64, Ct.int IntKind.u32]]] = [Ct.str, Ct.int IntKind.i64, Ct.sl false [Ct.sl true [Ct.int IntKind.i64, Ct.int IntKind.i64, Ct.int IntKind.i64, Ct.int 
  IntKind.i64, Ct.int IntKind.u32]]] ∧ [Ct.str, Ct.bool, Ct.sl true [Ct.int IntKind.i64, Ct.int IntKind.i64]] = [Ct.str, Ct.bool, Ct.sl true [Ct.int IntKind.i64, Ct.int IntKind.i64]]) ∧ List.length (U.list 
  M) ≤ (20 : Nat) ∧ (0 : Int) ≤ (0 : Int) ∧ (0 : Int) ≤ (↑(List.length (U.list M)) : Int)) ∧ bif mapsG (List.drop (Int.toNat (0 : Int)) (U.list M)) then R [[U.b true]] else R [[U.b false]]) := by kernel_rfl
def errS : List (List U) → List (List U) := fun us => [[nth (.i 0) (nth [] us 0) 0]]
def trueS : List (List U) → List (List U) := fun _ => [[.b true]]
theorem err_tree (R : RF) (e : U) : (run K0 Try.f14 [[e]] R) = (R [[e]]) := by kernel_rfl
noncomputable def awakeC : Ctx := mkC PR eqs0 (fnsConsP 12 mputP mputS (fnsCons 14 errS fnsNil)) trsNil noLoops noOut noOut
theorem awake_tree (R : RF) : (run awakeC Try.f11 [] R) = (mputP [[U.i (0 : Int), U.i (0 : Int), U.s (ByteArray.mk #[]), U.l [], U.l [], U.l [], U.l []]] ∧ R [[U.b ((↑(List.length (metaX (U.i (0 : Int)) (U.i (0 : Int)) (U.s (ByteArray.mk #[])) (U.l []) (U.l []) 
  (U.l []) (U.l []))) : Int) == (13 : Int))]]) := by kernel_rfl
noncomputable def putsC : Ctx := mkC PR eqs0 (fnsConsP 12 mputP mputS (fnsConsP 13 mputP mputS (fnsCons 14 errS (fnsCons 10 metaGS (fnsCons 11 trueS fnsNil))))) trsNil noLoops noOut noOut
theorem puts_tree (R : RF) (c sz bk T S M Q : U) : (run putsC Try.f3 [[c, sz, bk, T, S, M, Q]] R) = (bif metaG bk T S M Q then R [[U.b true]] else mputP [[c, sz, bk, T, S, M, Q]] ∧ mputP [[c, sz, bk, T, S, M, Q]] ∧ bif ByteArray.toList (ByteArray.mk (List.toArray (List.map (fun x => UInt8.ofNat (Int.toNat 
  (U.int x))) (metaX c sz bk T S M Q)))) == ByteArray.toList (ByteArray.mk (List.toArray (List.map (fun x => UInt8.ofNat (Int.toNat (U.int x))) (metaX c sz bk T S M Q)))) then bif metaE c sz bk T S M Q == 
  metaE c sz bk T S M Q then R [[U.b true]] else R [[U.b false]] else R [[U.b false]]) := by kernel_rfl
end Go.Mat

/-
  WALKS 17: the statements' limits; the law of metas as bytes. Conditions: none.
-/
namespace Go.Mat
open Go Go.Den Go.Proofs

theorem great_loop : LoopOk greatC 0 (loopBody Try.f20 0) := by
  refine loopOk_of (F := greatLoop) (ts := [4, 3, 1]) (os := [128]) rfl (fun svs os => match svs, os with | .val _ i :: _, [.box [.val _ L]] => ((L.list.length : Int) - i.int).toNat | _, _ => 0) ?_
  intro pan svs os k ho1 ho2 h
  unfold greatLoop at h
  split at h
  · rename_i i n p o ec L
    obtain ⟨⟨rfl, rfl, rfl, hnn, h0, hi, hn0, hn⟩, hk⟩ := h
    have hL : L.list.length ≤ maxLen := ho2.1.1.1
    unfold maxLen at hL
    refine .eq (great_round pan _ _ k i n L) ?_
    refine bd (fun hlt => bd (fun h6 => dt ⟨h0, by omega⟩ ?_) (fun h6 => ?_)) (fun hlt => ?_)
    · rw [drop_at (by omega), greatN, decide_eq_true h6, cond_true] at hk
      simp only [U.at] at hk
      have hm : (0 : Int) ≤ (bif decide (6000 < ((nth (.i 0) L.list i.int.toNat).list.length : Int)) then 6000 else ((nth (.i 0) L.list i.int.toNat).list.length : Int)) ∧ (bif decide (6000 < ((nth (.i 0) L.list i.int.toNat).list.length : Int)) then 6000 else ((nth (.i 0) L.list i.int.toNat).list.length : Int)) ≤ 6000 := by
        by_cases hc : 6000 < ((nth (.i 0) L.list i.int.toNat).list.length : Int)
        · rw [decide_eq_true hc, cond_true]; omega
        · rw [decide_eq_false hc, cond_false]; omega
      generalize (bif decide (6000 < ((nth (.i 0) L.list i.int.toNat).list.length : Int)) then 6000 else ((nth (.i 0) L.list i.int.toNat).list.length : Int)) = m at hm hk ⊢
      have hw : IntKind.wrap .i64 (i.int + 1) = i.int + 1 := i64_in (by omega) (by omega)
      have hw1 : IntKind.wrap .i64 (n.int + 1) = n.int + 1 := i64_in (by omega) (by omega)
      have hw2 : IntKind.wrap .i64 (n.int + 1 + m) = n.int + 1 + m := i64_in (by omega) (by omega)
      have hc : (i.int + 1).toNat = i.int.toNat + 1 := by omega
      have hlt' : ((L.list.length : Int) - (i.int + 1)).toNat < ((L.list.length : Int) - i.int).toNat := by omega
      simp only [hw, hw1, hw2, hc]
      exact blt hlt' ⟨⟨by trivial, by trivial, by trivial, by trivial, by omega, by omega, by omega, by omega⟩, hk⟩
    · rw [drop_at (by omega), greatN, decide_eq_false h6, cond_false, ← hnn] at hk
      exact hk
    · rw [List.drop_of_length_le (by omega), greatN, ← hnn] at hk
      exact hk
  · exact h.elim
theorem great_ok : SpecF PR 20 greatS := fun fn us hfn => by
  have hf : PR.funcs[(20 : Nat)]? = some Try.f20 := by kernel_rfl
  rw [hf] at hfn; cases hfn
  refine fn_okH (C := greatC) (mkC_ok eqs0_ok mixed_ok .nil .nil) hf (by kernel_rfl) (loops_one (by kernel_rfl) great_loop) fun hok => ?_
  have hp : Try.f20.params.toList = [24] := by kernel_rfl
  rw [hp] at hok
  obtain ⟨L, hus⟩ : ∃ L, us = [[L]] := by
    obtain ⟨u, rfl, h1⟩ := shape1 (by kernel_rfl : Cs PR 24 = some (true, [.sl false [.sl true [.int .i64, .int .i64, .int .i64, .int .i64, .int .u32]]])) hok.1
    obtain ⟨L, rfl⟩ := len1 h1
    exact ⟨L, rfl⟩
  subst hus
  refine .eq (great_tree _ L) ?_
  unfold greatS greatT
  simp only [nth_zero, nth_succ]
  exact ⟨⟨by trivial, by trivial, by trivial, by trivial, by omega, by omega, by omega, by omega⟩, rfl⟩
theorem greatN_ge : ∀ (L : List U) (n : Int), greatN n L ≤ 6000 → n + L.length ≤ 6000
  | [], n, h => by simpa [greatN] using h
  | l :: r, n, h => by
    rw [greatN] at h
    by_cases hn : n ≤ 6000
    · rw [decide_eq_true hn, cond_true] at h
      have := greatN_ge r _ h
      have h0 : (0 : Int) ≤ (bif decide (6000 < (l.list.length : Int)) then 6000 else (l.list.length : Int)) := by
        cases decide (6000 < (l.list.length : Int)) <;> simp
      rw [List.length_cons]; omega
    · rw [decide_eq_false hn, cond_false] at h; omega
theorem greatT_low {L : List U} (h : greatT L = false) : L.length ≤ 6000 := by
  unfold greatT at h
  have := greatN_ge L 0 (by have := of_decide_eq_false h; omega)
  omega
theorem metaG_loop0 : LoopOk metaGC 0 (loopBody Try.f10 0) := by
  refine loopOk_of (F := metaGLoop0) (ts := [3, 1]) (os := [128]) rfl (fun svs os => match svs, os with | .val _ i :: _, [.box [_, _, _, _, .val _ S, _, _]] => ((S.list.length : Int) - i.int).toNat | _, _ => 0) ?_
  intro pan svs os k ho1 ho2 h
  unfold metaGLoop0 at h
  split at h
  · rename_i i p o c sz bk x1 T x2 S x3 M Q
    obtain ⟨⟨⟨rfl, rfl⟩, ⟨rfl, rfl, rfl⟩, hS, h0, hi⟩, hk⟩ := h
    refine .eq (metaG_round0 pan _ _ k i c sz bk T S M Q) ?_
    refine bd (fun hlt => dt ⟨h0, by omega⟩ ?_) (fun hlt => ?_)
    · rw [drop_at (by omega), shotsG] at hk
      simp only [U.at, e0, e2] at hk
      have hw : IntKind.wrap .i64 (i.int + 1) = i.int + 1 := i64_in (by omega) (by omega)
      have hc : (i.int + 1).toNat = i.int.toNat + 1 := by omega
      have hlt' : ((S.list.length : Int) - (i.int + 1)).toNat < ((S.list.length : Int) - i.int).toNat := by omega
      simp only [nth_drop, Nat.add_zero, hw, hc]
      refine bi (fun h1 => ?_) (fun h1 => dt ⟨h0, by omega⟩ (bi (fun h2 => ?_) (fun h2 => ?_)))
      · rw [h1] at hk; exact hk
      · rw [h1, h2] at hk; exact hk
      · rw [h1, h2] at hk
        exact blt hlt' ⟨⟨⟨by trivial, by trivial⟩, ⟨by trivial, by trivial, by trivial⟩, hS, by omega, by omega⟩, hk⟩
    · rw [List.drop_of_length_le (by omega), shotsG] at hk
      exact hk
  · exact h.elim
theorem metaG_loop2 : LoopOk metaGC 2 (loopBody Try.f10 1) := by
  refine loopOk_of (F := metaGLoop2) (ts := [4, 1]) (os := [128]) rfl (fun svs os => match svs, os with | .val _ i :: _, [.box [_, _, _, _, _, .val _ M, _]] => ((M.list.length : Int) - i.int).toNat | _, _ => 0) ?_
  intro pan svs os k ho1 ho2 h
  unfold metaGLoop2 at h
  split at h
  · rename_i i p o c sz bk x1 T x2 S x3 M Q
    obtain ⟨⟨⟨rfl, rfl⟩, ⟨rfl, rfl, rfl⟩, hS, h0, hi⟩, hk⟩ := h
    refine .eq (metaG_round2 pan _ _ k i c sz bk T S M Q) ?_
    refine bd (fun hlt => dt ⟨h0, by omega⟩ ?_) (fun hlt => ?_)
    · rw [drop_at (by omega), mapsG] at hk
      simp only [U.at, e0, e2] at hk
      have hw : IntKind.wrap .i64 (i.int + 1) = i.int + 1 := i64_in (by omega) (by omega)
      have hc : (i.int + 1).toNat = i.int.toNat + 1 := by omega
      have hlt' : ((M.list.length : Int) - (i.int + 1)).toNat < ((M.list.length : Int) - i.int).toNat := by omega
      simp only [nth_drop, Nat.add_zero, hw, hc]
      refine bi (fun h1 => ?_) (fun h1 => dt ⟨h0, by omega⟩ (bi (fun h2 => ?_) (fun h2 => ?_)))
      · rw [h1] at hk; exact hk
      · rw [h1, h2] at hk; exact hk
      · rw [h1, h2] at hk
        exact blt hlt' ⟨⟨⟨by trivial, by trivial⟩, ⟨by trivial, by trivial, by trivial⟩, hS, by omega, by omega⟩, hk⟩
    · rw [List.drop_of_length_le (by omega), mapsG] at hk
      exact hk
  · exact h.elim
theorem metaG_ok : SpecF PR 10 metaGS := fun fn us hfn => by
  have hf : PR.funcs[(10 : Nat)]? = some Try.f10 := by kernel_rfl
  rw [hf] at hfn; cases hfn
  refine fn_okH (C := metaGC) (mkC_ok eqs0_ok mixed_ok (.cons great_ok .nil) .nil) hf (by kernel_rfl) (loops_two (by kernel_rfl) metaG_loop0 metaG_loop2) fun hok => ?_
  have hp : Try.f10.params.toList = [29] := by kernel_rfl
  rw [hp] at hok
  obtain ⟨c, sz, bk, T, S, M, Q, hus⟩ : ∃ c sz bk T S M Q, us = [[c, sz, bk, T, S, M, Q]] := by
    obtain ⟨u, rfl, h1⟩ := shape1 (by kernel_rfl : Cs PR 29 = some (true, [.int .i64, .int .i64, .str, .sl false [.sl true EC], .sl true SC, .sl true BC, .sl false [.int .i64]])) hok.1
    obtain ⟨c, sz, bk, T, S, M, Q, rfl⟩ := len7 h1
    exact ⟨c, sz, bk, T, S, M, Q, rfl⟩
  subst hus
  refine .eq (metaG_tree _ c sz bk T S M Q) ?_
  have hS : metaGS [[c, sz, bk, T, S, M, Q]] = [[.b (metaG bk T S M Q)]] := rfl
  rw [hS]
  unfold metaG
  simp only [Int.toNat_zero, List.drop_zero]
  refine bi (fun h1 => by rw [h1]; rfl) (fun h1 => bi (fun h2 => by rw [h1, h2]; rfl) (fun h2 => bi (fun h3 => by rw [h1, h2, h3]; rfl) (fun h3 => bi (fun h4 => by rw [h1, h2, h3, h4]; rfl) (fun h4 => bi (fun h5 => by rw [h1, h2, h3, h4, h5]; rfl) (fun h5 => ?_)))))
  have g2 := of_decide_eq_false h2
  have g3 := of_decide_eq_false h3
  rw [h1, h2, h3, h4, h5]
  refine ⟨⟨⟨by trivial, by trivial⟩, ⟨by trivial, by trivial, by trivial⟩, by omega, by omega, by omega⟩, bi (fun h6 => by rw [h6]; rfl) (fun h6 => ?_)⟩
  rw [h6]
  exact ⟨⟨⟨by trivial, by trivial⟩, ⟨by trivial, by trivial, by trivial⟩, by omega, by omega, by omega⟩, bi (fun h7 => by rw [h7]; rfl) (fun h7 => by rw [h7]; rfl)⟩
theorem shotsG_low : ∀ {S : List U}, shotsG S = false → ∀ s ∈ S, (e2 s).list.length ≤ 6000
  | [], _, s, hs => by cases hs
  | x :: r, h, s, hs => by
    rw [shotsG] at h
    simp only [Bool.or_eq_false_iff] at h
    rcases List.mem_cons.1 hs with rfl | hs
    · exact greatT_low h.1.1
    · exact shotsG_low h.2 s hs
theorem mapsG_low : ∀ {M : List U}, mapsG M = false → ∀ s ∈ M, (e2 s).list.length ≤ 500
  | [], _, s, hs => by cases hs
  | x :: r, h, s, hs => by
    rw [mapsG] at h
    simp only [Bool.or_eq_false_iff] at h
    rcases List.mem_cons.1 hs with rfl | hs
    · have := of_decide_eq_false h.1.1; omega
    · exact mapsG_low h.2 s hs
theorem metaG_low {bk T S M Q : U} (h : metaG bk T S M Q = false) : sizeOk T S M := by
  unfold metaG at h
  simp only [Bool.or_eq_false_iff] at h
  exact ⟨by have := greatT_low h.1.1.1.1.1.1; omega, fun s hs => by have := shotsG_low h.1.2 s hs; omega, fun s hs => by have := mapsG_low h.2 s hs; omega⟩
theorem err_ok : SpecF PR 14 errS := fun fn us hfn => by
  have hf : PR.funcs[(14 : Nat)]? = some Try.f14 := by kernel_rfl
  rw [hf] at hfn; cases hfn
  refine fn_okH (C := K0) (mkC_ok eqs0_ok mixed_ok .nil .nil) hf (by kernel_rfl) (loops_none (by kernel_rfl)) fun hok => ?_
  have hp : Try.f14.params.toList = [33] := by kernel_rfl
  rw [hp] at hok
  obtain ⟨e, hus⟩ : ∃ e, us = [[e]] := by
    obtain ⟨u, rfl, h1⟩ := shape1 (by kernel_rfl : Cs PR 33 = some (false, [.int .i64])) hok.1
    obtain ⟨e, rfl⟩ := len1 h1
    exact ⟨e, rfl⟩
  subst hus
  refine .eq (err_tree _ e) ?_
  rfl
theorem awake_ok : SpecF PR 11 trueS := fun fn us hfn => by
  have hf : PR.funcs[(11 : Nat)]? = some Try.f11 := by kernel_rfl
  rw [hf] at hfn; cases hfn
  refine fn_okH (C := awakeC) (mkC_ok eqs0_ok mixed_ok (.consP mput_ok (.cons err_ok .nil)) .nil) hf (by kernel_rfl) (loops_none (by kernel_rfl)) fun hok => ?_
  have hp : Try.f11.params.toList = [] := by kernel_rfl
  rw [hp] at hok
  have hus : us = [] := hok.1
  subst hus
  refine .eq (awake_tree _) ?_
  refine ⟨⟨by show 0 ≤ _; omega, (fun s hs => by cases hs), (fun s hs => by cases hs)⟩, ?_⟩
  show [[U.b _]] = [[U.b true]]
  rw [show (metaX (U.i 0) (U.i 0) (U.s ⟨#[]⟩) (U.l []) (U.l []) (U.l []) (U.l [])).length = 13 from by kernel_rfl]
  rfl
theorem puts_ok : SpecF PR 3 trueS := fun fn us hfn => by
  have hf : PR.funcs[(3 : Nat)]? = some Try.f3 := by kernel_rfl
  rw [hf] at hfn; cases hfn
  refine fn_okH (C := putsC) (mkC_ok eqs0_ok mixed_ok (.consP mput_ok (.consP rmput_ok (.cons err_ok (.cons metaG_ok (.cons awake_ok .nil))))) .nil) hf (by kernel_rfl) (loops_none (by kernel_rfl)) fun hok => ?_
  have hp : Try.f3.params.toList = [29] := by kernel_rfl
  rw [hp] at hok
  obtain ⟨c, sz, bk, T, S, M, Q, hus⟩ : ∃ c sz bk T S M Q, us = [[c, sz, bk, T, S, M, Q]] := by
    obtain ⟨u, rfl, h1⟩ := shape1 (by kernel_rfl : Cs PR 29 = some (true, [.int .i64, .int .i64, .str, .sl false [.sl true EC], .sl true SC, .sl true BC, .sl false [.int .i64]])) hok.1
    obtain ⟨c, sz, bk, T, S, M, Q, rfl⟩ := len7 h1
    exact ⟨c, sz, bk, T, S, M, Q, rfl⟩
  subst hus
  refine .eq (puts_tree _ c sz bk T S M Q) ?_
  refine bi (fun h => rfl) (fun h => ?_)
  have hs := metaG_low h
  exact ⟨hs, hs, bt (by simp) (bt (by simp) rfl)⟩
end Go.Mat

/-
  TREES 19: the law of a meta's length. Conditions: none.
-/
namespace Go.Mat
open Go Go.Den Go.Proofs
def leavesS : List (List U) → List (List U) := fun us => [[.i (countB (nth (.i 0) (nth [] us 0) 0).list)]]
noncomputable def leavesLoop : LoopF := fun _ svs os k => match svs, os with
  | [.val (.int .i64) i, .val (.int .i64) n, .ptr p o], [.box [.val (.sl false [.sl true ec]) L]] =>
    (p = 128 ∧ o = 0 ∧ ec = EC ∧ n = .i n.int ∧ 0 ≤ i.int ∧ i.int ≤ L.list.length ∧ 0 ≤ n.int ∧ n.int ≤ i.int) ∧
    k (.exit 0) ⟨[(3, vi (.i (n.int + countB (L.list.drop i.int.toNat))))], []⟩
  | _, _ => False
noncomputable def leavesC : Ctx := mkC PR eqs0 fnsNil trsNil (loopCons 0 [4, 3, 1] [128] leavesLoop noLoops) (outCons 0 [3] [] noOut) noOut
theorem leaves_round (pan : KP) (μ : Mu) (N : Nat) (k : KE) (i n L : U) : (exec (leavesC.panics pan) (loopBody Try.f16 0) 0 ⟨[(4, vi i), (3, vi n), (1, .ptr 128 0)], [(128, .box [vl (.sl true EC) L])]⟩ (again PR (some ([3], [])) none pan [4, 3, 1] [128] leavesLoop μ N k)) = (bif decide (U.int i < (↑(List.length (U.list L)) : Int)) then bif decide ((0 : Int) ≤ U.int i ∧ U.int i < (↑(List.length (U.list L)) : Int)) then bif decide ((↑(List.length (U.list (nth (U.i (0 : Int)) 
  (U.list L) (Int.toNat (U.int i))))) : Int) > (0 : Int)) then bif Nat.blt (μ [SV.val (Ct.int IntKind.i64) (U.i (IntKind.wrap IntKind.i64 (U.int i + (1 : Int)))), SV.val (Ct.int IntKind.i64) (U.i (IntKind.wrap 
  IntKind.i64 (U.int n + (1 : Int)))), SV.ptr (nat_lit 128) (nat_lit 0)] [Obj.box [SV.val (Ct.sl false [Ct.sl true [Ct.int IntKind.i64, Ct.int IntKind.i64, Ct.int IntKind.i64, Ct.int IntKind.i64, Ct.int 
  IntKind.u32]]) L]]) N then (nat_lit 128 = nat_lit 128 ∧ nat_lit 0 = nat_lit 0 ∧ [Ct.int IntKind.i64, Ct.int IntKind.i64, Ct.int IntKind.i64, Ct.int IntKind.i64, Ct.int IntKind.u32] = [Ct.int IntKind.i64, 
  Ct.int IntKind.i64, Ct.int IntKind.i64, Ct.int IntKind.i64, Ct.int IntKind.u32] ∧ U.i (IntKind.wrap IntKind.i64 (U.int n + (1 : Int))) = U.i (IntKind.wrap IntKind.i64 (U.int n + (1 : Int))) ∧ (0 : Int) 
  ≤ IntKind.wrap IntKind.i64 (U.int i + (1 : Int)) ∧ IntKind.wrap IntKind.i64 (U.int i + (1 : Int)) ≤ (↑(List.length (U.list L)) : Int) ∧ (0 : Int) ≤ IntKind.wrap IntKind.i64 (U.int n + (1 : Int)) ∧ IntKind.wrap 
  IntKind.i64 (U.int n + (1 : Int)) ≤ IntKind.wrap IntKind.i64 (U.int i + (1 : Int))) ∧ k (Ex.exit (nat_lit 0)) (St.mk [(nat_lit 3, SV.val (Ct.int IntKind.i64) (U.i (IntKind.wrap IntKind.i64 (U.int n + (1 
  : Int)) + countB (List.drop (Int.toNat (IntKind.wrap IntKind.i64 (U.int i + (1 : Int)))) (U.list L)))))] []) else False else bif Nat.blt (μ [SV.val (Ct.int IntKind.i64) (U.i (IntKind.wrap IntKind.i64 (U.int 
  i + (1 : Int)))), SV.val (Ct.int IntKind.i64) n, SV.ptr (nat_lit 128) (nat_lit 0)] [Obj.box [SV.val (Ct.sl false [Ct.sl true [Ct.int IntKind.i64, Ct.int IntKind.i64, Ct.int IntKind.i64, Ct.int IntKind.i64, 
  Ct.int IntKind.u32]]) L]]) N then (nat_lit 128 = nat_lit 128 ∧ nat_lit 0 = nat_lit 0 ∧ [Ct.int IntKind.i64, Ct.int IntKind.i64, Ct.int IntKind.i64, Ct.int IntKind.i64, Ct.int IntKind.u32] = [Ct.int IntKind.i64, 
  Ct.int IntKind.i64, Ct.int IntKind.i64, Ct.int IntKind.i64, Ct.int IntKind.u32] ∧ n = U.i (U.int n) ∧ (0 : Int) ≤ IntKind.wrap IntKind.i64 (U.int i + (1 : Int)) ∧ IntKind.wrap IntKind.i64 (U.int i + (1 
  : Int)) ≤ (↑(List.length (U.list L)) : Int) ∧ (0 : Int) ≤ U.int n ∧ U.int n ≤ IntKind.wrap IntKind.i64 (U.int i + (1 : Int))) ∧ k (Ex.exit (nat_lit 0)) (St.mk [(nat_lit 3, SV.val (Ct.int IntKind.i64) (U.i 
  (U.int n + countB (List.drop (Int.toNat (IntKind.wrap IntKind.i64 (U.int i + (1 : Int)))) (U.list L)))))] []) else False else False else k (Ex.exit (nat_lit 0)) (St.mk [(nat_lit 3, SV.val (Ct.int IntKind.i64) 
  n)] [])) := by kernel_rfl
theorem leaves_tree (R : RF) (L : U) : (run leavesC Try.f16 [[L]] R) = ((nat_lit 128 = nat_lit 128 ∧ nat_lit 0 = nat_lit 0 ∧ [Ct.int IntKind.i64, Ct.int IntKind.i64, Ct.int IntKind.i64, Ct.int IntKind.i64, Ct.int IntKind.u32] = [Ct.int IntKind.i64, Ct.int IntKind.i64, Ct.int 
  IntKind.i64, Ct.int IntKind.i64, Ct.int IntKind.u32] ∧ U.i (0 : Int) = U.i (0 : Int) ∧ (0 : Int) ≤ (0 : Int) ∧ (0 : Int) ≤ (↑(List.length (U.list L)) : Int) ∧ (0 : Int) ≤ (0 : Int) ∧ (0 : Int) ≤ (0 : Int)) 
  ∧ R [[U.i ((0 : Int) + countB (List.drop (Int.toNat (0 : Int)) (U.list L)))]]) := by kernel_rfl
def shotsN : List U → Int
  | [] => 0
  | s :: r => 6 + (e0 s).str.size + countB (e2 s).list * 130 + shotsN r
def mapsN : List U → Int
  | [] => 0
  | b :: r => 5 + (e0 b).str.size + 4 * (e2 b).list.length + mapsN r
def diffsN (p : Int) : List U → Int
  | [] => 0
  | y :: r => (bif y.int == p then 0 else 4) + diffsN y.int r
def countsN : List U → Int
  | [] => 0
  | x :: r => 4 + diffsN x.int r
def shotLow (s : U) : Prop := (e0 s).str.size ≤ 1000 ∧ (e2 s).list.length ≤ 6000
def mapLow (s : U) : Prop := (e0 s).str.size ≤ 1000 ∧ (e2 s).list.length ≤ 500
noncomputable def longLoop0 : LoopF := fun _ svs os k => match svs, os with
  | [.val (.int .i64) i, .val (.int .i64) n, .ptr p o], [.box [.val (.int .i64) c, .val (.int .i64) sz, .val .str bk, .val (.sl false [.sl true x1]) T, .val (.sl true x2) S, .val (.sl true x3) M, .val (.sl false [.int .i64]) Q]] =>
    ((p = 128 ∧ o = 0) ∧ (x1 = EC ∧ x2 = SC ∧ x3 = BC) ∧ n = .i n.int ∧ S.list.length ≤ 20 ∧ 0 ≤ i.int ∧ i.int ≤ S.list.length ∧ (∀ s ∈ S.list, shotLow s) ∧ 0 ≤ n.int ∧ n.int ≤ 10000000 + 10000000 * i.int) ∧
    k (.exit 0) ⟨[(3, vi (.i (n.int + shotsN (S.list.drop i.int.toNat)))), (1, .ptr 128 0)], [(128, .box (mCells c sz bk T S M Q))]⟩
  | _, _ => False
noncomputable def longLoop2 : LoopF := fun _ svs os k => match svs, os with
  | [.val (.int .i64) i, .val (.int .i64) n, .ptr p o], [.box [.val (.int .i64) c, .val (.int .i64) sz, .val .str bk, .val (.sl false [.sl true x1]) T, .val (.sl true x2) S, .val (.sl true x3) M, .val (.sl false [.int .i64]) Q]] =>
    ((p = 128 ∧ o = 0) ∧ (x1 = EC ∧ x2 = SC ∧ x3 = BC) ∧ n = .i n.int ∧ M.list.length ≤ 20 ∧ 0 ≤ i.int ∧ i.int ≤ M.list.length ∧ (∀ s ∈ M.list, mapLow s) ∧ 0 ≤ n.int ∧ n.int ≤ 1000000000 + 10000000 * i.int) ∧
    k (.exit 2) ⟨[(3, vi (.i (n.int + mapsN (M.list.drop i.int.toNat)))), (1, .ptr 128 0)], [(128, .box (mCells c sz bk T S M Q))]⟩
  | _, _ => False
noncomputable def longLoop4 : LoopF := fun _ svs os k => match svs, os with
  | [.val (.int .i64) i, .val (.int .i64) n, .ptr p o], [.box [.val (.int .i64) c, .val (.int .i64) sz, .val .str bk, .val (.sl false [.sl true x1]) T, .val (.sl true x2) S, .val (.sl true x3) M, .val (.sl false [.int .i64]) Q]] =>
    ((p = 128 ∧ o = 0) ∧ (x1 = EC ∧ x2 = SC ∧ x3 = BC) ∧ n = .i n.int ∧ Q.list.length ≤ 20000 ∧ 0 ≤ i.int ∧ i.int ≤ Q.list.length ∧ 0 ≤ n.int ∧ n.int ≤ 2000000000 + 10 * i.int) ∧
    k (.exit 4) ⟨[(3, vi (.i (n.int + (bif decide (i.int = 0) then countsN Q.list else diffsN (U.at Q.list (i.int - 1).toNat).int (Q.list.drop i.int.toNat))))), (1, .ptr 128 0)], [(128, .box (mCells c sz bk T S M Q))]⟩
  | _, _ => False
noncomputable def longC : Ctx := mkC PR eqs0 (fnsConsP 12 mputP mputS (fnsCons 14 errS (fnsCons 10 metaGS (fnsCons 11 trueS (fnsCons 16 leavesS (fnsCons 15 rmetaS fnsNil)))))) trsNil
  (loopCons 4 [6, 3, 1] [128] longLoop4 (loopCons 2 [5, 3, 1] [128] longLoop2 (loopCons 0 [4, 3, 1] [128] longLoop0 noLoops))) (outCons 4 [3, 1] [128] (outCons 2 [3, 1] [128] (outCons 0 [3, 1] [128] noOut))) noOut
theorem long_round0 (pan : KP) (μ : Mu) (N : Nat) (k : KE) (i n c sz bk T S M Q : U) : (exec (longC.panics pan) (loopBody Try.f4 0) 0 ⟨[(4, vi i), (3, vi n), (1, .ptr 128 0)], [(128, .box (mCells c sz bk T S M Q))]⟩ (again PR (some ([3, 1], [128])) none pan [4, 3, 1] [128] longLoop0 μ N k)) = (bif decide (U.int i < (↑(List.length (U.list S)) : Int)) then bif decide ((0 : Int) ≤ U.int i ∧ U.int i < (↑(List.length (U.list S)) : Int)) then bif decide ((0 : Int) ≤ U.int i ∧ U.int i < (↑(List.length 
  (U.list S)) : Int)) then bif Nat.blt (μ [SV.val (Ct.int IntKind.i64) (U.i (IntKind.wrap IntKind.i64 (U.int i + (1 : Int)))), SV.val (Ct.int IntKind.i64) (U.i (IntKind.wrap IntKind.i64 (IntKind.wrap IntKind.i64 
  (IntKind.wrap IntKind.i64 (IntKind.wrap IntKind.i64 (IntKind.wrap IntKind.i64 (U.int n + (2 : Int)) + (↑(ByteArray.size (U.str (nth (U.i (0 : Int)) (List.drop (0 : Nat) (U.list (nth (U.i (0 : Int)) (U.list 
  S) (Int.toNat (U.int i))))) (0 : Nat)))) : Int)) + (2 : Int)) + (2 : Int)) + IntKind.wrap IntKind.i64 (countB (U.list (nth (U.i (0 : Int)) (List.drop (2 : Nat) (U.list (nth (U.i (0 : Int)) (U.list S) (Int.toNat 
  (U.int i))))) (0 : Nat))) * (130 : Int))))), SV.ptr (nat_lit 128) (nat_lit 0)] [Obj.box [SV.val (Ct.int IntKind.i64) c, SV.val (Ct.int IntKind.i64) sz, SV.val Ct.str bk, SV.val (Ct.sl false [Ct.sl true 
  [Ct.int IntKind.i64, Ct.int IntKind.i64, Ct.int IntKind.i64, Ct.int IntKind.i64, Ct.int IntKind.u32]]) T, SV.val (Ct.sl true [Ct.str, Ct.int IntKind.i64, Ct.sl false [Ct.sl true [Ct.int IntKind.i64, Ct.int 
  IntKind.i64, Ct.int IntKind.i64, Ct.int IntKind.i64, Ct.int IntKind.u32]]]) S, SV.val (Ct.sl true [Ct.str, Ct.bool, Ct.sl true [Ct.int IntKind.i64, Ct.int IntKind.i64]]) M, SV.val (Ct.sl false [Ct.int 
  IntKind.i64]) Q]]) N then ((nat_lit 128 = nat_lit 128 ∧ nat_lit 0 = nat_lit 0) ∧ ([Ct.int IntKind.i64, Ct.int IntKind.i64, Ct.int IntKind.i64, Ct.int IntKind.i64, Ct.int IntKind.u32] = [Ct.int IntKind.i64, 
  Ct.int IntKind.i64, Ct.int IntKind.i64, Ct.int IntKind.i64, Ct.int IntKind.u32] ∧ [Ct.str, Ct.int IntKind.i64, Ct.sl false [Ct.sl true [Ct.int IntKind.i64, Ct.int IntKind.i64, Ct.int IntKind.i64, Ct.int 
  IntKind.i64, Ct.int IntKind.u32]]] = [Ct.str, Ct.int IntKind.i64, Ct.sl false [Ct.sl true [Ct.int IntKind.i64, Ct.int IntKind.i64, Ct.int IntKind.i64, Ct.int IntKind.i64, Ct.int IntKind.u32]]] ∧ [Ct.str, 
  Ct.bool, Ct.sl true [Ct.int IntKind.i64, Ct.int IntKind.i64]] = [Ct.str, Ct.bool, Ct.sl true [Ct.int IntKind.i64, Ct.int IntKind.i64]]) ∧ U.i (IntKind.wrap IntKind.i64 (IntKind.wrap IntKind.i64 (IntKind.wrap 
  IntKind.i64 (IntKind.wrap IntKind.i64 (IntKind.wrap IntKind.i64 (U.int n + (2 : Int)) + (↑(ByteArray.size (U.str (nth (U.i (0 : Int)) (List.drop (0 : Nat) (U.list (nth (U.i (0 : Int)) (U.list S) (Int.toNat 
  (U.int i))))) (0 : Nat)))) : Int)) + (2 : Int)) + (2 : Int)) + IntKind.wrap IntKind.i64 (countB (U.list (nth (U.i (0 : Int)) (List.drop (2 : Nat) (U.list (nth (U.i (0 : Int)) (U.list S) (Int.toNat (U.int 
  i))))) (0 : Nat))) * (130 : Int)))) = U.i (IntKind.wrap IntKind.i64 (IntKind.wrap IntKind.i64 (IntKind.wrap IntKind.i64 (IntKind.wrap IntKind.i64 (IntKind.wrap IntKind.i64 (U.int n + (2 : Int)) + (↑(ByteArray.size 
  (U.str (nth (U.i (0 : Int)) (List.drop (0 : Nat) (U.list (nth (U.i (0 : Int)) (U.list S) (Int.toNat (U.int i))))) (0 : Nat)))) : Int)) + (2 : Int)) + (2 : Int)) + IntKind.wrap IntKind.i64 (countB (U.list 
  (nth (U.i (0 : Int)) (List.drop (2 : Nat) (U.list (nth (U.i (0 : Int)) (U.list S) (Int.toNat (U.int i))))) (0 : Nat))) * (130 : Int)))) ∧ List.length (U.list S) ≤ (20 : Nat) ∧ (0 : Int) ≤ IntKind.wrap 
  IntKind.i64 (U.int i + (1 : Int)) ∧ IntKind.wrap IntKind.i64 (U.int i + (1 : Int)) ≤ (↑(List.length (U.list S)) : Int) ∧ (∀ (s : U), s ∈ U.list S → shotLow s) ∧ (0 : Int) ≤ IntKind.wrap IntKind.i64 (IntKind.wrap 
  IntKind.i64 (IntKind.wrap IntKind.i64 (IntKind.wrap IntKind.i64 (IntKind.wrap IntKind.i64 (U.int n + (2 : Int)) + (↑(ByteArray.size (U.str (nth (U.i (0 : Int)) (List.drop (0 : Nat) (U.list (nth (U.i (0 
  : Int)) (U.list S) (Int.toNat (U.int i))))) (0 : Nat)))) : Int)) + (2 : Int)) + (2 : Int)) + IntKind.wrap IntKind.i64 (countB (U.list (nth (U.i (0 : Int)) (List.drop (2 : Nat) (U.list (nth (U.i (0 : Int)) 
  (U.list S) (Int.toNat (U.int i))))) (0 : Nat))) * (130 : Int))) ∧ IntKind.wrap IntKind.i64 (IntKind.wrap IntKind.i64 (IntKind.wrap IntKind.i64 (IntKind.wrap IntKind.i64 (IntKind.wrap IntKind.i64 (U.int 
  n + (2 : Int)) + (↑(ByteArray.size (U.str (nth (U.i (0 : Int)) (List.drop (0 : Nat) (U.list (nth (U.i (0 : Int)) (U.list S) (Int.toNat (U.int i))))) (0 : Nat)))) : Int)) + (2 : Int)) + (2 : Int)) + IntKind.wrap 
  IntKind.i64 (countB (U.list (nth (U.i (0 : Int)) (List.drop (2 : Nat) (U.list (nth (U.i (0 : Int)) (U.list S) (Int.toNat (U.int i))))) (0 : Nat))) * (130 : Int))) ≤ (10000000 : Int) + (10000000 : Int) 
  * IntKind.wrap IntKind.i64 (U.int i + (1 : Int))) ∧ k (Ex.exit (nat_lit 0)) (St.mk [(nat_lit 3, SV.val (Ct.int IntKind.i64) (U.i (IntKind.wrap IntKind.i64 (IntKind.wrap IntKind.i64 (IntKind.wrap IntKind.i64 
  (IntKind.wrap IntKind.i64 (IntKind.wrap IntKind.i64 (U.int n + (2 : Int)) + (↑(ByteArray.size (U.str (nth (U.i (0 : Int)) (List.drop (0 : Nat) (U.list (nth (U.i (0 : Int)) (U.list S) (Int.toNat (U.int 
  i))))) (0 : Nat)))) : Int)) + (2 : Int)) + (2 : Int)) + IntKind.wrap IntKind.i64 (countB (U.list (nth (U.i (0 : Int)) (List.drop (2 : Nat) (U.list (nth (U.i (0 : Int)) (U.list S) (Int.toNat (U.int i))))) 
  (0 : Nat))) * (130 : Int))) + shotsN (List.drop (Int.toNat (IntKind.wrap IntKind.i64 (U.int i + (1 : Int)))) (U.list S))))), (nat_lit 1, SV.ptr (nat_lit 128) (nat_lit 0))] [(nat_lit 128, Obj.box [SV.val 
  (Ct.int IntKind.i64) c, SV.val (Ct.int IntKind.i64) sz, SV.val Ct.str bk, SV.val (Ct.sl false [Ct.sl true [Ct.int IntKind.i64, Ct.int IntKind.i64, Ct.int IntKind.i64, Ct.int IntKind.i64, Ct.int IntKind.u32]]) 
  T, SV.val (Ct.sl true [Ct.str, Ct.int IntKind.i64, Ct.sl false [Ct.sl true [Ct.int IntKind.i64, Ct.int IntKind.i64, Ct.int IntKind.i64, Ct.int IntKind.i64, Ct.int IntKind.u32]]]) S, SV.val (Ct.sl true 
  [Ct.str, Ct.bool, Ct.sl true [Ct.int IntKind.i64, Ct.int IntKind.i64]]) M, SV.val (Ct.sl false [Ct.int IntKind.i64]) Q])]) else False else False else False else k (Ex.exit (nat_lit 0)) (St.mk [(nat_lit 
  3, SV.val (Ct.int IntKind.i64) n), (nat_lit 1, SV.ptr (nat_lit 128) (nat_lit 0))] [(nat_lit 128, Obj.box [SV.val (Ct.int IntKind.i64) c, SV.val (Ct.int IntKind.i64) sz, SV.val Ct.str bk, SV.val (Ct.sl 
  false [Ct.sl true [Ct.int IntKind.i64, Ct.int IntKind.i64, Ct.int IntKind.i64, Ct.int IntKind.i64, Ct.int IntKind.u32]]) T, SV.val (Ct.sl true [Ct.str, Ct.int IntKind.i64, Ct.sl false [Ct.sl true [Ct.int 
  IntKind.i64, Ct.int IntKind.i64, Ct.int IntKind.i64, Ct.int IntKind.i64, Ct.int IntKind.u32]]]) S, SV.val (Ct.sl true [Ct.str, Ct.bool, Ct.sl true [Ct.int IntKind.i64, Ct.int IntKind.i64]]) M, SV.val (Ct.sl 
  false [Ct.int IntKind.i64]) Q])])) := by kernel_rfl
theorem long_round2 (pan : KP) (μ : Mu) (N : Nat) (k : KE) (i n c sz bk T S M Q : U) : (exec (longC.panics pan) (loopBody Try.f4 1) 2 ⟨[(5, vi i), (3, vi n), (1, .ptr 128 0)], [(128, .box (mCells c sz bk T S M Q))]⟩ (again PR (some ([3, 1], [128])) none pan [5, 3, 1] [128] longLoop2 μ N k)) = (bif decide (U.int i < (↑(List.length (U.list M)) : Int)) then bif decide ((0 : Int) ≤ U.int i ∧ U.int i < (↑(List.length (U.list M)) : Int)) then bif decide ((0 : Int) ≤ U.int i ∧ U.int i < (↑(List.length 
  (U.list M)) : Int)) then bif Nat.blt (μ [SV.val (Ct.int IntKind.i64) (U.i (IntKind.wrap IntKind.i64 (U.int i + (1 : Int)))), SV.val (Ct.int IntKind.i64) (U.i (IntKind.wrap IntKind.i64 (IntKind.wrap IntKind.i64 
  (IntKind.wrap IntKind.i64 (IntKind.wrap IntKind.i64 (IntKind.wrap IntKind.i64 (U.int n + (2 : Int)) + (↑(ByteArray.size (U.str (nth (U.i (0 : Int)) (List.drop (0 : Nat) (U.list (nth (U.i (0 : Int)) (U.list 
  M) (Int.toNat (U.int i))))) (0 : Nat)))) : Int)) + (1 : Int)) + (2 : Int)) + IntKind.wrap IntKind.i64 ((4 : Int) * (↑(List.length (U.list (nth (U.i (0 : Int)) (List.drop (2 : Nat) (U.list (nth (U.i (0 
  : Int)) (U.list M) (Int.toNat (U.int i))))) (0 : Nat)))) : Int))))), SV.ptr (nat_lit 128) (nat_lit 0)] [Obj.box [SV.val (Ct.int IntKind.i64) c, SV.val (Ct.int IntKind.i64) sz, SV.val Ct.str bk, SV.val 
  (Ct.sl false [Ct.sl true [Ct.int IntKind.i64, Ct.int IntKind.i64, Ct.int IntKind.i64, Ct.int IntKind.i64, Ct.int IntKind.u32]]) T, SV.val (Ct.sl true [Ct.str, Ct.int IntKind.i64, Ct.sl false [Ct.sl true 
  [Ct.int IntKind.i64, Ct.int IntKind.i64, Ct.int IntKind.i64, Ct.int IntKind.i64, Ct.int IntKind.u32]]]) S, SV.val (Ct.sl true [Ct.str, Ct.bool, Ct.sl true [Ct.int IntKind.i64, Ct.int IntKind.i64]]) M, 
  SV.val (Ct.sl false [Ct.int IntKind.i64]) Q]]) N then ((nat_lit 128 = nat_lit 128 ∧ nat_lit 0 = nat_lit 0) ∧ ([Ct.int IntKind.i64, Ct.int IntKind.i64, Ct.int IntKind.i64, Ct.int IntKind.i64, Ct.int IntKind.u32] 
  = [Ct.int IntKind.i64, Ct.int IntKind.i64, Ct.int IntKind.i64, Ct.int IntKind.i64, Ct.int IntKind.u32] ∧ [Ct.str, Ct.int IntKind.i64, Ct.sl false [Ct.sl true [Ct.int IntKind.i64, Ct.int IntKind.i64, Ct.int 
  IntKind.i64, Ct.int IntKind.i64, Ct.int IntKind.u32]]] = [Ct.str, Ct.int IntKind.i64, Ct.sl false [Ct.sl true [Ct.int IntKind.i64, Ct.int IntKind.i64, Ct.int IntKind.i64, Ct.int IntKind.i64, Ct.int IntKind.u32]]] 
  ∧ [Ct.str, Ct.bool, Ct.sl true [Ct.int IntKind.i64, Ct.int IntKind.i64]] = [Ct.str, Ct.bool, Ct.sl true [Ct.int IntKind.i64, Ct.int IntKind.i64]]) ∧ U.i (IntKind.wrap IntKind.i64 (IntKind.wrap IntKind.i64 
  (IntKind.wrap IntKind.i64 (IntKind.wrap IntKind.i64 (IntKind.wrap IntKind.i64 (U.int n + (2 : Int)) + (↑(ByteArray.size (U.str (nth (U.i (0 : Int)) (List.drop (0 : Nat) (U.list (nth (U.i (0 : Int)) (U.list 
  M) (Int.toNat (U.int i))))) (0 : Nat)))) : Int)) + (1 : Int)) + (2 : Int)) + IntKind.wrap IntKind.i64 ((4 : Int) * (↑(List.length (U.list (nth (U.i (0 : Int)) (List.drop (2 : Nat) (U.list (nth (U.i (0 
  : Int)) (U.list M) (Int.toNat (U.int i))))) (0 : Nat)))) : Int)))) = U.i (IntKind.wrap IntKind.i64 (IntKind.wrap IntKind.i64 (IntKind.wrap IntKind.i64 (IntKind.wrap IntKind.i64 (IntKind.wrap IntKind.i64 
  (U.int n + (2 : Int)) + (↑(ByteArray.size (U.str (nth (U.i (0 : Int)) (List.drop (0 : Nat) (U.list (nth (U.i (0 : Int)) (U.list M) (Int.toNat (U.int i))))) (0 : Nat)))) : Int)) + (1 : Int)) + (2 : Int)) 
  + IntKind.wrap IntKind.i64 ((4 : Int) * (↑(List.length (U.list (nth (U.i (0 : Int)) (List.drop (2 : Nat) (U.list (nth (U.i (0 : Int)) (U.list M) (Int.toNat (U.int i))))) (0 : Nat)))) : Int)))) ∧ List.length 
  (U.list M) ≤ (20 : Nat) ∧ (0 : Int) ≤ IntKind.wrap IntKind.i64 (U.int i + (1 : Int)) ∧ IntKind.wrap IntKind.i64 (U.int i + (1 : Int)) ≤ (↑(List.length (U.list M)) : Int) ∧ (∀ (s : U), s ∈ U.list M → mapLow 
  s) ∧ (0 : Int) ≤ IntKind.wrap IntKind.i64 (IntKind.wrap IntKind.i64 (IntKind.wrap IntKind.i64 (IntKind.wrap IntKind.i64 (IntKind.wrap IntKind.i64 (U.int n + (2 : Int)) + (↑(ByteArray.size (U.str (nth (U.i 
  (0 : Int)) (List.drop (0 : Nat) (U.list (nth (U.i (0 : Int)) (U.list M) (Int.toNat (U.int i))))) (0 : Nat)))) : Int)) + (1 : Int)) + (2 : Int)) + IntKind.wrap IntKind.i64 ((4 : Int) * (↑(List.length (U.list 
  (nth (U.i (0 : Int)) (List.drop (2 : Nat) (U.list (nth (U.i (0 : Int)) (U.list M) (Int.toNat (U.int i))))) (0 : Nat)))) : Int))) ∧ IntKind.wrap IntKind.i64 (IntKind.wrap IntKind.i64 (IntKind.wrap IntKind.i64 
  (IntKind.wrap IntKind.i64 (IntKind.wrap IntKind.i64 (U.int n + (2 : Int)) + (↑(ByteArray.size (U.str (nth (U.i (0 : Int)) (List.drop (0 : Nat) (U.list (nth (U.i (0 : Int)) (U.list M) (Int.toNat (U.int 
  i))))) (0 : Nat)))) : Int)) + (1 : Int)) + (2 : Int)) + IntKind.wrap IntKind.i64 ((4 : Int) * (↑(List.length (U.list (nth (U.i (0 : Int)) (List.drop (2 : Nat) (U.list (nth (U.i (0 : Int)) (U.list M) (Int.toNat 
  (U.int i))))) (0 : Nat)))) : Int))) ≤ (1000000000 : Int) + (10000000 : Int) * IntKind.wrap IntKind.i64 (U.int i + (1 : Int))) ∧ k (Ex.exit (nat_lit 2)) (St.mk [(nat_lit 3, SV.val (Ct.int IntKind.i64) (U.i 
  (IntKind.wrap IntKind.i64 (IntKind.wrap IntKind.i64 (IntKind.wrap IntKind.i64 (IntKind.wrap IntKind.i64 (IntKind.wrap IntKind.i64 (U.int n + (2 : Int)) + (↑(ByteArray.size (U.str (nth (U.i (0 : Int)) (List.drop 
  (0 : Nat) (U.list (nth (U.i (0 : Int)) (U.list M) (Int.toNat (U.int i))))) (0 : Nat)))) : Int)) + (1 : Int)) + (2 : Int)) + IntKind.wrap IntKind.i64 ((4 : Int) * (↑(List.length (U.list (nth (U.i (0 : Int)) 
  (List.drop (2 : Nat) (U.list (nth (U.i (0 : Int)) (U.list M) (Int.toNat (U.int i))))) (0 : Nat)))) : Int))) + mapsN (List.drop (Int.toNat (IntKind.wrap IntKind.i64 (U.int i + (1 : Int)))) (U.list M))))), 
  (nat_lit 1, SV.ptr (nat_lit 128) (nat_lit 0))] [(nat_lit 128, Obj.box [SV.val (Ct.int IntKind.i64) c, SV.val (Ct.int IntKind.i64) sz, SV.val Ct.str bk, SV.val (Ct.sl false [Ct.sl true [Ct.int IntKind.i64, 
  Ct.int IntKind.i64, Ct.int IntKind.i64, Ct.int IntKind.i64, Ct.int IntKind.u32]]) T, SV.val (Ct.sl true [Ct.str, Ct.int IntKind.i64, Ct.sl false [Ct.sl true [Ct.int IntKind.i64, Ct.int IntKind.i64, Ct.int 
  IntKind.i64, Ct.int IntKind.i64, Ct.int IntKind.u32]]]) S, SV.val (Ct.sl true [Ct.str, Ct.bool, Ct.sl true [Ct.int IntKind.i64, Ct.int IntKind.i64]]) M, SV.val (Ct.sl false [Ct.int IntKind.i64]) Q])]) 
  else False else False else False else k (Ex.exit (nat_lit 2)) (St.mk [(nat_lit 3, SV.val (Ct.int IntKind.i64) n), (nat_lit 1, SV.ptr (nat_lit 128) (nat_lit 0))] [(nat_lit 128, Obj.box [SV.val (Ct.int IntKind.i64) 
  c, SV.val (Ct.int IntKind.i64) sz, SV.val Ct.str bk, SV.val (Ct.sl false [Ct.sl true [Ct.int IntKind.i64, Ct.int IntKind.i64, Ct.int IntKind.i64, Ct.int IntKind.i64, Ct.int IntKind.u32]]) T, SV.val (Ct.sl 
  true [Ct.str, Ct.int IntKind.i64, Ct.sl false [Ct.sl true [Ct.int IntKind.i64, Ct.int IntKind.i64, Ct.int IntKind.i64, Ct.int IntKind.i64, Ct.int IntKind.u32]]]) S, SV.val (Ct.sl true [Ct.str, Ct.bool, 
  Ct.sl true [Ct.int IntKind.i64, Ct.int IntKind.i64]]) M, SV.val (Ct.sl false [Ct.int IntKind.i64]) Q])])) := by kernel_rfl
theorem long_round4 (pan : KP) (μ : Mu) (N : Nat) (k : KE) (i n c sz bk T S M Q : U) : (exec (longC.panics pan) (loopBody Try.f4 2) 4 ⟨[(6, vi i), (3, vi n), (1, .ptr 128 0)], [(128, .box (mCells c sz bk T S M Q))]⟩ (again PR (some ([3, 1], [128])) none pan [6, 3, 1] [128] longLoop4 μ N k)) = (bif decide (U.int i < (↑(List.length (U.list Q)) : Int)) then bif U.int i == (0 : Int) then bif Nat.blt (μ [SV.val (Ct.int IntKind.i64) (U.i (IntKind.wrap IntKind.i64 (U.int i + (1 : Int)))), SV.val (Ct.int 
  IntKind.i64) (U.i (IntKind.wrap IntKind.i64 (U.int n + (4 : Int)))), SV.ptr (nat_lit 128) (nat_lit 0)] [Obj.box [SV.val (Ct.int IntKind.i64) c, SV.val (Ct.int IntKind.i64) sz, SV.val Ct.str bk, SV.val 
  (Ct.sl false [Ct.sl true [Ct.int IntKind.i64, Ct.int IntKind.i64, Ct.int IntKind.i64, Ct.int IntKind.i64, Ct.int IntKind.u32]]) T, SV.val (Ct.sl true [Ct.str, Ct.int IntKind.i64, Ct.sl false [Ct.sl true 
  [Ct.int IntKind.i64, Ct.int IntKind.i64, Ct.int IntKind.i64, Ct.int IntKind.i64, Ct.int IntKind.u32]]]) S, SV.val (Ct.sl true [Ct.str, Ct.bool, Ct.sl true [Ct.int IntKind.i64, Ct.int IntKind.i64]]) M, 
  SV.val (Ct.sl false [Ct.int IntKind.i64]) Q]]) N then ((nat_lit 128 = nat_lit 128 ∧ nat_lit 0 = nat_lit 0) ∧ ([Ct.int IntKind.i64, Ct.int IntKind.i64, Ct.int IntKind.i64, Ct.int IntKind.i64, Ct.int IntKind.u32] 
  = [Ct.int IntKind.i64, Ct.int IntKind.i64, Ct.int IntKind.i64, Ct.int IntKind.i64, Ct.int IntKind.u32] ∧ [Ct.str, Ct.int IntKind.i64, Ct.sl false [Ct.sl true [Ct.int IntKind.i64, Ct.int IntKind.i64, Ct.int 
  IntKind.i64, Ct.int IntKind.i64, Ct.int IntKind.u32]]] = [Ct.str, Ct.int IntKind.i64, Ct.sl false [Ct.sl true [Ct.int IntKind.i64, Ct.int IntKind.i64, Ct.int IntKind.i64, Ct.int IntKind.i64, Ct.int IntKind.u32]]] 
  ∧ [Ct.str, Ct.bool, Ct.sl true [Ct.int IntKind.i64, Ct.int IntKind.i64]] = [Ct.str, Ct.bool, Ct.sl true [Ct.int IntKind.i64, Ct.int IntKind.i64]]) ∧ U.i (IntKind.wrap IntKind.i64 (U.int n + (4 : Int))) 
  = U.i (IntKind.wrap IntKind.i64 (U.int n + (4 : Int))) ∧ List.length (U.list Q) ≤ (20000 : Nat) ∧ (0 : Int) ≤ IntKind.wrap IntKind.i64 (U.int i + (1 : Int)) ∧ IntKind.wrap IntKind.i64 (U.int i + (1 : Int)) 
  ≤ (↑(List.length (U.list Q)) : Int) ∧ (0 : Int) ≤ IntKind.wrap IntKind.i64 (U.int n + (4 : Int)) ∧ IntKind.wrap IntKind.i64 (U.int n + (4 : Int)) ≤ (2000000000 : Int) + (10 : Int) * IntKind.wrap IntKind.i64 
  (U.int i + (1 : Int))) ∧ k (Ex.exit (nat_lit 4)) (St.mk [(nat_lit 3, SV.val (Ct.int IntKind.i64) (U.i (IntKind.wrap IntKind.i64 (U.int n + (4 : Int)) + bif decide (IntKind.wrap IntKind.i64 (U.int i + (1 
  : Int)) = (0 : Int)) then countsN (U.list Q) else diffsN (U.int (nth (U.i (0 : Int)) (U.list Q) (Int.toNat (IntKind.wrap IntKind.i64 (U.int i + (1 : Int)) - (1 : Int))))) (List.drop (Int.toNat (IntKind.wrap 
  IntKind.i64 (U.int i + (1 : Int)))) (U.list Q))))), (nat_lit 1, SV.ptr (nat_lit 128) (nat_lit 0))] [(nat_lit 128, Obj.box [SV.val (Ct.int IntKind.i64) c, SV.val (Ct.int IntKind.i64) sz, SV.val Ct.str bk, 
  SV.val (Ct.sl false [Ct.sl true [Ct.int IntKind.i64, Ct.int IntKind.i64, Ct.int IntKind.i64, Ct.int IntKind.i64, Ct.int IntKind.u32]]) T, SV.val (Ct.sl true [Ct.str, Ct.int IntKind.i64, Ct.sl false [Ct.sl 
  true [Ct.int IntKind.i64, Ct.int IntKind.i64, Ct.int IntKind.i64, Ct.int IntKind.i64, Ct.int IntKind.u32]]]) S, SV.val (Ct.sl true [Ct.str, Ct.bool, Ct.sl true [Ct.int IntKind.i64, Ct.int IntKind.i64]]) 
  M, SV.val (Ct.sl false [Ct.int IntKind.i64]) Q])]) else False else bif decide ((0 : Int) ≤ U.int i ∧ U.int i < (↑(List.length (U.list Q)) : Int)) then bif decide ((0 : Int) ≤ IntKind.wrap IntKind.i64 (U.int 
  i - (1 : Int)) ∧ IntKind.wrap IntKind.i64 (U.int i - (1 : Int)) < (↑(List.length (U.list Q)) : Int)) then bif U.int (nth (U.i (0 : Int)) (U.list Q) (Int.toNat (U.int i))) != U.int (nth (U.i (0 : Int)) 
  (U.list Q) (Int.toNat (IntKind.wrap IntKind.i64 (U.int i - (1 : Int))))) then bif Nat.blt (μ [SV.val (Ct.int IntKind.i64) (U.i (IntKind.wrap IntKind.i64 (U.int i + (1 : Int)))), SV.val (Ct.int IntKind.i64) 
  (U.i (IntKind.wrap IntKind.i64 (U.int n + (4 : Int)))), SV.ptr (nat_lit 128) (nat_lit 0)] [Obj.box [SV.val (Ct.int IntKind.i64) c, SV.val (Ct.int IntKind.i64) sz, SV.val Ct.str bk, SV.val (Ct.sl false 
  [Ct.sl true [Ct.int IntKind.i64, Ct.int IntKind.i64, Ct.int IntKind.i64, Ct.int IntKind.i64, Ct.int IntKind.u32]]) T, SV.val (Ct.sl true [Ct.str, Ct.int IntKind.i64, Ct.sl false [Ct.sl true [Ct.int IntKind.i64, 
  Ct.int IntKind.i64, Ct.int IntKind.i64, Ct.int IntKind.i64, Ct.int IntKind.u32]]]) S, SV.val (Ct.sl true [Ct.str, Ct.bool, Ct.sl true [Ct.int IntKind.i64, Ct.int IntKind.i64]]) M, SV.val (Ct.sl false [Ct.int 
  IntKind.i64]) Q]]) N then ((nat_lit 128 = nat_lit 128 ∧ nat_lit 0 = nat_lit 0) ∧ ([Ct.int IntKind.i64, Ct.int IntKind.i64, Ct.int IntKind.i64, Ct.int IntKind.i64, Ct.int IntKind.u32] = [Ct.int IntKind.i64, 
  Ct.int IntKind.i64, Ct.int IntKind.i64, Ct.int IntKind.i64, Ct.int IntKind.u32] ∧ [Ct.str, Ct.int IntKind.i64, Ct.sl false [Ct.sl true [Ct.int IntKind.i64, Ct.int IntKind.i64, Ct.int IntKind.i64, Ct.int 
  IntKind.i64, Ct.int IntKind.u32]]] = [Ct.str, Ct.int IntKind.i64, Ct.sl false [Ct.sl true [Ct.int IntKind.i64, Ct.int IntKind.i64, Ct.int IntKind.i64, Ct.int IntKind.i64, Ct.int IntKind.u32]]] ∧ [Ct.str, 
  Ct.bool, Ct.sl true [Ct.int IntKind.i64, Ct.int IntKind.i64]] = [Ct.str, Ct.bool, Ct.sl true [Ct.int IntKind.i64, Ct.int IntKind.i64]]) ∧ U.i (IntKind.wrap IntKind.i64 (U.int n + (4 : Int))) = U.i (IntKind.wrap 
  IntKind.i64 (U.int n + (4 : Int))) ∧ List.length (U.list Q) ≤ (20000 : Nat) ∧ (0 : Int) ≤ IntKind.wrap IntKind.i64 (U.int i + (1 : Int)) ∧ IntKind.wrap IntKind.i64 (U.int i + (1 : Int)) ≤ (↑(List.length 
  (U.list Q)) : Int) ∧ (0 : Int) ≤ IntKind.wrap IntKind.i64 (U.int n + (4 : Int)) ∧ IntKind.wrap IntKind.i64 (U.int n + (4 : Int)) ≤ (2000000000 : Int) + (10 : Int) * IntKind.wrap IntKind.i64 (U.int i + 
  (1 : Int))) ∧ k (Ex.exit (nat_lit 4)) (St.mk [(nat_lit 3, SV.val (Ct.int IntKind.i64) (U.i (IntKind.wrap IntKind.i64 (U.int n + (4 : Int)) + bif decide (IntKind.wrap IntKind.i64 (U.int i + (1 : Int)) = 
  (0 : Int)) then countsN (U.list Q) else diffsN (U.int (nth (U.i (0 : Int)) (U.list Q) (Int.toNat (IntKind.wrap IntKind.i64 (U.int i + (1 : Int)) - (1 : Int))))) (List.drop (Int.toNat (IntKind.wrap IntKind.i64 
  (U.int i + (1 : Int)))) (U.list Q))))), (nat_lit 1, SV.ptr (nat_lit 128) (nat_lit 0))] [(nat_lit 128, Obj.box [SV.val (Ct.int IntKind.i64) c, SV.val (Ct.int IntKind.i64) sz, SV.val Ct.str bk, SV.val (Ct.sl 
  false [Ct.sl true [Ct.int IntKind.i64, Ct.int IntKind.i64, Ct.int IntKind.i64, Ct.int IntKind.i64, Ct.int IntKind.u32]]) T, SV.val (Ct.sl true [Ct.str, Ct.int IntKind.i64, Ct.sl false [Ct.sl true [Ct.int 
  IntKind.i64, Ct.int IntKind.i64, Ct.int IntKind.i64, Ct.int IntKind.i64, Ct.int IntKind.u32]]]) S, SV.val (Ct.sl true [Ct.str, Ct.bool, Ct.sl true [Ct.int IntKind.i64, Ct.int IntKind.i64]]) M, SV.val (Ct.sl 
  false [Ct.int IntKind.i64]) Q])]) else False else bif Nat.blt (μ [SV.val (Ct.int IntKind.i64) (U.i (IntKind.wrap IntKind.i64 (U.int i + (1 : Int)))), SV.val (Ct.int IntKind.i64) n, SV.ptr (nat_lit 128) 
  (nat_lit 0)] [Obj.box [SV.val (Ct.int IntKind.i64) c, SV.val (Ct.int IntKind.i64) sz, SV.val Ct.str bk, SV.val (Ct.sl false [Ct.sl true [Ct.int IntKind.i64, Ct.int IntKind.i64, Ct.int IntKind.i64, Ct.int 
  IntKind.i64, Ct.int IntKind.u32]]) T, SV.val (Ct.sl true [Ct.str, Ct.int IntKind.i64, Ct.sl false [Ct.sl true [Ct.int IntKind.i64, Ct.int IntKind.i64, Ct.int IntKind.i64, Ct.int IntKind.i64, Ct.int IntKind.u32]]]) 
  S, SV.val (Ct.sl true [Ct.str, Ct.bool, Ct.sl true [Ct.int IntKind.i64, Ct.int IntKind.i64]]) M, SV.val (Ct.sl false [Ct.int IntKind.i64]) Q]]) N then ((nat_lit 128 = nat_lit 128 ∧ nat_lit 0 = nat_lit 
  0) ∧ ([Ct.int IntKind.i64, Ct.int IntKind.i64, Ct.int IntKind.i64, Ct.int IntKind.i64, Ct.int IntKind.u32] = [Ct.int IntKind.i64, Ct.int IntKind.i64, Ct.int IntKind.i64, Ct.int IntKind.i64, Ct.int IntKind.u32] 
  ∧ [Ct.str, Ct.int IntKind.i64, Ct.sl false [Ct.sl true [Ct.int IntKind.i64, Ct.int IntKind.i64, Ct.int IntKind.i64, Ct.int IntKind.i64, Ct.int IntKind.u32]]] = [Ct.str, Ct.int IntKind.i64, Ct.sl false 
  [Ct.sl true [Ct.int IntKind.i64, Ct.int IntKind.i64, Ct.int IntKind.i64, Ct.int IntKind.i64, Ct.int IntKind.u32]]] ∧ [Ct.str, Ct.bool, Ct.sl true [Ct.int IntKind.i64, Ct.int IntKind.i64]] = [Ct.str, Ct.bool, 
  Ct.sl true [Ct.int IntKind.i64, Ct.int IntKind.i64]]) ∧ n = U.i (U.int n) ∧ List.length (U.list Q) ≤ (20000 : Nat) ∧ (0 : Int) ≤ IntKind.wrap IntKind.i64 (U.int i + (1 : Int)) ∧ IntKind.wrap IntKind.i64 
  (U.int i + (1 : Int)) ≤ (↑(List.length (U.list Q)) : Int) ∧ (0 : Int) ≤ U.int n ∧ U.int n ≤ (2000000000 : Int) + (10 : Int) * IntKind.wrap IntKind.i64 (U.int i + (1 : Int))) ∧ k (Ex.exit (nat_lit 4)) (St.mk 
  [(nat_lit 3, SV.val (Ct.int IntKind.i64) (U.i (U.int n + bif decide (IntKind.wrap IntKind.i64 (U.int i + (1 : Int)) = (0 : Int)) then countsN (U.list Q) else diffsN (U.int (nth (U.i (0 : Int)) (U.list 
  Q) (Int.toNat (IntKind.wrap IntKind.i64 (U.int i + (1 : Int)) - (1 : Int))))) (List.drop (Int.toNat (IntKind.wrap IntKind.i64 (U.int i + (1 : Int)))) (U.list Q))))), (nat_lit 1, SV.ptr (nat_lit 128) (nat_lit 
  0))] [(nat_lit 128, Obj.box [SV.val (Ct.int IntKind.i64) c, SV.val (Ct.int IntKind.i64) sz, SV.val Ct.str bk, SV.val (Ct.sl false [Ct.sl true [Ct.int IntKind.i64, Ct.int IntKind.i64, Ct.int IntKind.i64, 
  Ct.int IntKind.i64, Ct.int IntKind.u32]]) T, SV.val (Ct.sl true [Ct.str, Ct.int IntKind.i64, Ct.sl false [Ct.sl true [Ct.int IntKind.i64, Ct.int IntKind.i64, Ct.int IntKind.i64, Ct.int IntKind.i64, Ct.int 
  IntKind.u32]]]) S, SV.val (Ct.sl true [Ct.str, Ct.bool, Ct.sl true [Ct.int IntKind.i64, Ct.int IntKind.i64]]) M, SV.val (Ct.sl false [Ct.int IntKind.i64]) Q])]) else False else False else False else k 
  (Ex.exit (nat_lit 4)) (St.mk [(nat_lit 3, SV.val (Ct.int IntKind.i64) n), (nat_lit 1, SV.ptr (nat_lit 128) (nat_lit 0))] [(nat_lit 128, Obj.box [SV.val (Ct.int IntKind.i64) c, SV.val (Ct.int IntKind.i64) 
  sz, SV.val Ct.str bk, SV.val (Ct.sl false [Ct.sl true [Ct.int IntKind.i64, Ct.int IntKind.i64, Ct.int IntKind.i64, Ct.int IntKind.i64, Ct.int IntKind.u32]]) T, SV.val (Ct.sl true [Ct.str, Ct.int IntKind.i64, 
  Ct.sl false [Ct.sl true [Ct.int IntKind.i64, Ct.int IntKind.i64, Ct.int IntKind.i64, Ct.int IntKind.i64, Ct.int IntKind.u32]]]) S, SV.val (Ct.sl true [Ct.str, Ct.bool, Ct.sl true [Ct.int IntKind.i64, Ct.int 
  IntKind.i64]]) M, SV.val (Ct.sl false [Ct.int IntKind.i64]) Q])])) := by kernel_rfl
theorem long_tree (R : RF) (c sz bk T S M Q : U) : (run longC Try.f4 [[c, sz, bk, T, S, M, Q]] R) = (bif metaG bk T S M Q then R [[U.b true]] else bif !rmetaR c sz bk T S M Q then R [[U.b true]] else ((nat_lit 128 = nat_lit 128 ∧ nat_lit 0 = nat_lit 0) ∧ ([Ct.int IntKind.i64, Ct.int IntKind.i64, Ct.int 
  IntKind.i64, Ct.int IntKind.i64, Ct.int IntKind.u32] = [Ct.int IntKind.i64, Ct.int IntKind.i64, Ct.int IntKind.i64, Ct.int IntKind.i64, Ct.int IntKind.u32] ∧ [Ct.str, Ct.int IntKind.i64, Ct.sl false [Ct.sl 
  true [Ct.int IntKind.i64, Ct.int IntKind.i64, Ct.int IntKind.i64, Ct.int IntKind.i64, Ct.int IntKind.u32]]] = [Ct.str, Ct.int IntKind.i64, Ct.sl false [Ct.sl true [Ct.int IntKind.i64, Ct.int IntKind.i64, 
  Ct.int IntKind.i64, Ct.int IntKind.i64, Ct.int IntKind.u32]]] ∧ [Ct.str, Ct.bool, Ct.sl true [Ct.int IntKind.i64, Ct.int IntKind.i64]] = [Ct.str, Ct.bool, Ct.sl true [Ct.int IntKind.i64, Ct.int IntKind.i64]]) 
  ∧ U.i (IntKind.wrap IntKind.i64 (IntKind.wrap IntKind.i64 ((13 : Int) + (↑(ByteArray.size (U.str bk)) : Int)) + IntKind.wrap IntKind.i64 (countB (U.list T) * (130 : Int)))) = U.i (IntKind.wrap IntKind.i64 
  (IntKind.wrap IntKind.i64 ((13 : Int) + (↑(ByteArray.size (U.str bk)) : Int)) + IntKind.wrap IntKind.i64 (countB (U.list T) * (130 : Int)))) ∧ List.length (U.list S) ≤ (20 : Nat) ∧ (0 : Int) ≤ (0 : Int) 
  ∧ (0 : Int) ≤ (↑(List.length (U.list S)) : Int) ∧ (∀ (s : U), s ∈ U.list S → shotLow s) ∧ (0 : Int) ≤ IntKind.wrap IntKind.i64 (IntKind.wrap IntKind.i64 ((13 : Int) + (↑(ByteArray.size (U.str bk)) : Int)) 
  + IntKind.wrap IntKind.i64 (countB (U.list T) * (130 : Int))) ∧ IntKind.wrap IntKind.i64 (IntKind.wrap IntKind.i64 ((13 : Int) + (↑(ByteArray.size (U.str bk)) : Int)) + IntKind.wrap IntKind.i64 (countB 
  (U.list T) * (130 : Int))) ≤ (10000000 : Int) + (10000000 : Int) * (0 : Int)) ∧ ((nat_lit 128 = nat_lit 128 ∧ nat_lit 0 = nat_lit 0) ∧ ([Ct.int IntKind.i64, Ct.int IntKind.i64, Ct.int IntKind.i64, Ct.int 
  IntKind.i64, Ct.int IntKind.u32] = [Ct.int IntKind.i64, Ct.int IntKind.i64, Ct.int IntKind.i64, Ct.int IntKind.i64, Ct.int IntKind.u32] ∧ [Ct.str, Ct.int IntKind.i64, Ct.sl false [Ct.sl true [Ct.int IntKind.i64, 
  Ct.int IntKind.i64, Ct.int IntKind.i64, Ct.int IntKind.i64, Ct.int IntKind.u32]]] = [Ct.str, Ct.int IntKind.i64, Ct.sl false [Ct.sl true [Ct.int IntKind.i64, Ct.int IntKind.i64, Ct.int IntKind.i64, Ct.int 
  IntKind.i64, Ct.int IntKind.u32]]] ∧ [Ct.str, Ct.bool, Ct.sl true [Ct.int IntKind.i64, Ct.int IntKind.i64]] = [Ct.str, Ct.bool, Ct.sl true [Ct.int IntKind.i64, Ct.int IntKind.i64]]) ∧ U.i (IntKind.wrap 
  IntKind.i64 (IntKind.wrap IntKind.i64 ((13 : Int) + (↑(ByteArray.size (U.str bk)) : Int)) + IntKind.wrap IntKind.i64 (countB (U.list T) * (130 : Int))) + shotsN (List.drop (Int.toNat (0 : Int)) (U.list 
  S))) = U.i (IntKind.wrap IntKind.i64 (IntKind.wrap IntKind.i64 ((13 : Int) + (↑(ByteArray.size (U.str bk)) : Int)) + IntKind.wrap IntKind.i64 (countB (U.list T) * (130 : Int))) + shotsN (List.drop (Int.toNat 
  (0 : Int)) (U.list S))) ∧ List.length (U.list M) ≤ (20 : Nat) ∧ (0 : Int) ≤ (0 : Int) ∧ (0 : Int) ≤ (↑(List.length (U.list M)) : Int) ∧ (∀ (s : U), s ∈ U.list M → mapLow s) ∧ (0 : Int) ≤ IntKind.wrap IntKind.i64 
  (IntKind.wrap IntKind.i64 ((13 : Int) + (↑(ByteArray.size (U.str bk)) : Int)) + IntKind.wrap IntKind.i64 (countB (U.list T) * (130 : Int))) + shotsN (List.drop (Int.toNat (0 : Int)) (U.list S)) ∧ IntKind.wrap 
  IntKind.i64 (IntKind.wrap IntKind.i64 ((13 : Int) + (↑(ByteArray.size (U.str bk)) : Int)) + IntKind.wrap IntKind.i64 (countB (U.list T) * (130 : Int))) + shotsN (List.drop (Int.toNat (0 : Int)) (U.list 
  S)) ≤ (1000000000 : Int) + (10000000 : Int) * (0 : Int)) ∧ ((nat_lit 128 = nat_lit 128 ∧ nat_lit 0 = nat_lit 0) ∧ ([Ct.int IntKind.i64, Ct.int IntKind.i64, Ct.int IntKind.i64, Ct.int IntKind.i64, Ct.int 
  IntKind.u32] = [Ct.int IntKind.i64, Ct.int IntKind.i64, Ct.int IntKind.i64, Ct.int IntKind.i64, Ct.int IntKind.u32] ∧ [Ct.str, Ct.int IntKind.i64, Ct.sl false [Ct.sl true [Ct.int IntKind.i64, Ct.int IntKind.i64, 
  Ct.int IntKind.i64, Ct.int IntKind.i64, Ct.int IntKind.u32]]] = [Ct.str, Ct.int IntKind.i64, Ct.sl false [Ct.sl true [Ct.int IntKind.i64, Ct.int IntKind.i64, Ct.int IntKind.i64, Ct.int IntKind.i64, Ct.int 
  IntKind.u32]]] ∧ [Ct.str, Ct.bool, Ct.sl true [Ct.int IntKind.i64, Ct.int IntKind.i64]] = [Ct.str, Ct.bool, Ct.sl true [Ct.int IntKind.i64, Ct.int IntKind.i64]]) ∧ U.i (IntKind.wrap IntKind.i64 (IntKind.wrap 
  IntKind.i64 ((13 : Int) + (↑(ByteArray.size (U.str bk)) : Int)) + IntKind.wrap IntKind.i64 (countB (U.list T) * (130 : Int))) + shotsN (List.drop (Int.toNat (0 : Int)) (U.list S)) + mapsN (List.drop (Int.toNat 
  (0 : Int)) (U.list M))) = U.i (IntKind.wrap IntKind.i64 (IntKind.wrap IntKind.i64 ((13 : Int) + (↑(ByteArray.size (U.str bk)) : Int)) + IntKind.wrap IntKind.i64 (countB (U.list T) * (130 : Int))) + shotsN 
  (List.drop (Int.toNat (0 : Int)) (U.list S)) + mapsN (List.drop (Int.toNat (0 : Int)) (U.list M))) ∧ List.length (U.list Q) ≤ (20000 : Nat) ∧ (0 : Int) ≤ (0 : Int) ∧ (0 : Int) ≤ (↑(List.length (U.list 
  Q)) : Int) ∧ (0 : Int) ≤ IntKind.wrap IntKind.i64 (IntKind.wrap IntKind.i64 ((13 : Int) + (↑(ByteArray.size (U.str bk)) : Int)) + IntKind.wrap IntKind.i64 (countB (U.list T) * (130 : Int))) + shotsN (List.drop 
  (Int.toNat (0 : Int)) (U.list S)) + mapsN (List.drop (Int.toNat (0 : Int)) (U.list M)) ∧ IntKind.wrap IntKind.i64 (IntKind.wrap IntKind.i64 ((13 : Int) + (↑(ByteArray.size (U.str bk)) : Int)) + IntKind.wrap 
  IntKind.i64 (countB (U.list T) * (130 : Int))) + shotsN (List.drop (Int.toNat (0 : Int)) (U.list S)) + mapsN (List.drop (Int.toNat (0 : Int)) (U.list M)) ≤ (2000000000 : Int) + (10 : Int) * (0 : Int)) 
  ∧ mputP [[c, sz, bk, T, S, M, Q]] ∧ bif metaE c sz bk T S M Q == (0 : Int) then bif (↑(List.length (metaX c sz bk T S M Q)) : Int) == IntKind.wrap IntKind.i64 (IntKind.wrap IntKind.i64 ((13 : Int) + (↑(ByteArray.size 
  (U.str bk)) : Int)) + IntKind.wrap IntKind.i64 (countB (U.list T) * (130 : Int))) + shotsN (List.drop (Int.toNat (0 : Int)) (U.list S)) + mapsN (List.drop (Int.toNat (0 : Int)) (U.list M)) + bif decide 
  ((0 : Int) = (0 : Int)) then countsN (U.list Q) else diffsN (U.int (nth (U.i (0 : Int)) (U.list Q) (Int.toNat ((0 : Int) - (1 : Int))))) (List.drop (Int.toNat (0 : Int)) (U.list Q)) then R [[U.b true]] 
  else R [[U.b false]] else R [[U.b false]]) := by kernel_rfl
end Go.Mat

/-
  WALKS 19: the law of a meta's length. Conditions: none.
-/
namespace Go.Mat
open Go Go.Den Go.Proofs

theorem countB_le : ∀ L : List U, 0 ≤ countB L ∧ countB L ≤ L.length
  | [] => by simp [countB]
  | l :: r => by
    have := countB_le r
    rw [countB, List.length_cons]
    cases decide (l.list = []) with
    | true => simp only [cond_true]; omega
    | false => simp only [cond_false]; omega
theorem leaves_loop : LoopOk leavesC 0 (loopBody Try.f16 0) := by
  refine loopOk_of (F := leavesLoop) (ts := [4, 3, 1]) (os := [128]) rfl (fun svs os => match svs, os with | .val _ i :: _, [.box [.val _ L]] => ((L.list.length : Int) - i.int).toNat | _, _ => 0) ?_
  intro pan svs os k ho1 ho2 h
  unfold leavesLoop at h
  split at h
  · rename_i i n p o ec L
    obtain ⟨⟨rfl, rfl, rfl, hnn, h0, hi, hn0, hn⟩, hk⟩ := h
    have hL : L.list.length ≤ maxLen := ho2.1.1.1
    unfold maxLen at hL
    refine .eq (leaves_round pan _ _ k i n L) ?_
    refine bd (fun hlt => dt ⟨h0, by omega⟩ ?_) (fun hlt => ?_)
    · rw [drop_at (by omega), countB] at hk
      simp only [U.at] at hk
      have hw : IntKind.wrap .i64 (i.int + 1) = i.int + 1 := i64_in (by omega) (by omega)
      have hw1 : IntKind.wrap .i64 (n.int + 1) = n.int + 1 := i64_in (by omega) (by omega)
      have hc : (i.int + 1).toNat = i.int.toNat + 1 := by omega
      have hlt' : ((L.list.length : Int) - (i.int + 1)).toNat < ((L.list.length : Int) - i.int).toNat := by omega
      simp only [hw, hw1, hc]
      refine bd (fun h1 => ?_) (fun h1 => ?_)
      · rw [decide_eq_false (by intro h2; rw [h2] at h1; simp at h1), cond_false, ← Int.add_assoc] at hk
        exact blt hlt' ⟨⟨by trivial, by trivial, by trivial, by trivial, by omega, by omega, by omega, by omega⟩, hk⟩
      · rw [decide_eq_true (List.eq_nil_of_length_eq_zero (by omega)), cond_true, Int.zero_add] at hk
        exact blt hlt' ⟨⟨by trivial, by trivial, by trivial, hnn, by omega, by omega, by omega, by omega⟩, hk⟩
    · rw [List.drop_of_length_le (by omega), countB, Int.add_zero, ← hnn] at hk
      exact hk
  · exact h.elim
theorem leaves_ok : SpecF PR 16 leavesS := fun fn us hfn => by
  have hf : PR.funcs[(16 : Nat)]? = some Try.f16 := by kernel_rfl
  rw [hf] at hfn; cases hfn
  refine fn_okH (C := leavesC) (mkC_ok eqs0_ok mixed_ok .nil .nil) hf (by kernel_rfl) (loops_one (by kernel_rfl) leaves_loop) fun hok => ?_
  have hp : Try.f16.params.toList = [24] := by kernel_rfl
  rw [hp] at hok
  obtain ⟨L, hus⟩ : ∃ L, us = [[L]] := by
    obtain ⟨u, rfl, h1⟩ := shape1 (by kernel_rfl : Cs PR 24 = some (true, [.sl false [.sl true [.int .i64, .int .i64, .int .i64, .int .i64, .int .u32]]])) hok.1
    obtain ⟨L, rfl⟩ := len1 h1
    exact ⟨L, rfl⟩
  subst hus
  refine .eq (leaves_tree _ L) ?_
  unfold leavesS
  simp only [nth_zero, nth_succ, Int.toNat_zero, List.drop_zero, Int.zero_add]
  exact ⟨⟨by trivial, by trivial, by trivial, by trivial, by omega, by omega, by omega, by omega⟩, by trivial⟩
theorem long_loop0 : LoopOk longC 0 (loopBody Try.f4 0) := by
  refine loopOk_of (F := longLoop0) (ts := [4, 3, 1]) (os := [128]) rfl (fun svs os => match svs, os with | .val _ i :: _, [.box [_, _, _, _, .val _ S, .val _ M, _]] => ((S.list.length : Int) - i.int).toNat | _, _ => 0) ?_
  intro pan svs os k ho1 ho2 h
  unfold longLoop0 at h
  split at h
  · rename_i i n p o c sz bk x1 T x2 S x3 M Q
    obtain ⟨⟨⟨rfl, rfl⟩, ⟨rfl, rfl, rfl⟩, hnn, hS, h0, hi, hlow, hn0, hn⟩, hk⟩ := h
    refine .eq (long_round0 pan _ _ k i n c sz bk T S M Q) ?_
    refine bd (fun hlt => dt ⟨h0, by omega⟩ (dt ⟨h0, by omega⟩ ?_)) (fun hlt => ?_)
    · have hs := hlow _ (mem_at (L := S.list) (i := i.int.toNat) (by omega))
      rw [drop_at (by omega), shotsN] at hk
      unfold shotLow at hs
      simp only [U.at, e0, e2] at hk hs
      have hcb := countB_le (nth (.i 0) (nth (.i 0) S.list i.int.toNat).list 2).list
      have hw : IntKind.wrap .i64 (i.int + 1) = i.int + 1 := i64_in (by omega) (by omega)
      have hc : (i.int + 1).toNat = i.int.toNat + 1 := by omega
      have hlt' : ((S.list.length : Int) - (i.int + 1)).toNat < ((S.list.length : Int) - i.int).toNat := by omega
      simp only [nth_drop, Nat.add_zero, hw, hc]
      rw [i64_in (x := n.int + 2) (by omega) (by omega), i64_in (x := n.int + 2 + _) (by omega) (by omega), i64_in (x := n.int + 2 + _ + 2) (by omega) (by omega), i64_in (x := n.int + 2 + _ + 2 + 2) (by omega) (by omega), i64_in (x := countB _ * 130) (by omega) (by omega), i64_in (x := n.int + 2 + _ + 2 + 2 + _) (by omega) (by omega)]
      rw [show n.int + (6 + ((nth (.i 0) (nth (.i 0) S.list i.int.toNat).list 0).str.size : Int) + countB (nth (.i 0) (nth (.i 0) S.list i.int.toNat).list 2).list * 130 + shotsN (S.list.drop (i.int.toNat + 1))) = n.int + 2 + ((nth (.i 0) (nth (.i 0) S.list i.int.toNat).list 0).str.size : Int) + 2 + 2 + countB (nth (.i 0) (nth (.i 0) S.list i.int.toNat).list 2).list * 130 + shotsN (S.list.drop (i.int.toNat + 1)) by omega] at hk
      exact blt hlt' ⟨⟨⟨by trivial, by trivial⟩, ⟨by trivial, by trivial, by trivial⟩, by trivial, hS, by omega, by omega, hlow, by omega, by omega⟩, hk⟩
    · rw [List.drop_of_length_le (by omega), shotsN, Int.add_zero, ← hnn] at hk
      exact hk
  · exact h.elim
theorem long_loop2 : LoopOk longC 2 (loopBody Try.f4 1) := by
  refine loopOk_of (F := longLoop2) (ts := [5, 3, 1]) (os := [128]) rfl (fun svs os => match svs, os with | .val _ i :: _, [.box [_, _, _, _, .val _ S, .val _ M, _]] => ((M.list.length : Int) - i.int).toNat | _, _ => 0) ?_
  intro pan svs os k ho1 ho2 h
  unfold longLoop2 at h
  split at h
  · rename_i i n p o c sz bk x1 T x2 S x3 M Q
    obtain ⟨⟨⟨rfl, rfl⟩, ⟨rfl, rfl, rfl⟩, hnn, hS, h0, hi, hlow, hn0, hn⟩, hk⟩ := h
    refine .eq (long_round2 pan _ _ k i n c sz bk T S M Q) ?_
    refine bd (fun hlt => dt ⟨h0, by omega⟩ (dt ⟨h0, by omega⟩ ?_)) (fun hlt => ?_)
    · have hs := hlow _ (mem_at (L := M.list) (i := i.int.toNat) (by omega))
      rw [drop_at (by omega), mapsN] at hk
      unfold mapLow at hs
      simp only [U.at, e0, e2] at hk hs

      have hw : IntKind.wrap .i64 (i.int + 1) = i.int + 1 := i64_in (by omega) (by omega)
      have hc : (i.int + 1).toNat = i.int.toNat + 1 := by omega
      have hlt' : ((M.list.length : Int) - (i.int + 1)).toNat < ((M.list.length : Int) - i.int).toNat := by omega
      simp only [nth_drop, Nat.add_zero, hw, hc]
      rw [i64_in (x := n.int + 2) (by omega) (by omega), i64_in (x := n.int + 2 + _) (by omega) (by omega), i64_in (x := n.int + 2 + _ + 1) (by omega) (by omega), i64_in (x := n.int + 2 + _ + 1 + 2) (by omega) (by omega), i64_in (x := 4 * _) (by omega) (by omega), i64_in (x := n.int + 2 + _ + 1 + 2 + _) (by omega) (by omega)]
      rw [show n.int + (5 + ((nth (.i 0) (nth (.i 0) M.list i.int.toNat).list 0).str.size : Int) + 4 * ((nth (.i 0) (nth (.i 0) M.list i.int.toNat).list 2).list.length : Int) + mapsN (M.list.drop (i.int.toNat + 1))) = n.int + 2 + ((nth (.i 0) (nth (.i 0) M.list i.int.toNat).list 0).str.size : Int) + 1 + 2 + 4 * ((nth (.i 0) (nth (.i 0) M.list i.int.toNat).list 2).list.length : Int) + mapsN (M.list.drop (i.int.toNat + 1)) by omega] at hk
      exact blt hlt' ⟨⟨⟨by trivial, by trivial⟩, ⟨by trivial, by trivial, by trivial⟩, by trivial, hS, by omega, by omega, hlow, by omega, by omega⟩, hk⟩
    · rw [List.drop_of_length_le (by omega), mapsN, Int.add_zero, ← hnn] at hk
      exact hk
  · exact h.elim
theorem diffs_step {Q : List U} {i : Nat} (h : i < Q.length) (hi : i ≠ 0) : diffsN (U.at Q (i - 1)).int (Q.drop i) = (bif (U.at Q i).int == (U.at Q (i - 1)).int then 0 else 4) + diffsN (U.at Q i).int (Q.drop (i + 1)) := by
  rw [drop_at h, diffsN]
theorem long_loop4 : LoopOk longC 4 (loopBody Try.f4 2) := by
  refine loopOk_of (F := longLoop4) (ts := [6, 3, 1]) (os := [128]) rfl (fun svs os => match svs, os with | .val _ i :: _, [.box [_, _, _, _, _, _, .val _ Q]] => ((Q.list.length : Int) - i.int).toNat | _, _ => 0) ?_
  intro pan svs os k ho1 ho2 h
  unfold longLoop4 at h
  split at h
  · rename_i i n p o c sz bk x1 T x2 S x3 M Q
    obtain ⟨⟨⟨rfl, rfl⟩, ⟨rfl, rfl, rfl⟩, hnn, hS, h0, hi, hn0, hn⟩, hk⟩ := h
    refine .eq (long_round4 pan _ _ k i n c sz bk T S M Q) ?_
    have hw : IntKind.wrap .i64 (i.int + 1) = i.int + 1 := i64_in (by omega) (by omega)
    have hw1 : IntKind.wrap .i64 (n.int + 4) = n.int + 4 := i64_in (by omega) (by omega)
    have hw2 : IntKind.wrap .i64 (i.int - 1) = i.int - 1 := i64_in (by omega) (by omega)
    simp only [hw, hw1, hw2]
    have hne : decide (i.int + 1 = 0) = false := decide_eq_false (by omega)
    have hii : i.int + 1 - 1 = i.int := by omega
    have hc : (i.int + 1).toNat = i.int.toNat + 1 := by omega
    rw [hne, cond_false, hii, hc]
    refine bd (fun hlt => bi (fun hz => ?_) (fun hz => dt ⟨h0, by omega⟩ ?_)) (fun hlt => ?_)
    · have hz : i.int = 0 := by simpa using hz
      rw [decide_eq_true hz, cond_true] at hk
      have hlt' : ((Q.list.length : Int) - (i.int + 1)).toNat < ((Q.list.length : Int) - i.int).toNat := by omega
      have hq : countsN Q.list = 4 + diffsN (nth (.i 0) Q.list i.int.toNat).int (Q.list.drop (i.int.toNat + 1)) := by
        have h1 : i.int.toNat = 0 := by omega
        rw [h1]
        cases hQ : Q.list with
        | nil => rw [hQ] at hlt; simp at hlt; omega
        | cons x r => rfl
      rw [hq, ← Int.add_assoc] at hk
      exact blt hlt' ⟨⟨⟨by trivial, by trivial⟩, ⟨by trivial, by trivial, by trivial⟩, by trivial, hS, by omega, by omega, by omega, by omega⟩, hk⟩
    · have hz : ¬ i.int = 0 := by simpa using hz
      rw [decide_eq_false hz, cond_false, show (i.int - 1).toNat = i.int.toNat - 1 by omega, diffs_step (by omega) (by omega)] at hk
      simp only [U.at] at hk
      have hlt' : ((Q.list.length : Int) - (i.int + 1)).toNat < ((Q.list.length : Int) - i.int).toNat := by omega
      rw [show (i.int - 1).toNat = i.int.toNat - 1 by omega]
      refine dt ⟨by omega, by omega⟩ (bi (fun h1 => ?_) (fun h1 => ?_))
      · have h2 : ((nth (U.i 0) Q.list i.int.toNat).int == (nth (U.i 0) Q.list (i.int.toNat - 1)).int) = false := by simpa using h1
        rw [h2, cond_false, ← Int.add_assoc] at hk
        exact blt hlt' ⟨⟨⟨by trivial, by trivial⟩, ⟨by trivial, by trivial, by trivial⟩, by trivial, hS, by omega, by omega, by omega, by omega⟩, hk⟩
      · have h2 : ((nth (U.i 0) Q.list i.int.toNat).int == (nth (U.i 0) Q.list (i.int.toNat - 1)).int) = true := by simpa using h1
        rw [h2, cond_true, Int.zero_add] at hk
        exact blt hlt' ⟨⟨⟨by trivial, by trivial⟩, ⟨by trivial, by trivial, by trivial⟩, hnn, hS, by omega, by omega, by omega, by omega⟩, hk⟩
    · have he : (bif decide (i.int = 0) then countsN Q.list else diffsN (U.at Q.list (i.int - 1).toNat).int (Q.list.drop i.int.toNat)) = 0 := by
        by_cases hz : i.int = 0
        · have : Q.list = [] := List.eq_nil_of_length_eq_zero (by omega)
          rw [decide_eq_true hz, this]; rfl
        · rw [decide_eq_false hz, List.drop_of_length_le (by omega)]; rfl
      rw [he, Int.add_zero, ← hnn] at hk
      exact hk
  · exact h.elim
end Go.Mat
