/- A part of the proof of this: Of any bytes meta.Get and the document's Get tell the same meta, or both refuse them. Conditions: none. Joined of F13, B14, F14, B15, F15, B16, F16, B17, F17, B22, F22, B23, F23, F24, B30, F30. -/
import Derived.Test.YtmgncojckndckaaC3
import Derived.Laws.LoneSync
import Derived.KernelRfl
namespace Go.Mat
open Go Go.Den Go.Proofs
theorem run_add64 {x y : Int} {w : World} : (Op.intArith .add .i64 x y).run PR w = .ok (.int .i64 (IntKind.wrap .i64 (x + y))) w := rfl
theorem ext_load : ExtOk PR 79 .load := fun a x w h => by
  have hf : PR.funcs[(79 : Nat)]? = some Try.f79 := by kernel_rfl
  exact run_call_load hf (by kernel_rfl) (by kernel_rfl) (by kernel_rfl) .i64 (by kernel_rfl) h
theorem ext_add : ExtOk PR 78 .add := fun a x y w h hz => by
  have hf : PR.funcs[(78 : Nat)]? = some Try.f78 := by kernel_rfl
  exact run_call_add hf (by kernel_rfl) (by kernel_rfl) (by kernel_rfl) .i64 (by kernel_rfl) h hz run_add64
theorem add_ok : SpecT PR 68 addF := fun fn hfn => by
  have hf : PR.funcs[(68 : Nat)]? = some Try.f68 := by kernel_rfl
  rw [hf] at hfn; cases hfn
  refine fnT_okH (C := K0.withExt 78 .add) (Ctx.Ok.withExt (mkC_ok eqs0_ok mixed_ok .nil .nil) ext_add) hf (by kernel_rfl) (loops_none (by kernel_rfl)) fun vs objs R h1 h2 h => ?_
  unfold addF at h
  split at h
  · rename_i p o d i x
    obtain ⟨⟨rfl, rfl, rfl⟩, h⟩ := h
    refine .eq (add_tree R d x) ?_
    exact h
  · exact h.elim
theorem load_ok : SpecT PR 69 loadF := fun fn hfn => by
  have hf : PR.funcs[(69 : Nat)]? = some Try.f69 := by kernel_rfl
  rw [hf] at hfn; cases hfn
  refine fnT_okH (C := K0.withExt 79 .load) (Ctx.Ok.withExt (mkC_ok eqs0_ok mixed_ok .nil .nil) ext_load) hf (by kernel_rfl) (loops_none (by kernel_rfl)) fun vs objs R h1 h2 h => ?_
  unfold loadF at h
  split at h
  · rename_i p o i x
    obtain ⟨⟨rfl, rfl, rfl⟩, h⟩ := h
    refine .eq (load_tree R x) ?_
    exact h
  · exact h.elim
theorem text_ok : SpecFP PR 50 textP textS := fun fn us hfn hpre => by
  have hf : PR.funcs[(50 : Nat)]? = some Try.f50 := by kernel_rfl
  rw [hf] at hfn; cases hfn
  refine fn_okH (C := textC) (mkC_ok eqs0_ok mixed_ok .nil (.cons add_ok (.cons load_ok (.cons put_ok .nil)))) hf (by kernel_rfl) (loops_none (by kernel_rfl)) fun hok => ?_
  have hp : Try.f50.params.toList = [32, 9] := by kernel_rfl
  rw [hp] at hok
  obtain ⟨b, s, hus⟩ : ∃ b s, us = [[b], [s]] := by
    obtain ⟨u, u2, rfl, h1, h2⟩ := shape2 (by kernel_rfl : Cs PR 32 = some (false, [.sl false [.int .u8]])) (by kernel_rfl : Cs PR 9 = some (false, [.str])) hok.1
    obtain ⟨b, rfl⟩ := len1 h1
    obtain ⟨s, rfl⟩ := len1 h2
    exact ⟨b, s, rfl⟩
  subst hus
  refine .eq (text_tree _ _ _) ?_
  have hs : s.str.size ≤ maxLen := (hok.2 [vl (.int .u8) b, vs s] (by kernel_rfl)).2.1
  unfold maxLen at hs
  unfold textP at hpre
  unfold textS textB textE
  simp only [nth_zero, nth_succ] at hpre ⊢
  rw [i64_in (by omega) (by omega), Int.zero_add]
  refine ⟨⟨by trivial, by trivial, by trivial⟩, ⟨by trivial, by trivial, by trivial⟩, ?_⟩
  refine bi (fun h => by rw [show longB s.str = true from h]; rfl) (fun h => ?_)
  rw [show longB s.str = false from h]
  have h := of_decide_eq_false h
  have hg := good2 (v := s.str.size) (by omega) (by omega)
  have h4 := num_len b.list 2 s.str.size
  simp only [Int.reduceToNat] at h4
  have hl : (List.map (fun b : UInt8 => U.i (b.toNat : Int)) s.str.data.toList).length = s.str.size := by rw [List.length_map, str_len]
  refine ⟨⟨by trivial, by trivial, by trivial⟩, hpre, broom ?_ rfl ?_⟩
  · rw [hl]
    show (num b.list 2 s.str.size).length + _ ≤ 1073741824
    omega
  · rw [hg]; rfl
theorem rtext_ok : SpecT PR 28 rtextF := fun fn hfn => by
  have hf : PR.funcs[(28 : Nat)]? = some Try.f28 := by kernel_rfl
  rw [hf] at hfn; cases hfn
  refine fnT_okH (C := K0) (mkC_ok eqs0_ok mixed_ok .nil .nil) hf (by kernel_rfl) (loops_none (by kernel_rfl)) fun vs objs R h1 h2 h => ?_
  unfold rtextF at h
  split at h
  · rename_i b s
    obtain ⟨hb, h⟩ := h
    refine .eq (rtext_tree R b s) ?_
    unfold textB textE at h
    refine bi (fun h0 => by rw [show longB s.str = true from h0] at h; exact h) (fun h0 => ?_)
    rw [show longB s.str = false from h0] at h
    have h0 := of_decide_eq_false h0
    have hl : (List.map (fun b : UInt8 => U.i (b.toNat : Int)) s.str.data.toList).length = s.str.size := by rw [List.length_map, str_len]
    have hn : num b.list 2 s.str.size = [] ++ b.list ++ List.set (List.set (List.replicate (2 : Nat) (U.i 0)) 0 (U.i (IntKind.wrap .u8 s.str.size))) 1 (U.i (IntKind.wrap .u8 (Int.fdiv s.str.size (2 ^ min (Int.toNat 8) (IntKind.bits .i64))))) := by
      rw [num_app (good2 (v := s.str.size) (by omega) (by omega)), List.nil_append]
      congr 1
      unfold num putX
      rw [good2 (v := s.str.size) (by omega) (by omega), if_pos rfl, u64_in (by omega) (by omega), u8_wrap, u8_wrap, Int.fdiv_eq_ediv_of_nonneg _ (by decide)]
      show [U.i (byteAt s.str.size 0), U.i (byteAt s.str.size 1)] = [_, _]
      unfold byteAt
      simp [IntKind.bits]
    rw [hn] at h
    refine broom (by simp [room]; omega) rfl (broom (by simp [room]; omega) rfl (broom ?_ rfl h))
    rw [hl]; simp [room]; omega
  · exact h.elim
end Go.Mat

namespace Go.Mat
open Go Go.Den Go.Proofs
abbrev wIs (p o i q j : Nat) (t : TypeId) : Prop := p = 2097153 ∧ o = 0 ∧ i = 2097153 ∧ q = 2097280 ∧ j = 2097280 ∧ t = u8T
abbrev wObjs (xs : List U) : Objs := [(2097153, .box [.own 2097280]), (2097280, .arr u8T xs)]
noncomputable def wnumF : Tr := fun vs objs k => match vs, objs with
  | [.ptr p o, .val (.int .i64) n, .val (.int .i64) v], [(i, .box [.own q]), (j, .arr t xs)] =>
    (wIs p o i q j t ∧ n.int ≤ 8 ∧ xs.length ≤ 800000000) ∧ k (.ret []) (wObjs (xs ++ num [] n.int v.int))
  | _, _ => False
noncomputable def wtextF : Tr := fun vs objs k => match vs, objs with
  | [.ptr p o, .val .str s], [(i, .box [.own q]), (j, .arr t xs)] =>
    (wIs p o i q j t ∧ xs.length ≤ 800000000) ∧ k (.ret []) (wObjs (xs ++ textB [] s.str))
  | _, _ => False
def tabX (L : List U) (k : Int) : List U := bif tableR L 4096 k then tputB L k else []
noncomputable def wtableF : Tr := fun vs objs k => match vs, objs with
  | [.ptr p o, .agg [.val (.sl false [.sl true ec]) L], .val (.int .i64) c], [(i, .box [.own q]), (j, .arr t xs)] =>
    (wIs p o i q j t ∧ ec = EC ∧ L.list.length ≤ 1099511627776 ∧ xs.length ≤ 800000000) ∧ k (.ret []) (wObjs (xs ++ tabX L.list c.int))
  | _, _ => False
def spansB : List U → List U
  | [] => []
  | s :: r => num [] 2 (e0 s).int ++ num [] 2 (e1 s).int ++ spansB r
def onB (b : Bool) : Int := bif b then 1 else 0
def mapB (nm : ByteArray) (on : Bool) (L : List U) : List U := textB [] nm ++ num [] 1 (onB on) ++ num [] 2 L.length ++ spansB L
noncomputable def wmapF : Tr := fun vs objs k => match vs, objs with
  | [.ptr p o, .agg [.val .str nm, .val .bool on, .val (.sl true ec) L]], [(i, .box [.own q]), (j, .arr t xs)] =>
    (wIs p o i q j t ∧ ec = SpC ∧ (xs.length : Int) + 8 * L.list.length ≤ 700000000) ∧ k (.ret []) (wObjs (xs ++ mapB nm.str on.bool L.list))
  | _, _ => False
def runsB (x n : Int) : List U → List U
  | [] => num [] 2 n ++ num [] 2 x
  | y :: r => bif decide (n < 65535) && (y.int == x) then runsB x (n + 1) r else num [] 2 n ++ num [] 2 x ++ runsB y.int 1 r
def countsB : List U → List U
  | [] => []
  | x :: r => runsB x.int 1 r
def lead (x n : Int) : List U → Int
  | [] => n
  | y :: r => bif decide (n < 65535) && (y.int == x) then lead x (n + 1) r else n
noncomputable def wcountsF : Tr := fun vs objs k => match vs, objs with
  | [.ptr p o, .val (.sl false [.int .i64]) L], [(i, .box [.own q]), (j, .arr t xs)] =>
    (wIs p o i q j t ∧ (xs.length : Int) + 8 * L.list.length ≤ 700000000) ∧ k (.ret []) (wObjs (xs ++ (num [] 4 L.list.length ++ countsB L.list)))
  | _, _ => False
noncomputable def wtextC : Ctx := mkC PR eqs0 (fnsConsP 50 textP textS fnsNil) trsNil noLoops noOut noOut
noncomputable def wtableC : Ctx := mkC PR eqs0 (fnsConsP 51 tputP tputS fnsNil) trsNil noLoops noOut noOut
noncomputable def wmapLoop : LoopF := fun _ svs os k => match svs, os with
  | [.val (.int .i64) i, .val (.int .i64) n, .val (.sl true ec) L, .ptr p o], [.box [.own q], .arr t xs] =>
    ((p = 2097153 ∧ o = 0 ∧ q = 2097280 ∧ t = u8T) ∧ ec = SpC ∧ n.int = (L.list.length : Int) ∧ 0 ≤ i.int ∧ i.int ≤ n.int ∧ (xs.length : Int) + 8 * (n.int - i.int) ≤ 750000000) ∧ k (.exit 0) ⟨[], wObjs (xs ++ spansB (L.list.drop i.int.toNat))⟩
  | _, _ => False
noncomputable def wmapC : Ctx := mkC PR eqs0 fnsNil (trsCons 22 [false, false, false] wnumF (trsCons 23 [false, false] wtextF trsNil))
  (loopCons 0 [24, 23, 22, 0] [2097153, 2097280] wmapLoop noLoops) (outCons 0 [] [2097153, 2097280] noOut) noOut
noncomputable def wcLoop2 : LoopF := fun _ svs os k => match svs, os with
  | [.val (.int .i64) n, .val (.int .i64) i, .val (.sl false [.int .i64]) L, .ptr p o], [.box [.own q], .arr t xs] =>
    ((p = 2097153 ∧ o = 0 ∧ q = 2097280 ∧ t = u8T) ∧ n = .i n.int ∧ 0 ≤ i.int ∧ 1 ≤ n.int ∧ n.int ≤ 65535 ∧ i.int + n.int ≤ L.list.length ∧ L.list.length ≤ 1000000000) ∧
    k (.exit 2) ⟨[(5, vi (.i (lead (U.at L.list i.int.toNat).int n.int (L.list.drop (i.int + n.int).toNat)))), (4, vi i), (1, vl (.int .i64) L), (0, .ptr 2097153 0)], wObjs xs⟩
  | _, _ => False
noncomputable def wcLoop0 : LoopF := fun _ svs os k => match svs, os with
  | [.val (.int .i64) i, .val (.sl false [.int .i64]) L, .ptr p o], [.box [.own q], .arr t xs] =>
    ((p = 2097153 ∧ o = 0 ∧ q = 2097280 ∧ t = u8T) ∧ 0 ≤ i.int ∧ i.int ≤ L.list.length ∧ L.list.length ≤ 1000000000 ∧ (xs.length : Int) + 8 * (L.list.length - i.int) ≤ 750000000) ∧
    k (.exit 0) ⟨[], wObjs (xs ++ countsB (L.list.drop i.int.toNat))⟩
  | _, _ => False
noncomputable def wcC : Ctx := mkC PR eqs0 fnsNil (trsCons 22 [false, false, false] wnumF trsNil)
  (loopCons 2 [5, 4, 1, 0] [2097153, 2097280] wcLoop2 (loopCons 0 [4, 1, 0] [2097153, 2097280] wcLoop0 noLoops)) (outCons 2 [5, 4, 1, 0] [2097153, 2097280] (outCons 0 [] [2097153, 2097280] noOut)) noOut
theorem wtext_tree (R : RT) (s : U) (xs : List U) : (runD wtextC Try.f23 [.ptr 2097153 0, vs s] (wObjs xs) R) = (textP [[U.l []], [s]] ∧ bif decide (List.length xs + List.length (textB [] (U.str s)) ≤ room) && !oddB (2097280 : Nat) then R (Out.ret []) [(nat_lit 2097153, Obj.box [SV.own (nat_lit 2097280)]), (nat_lit
  2097280, Obj.arr (nat_lit 5) (xs ++ textB [] (U.str s)))] else False) := by kernel_rfl
theorem wtable_tree (R : RT) (L c : U) (xs : List U) : (runD wtableC Try.f24 [.ptr 2097153 0, .agg [vl (.sl true EC) L], vi c] (wObjs xs) R) = (tputP [[L], [c]] ∧ bif decide (List.length xs + List.length (bif tableR (U.list L) (4096 : Int) (U.int c) then tputB (U.list L) (U.int c) else []) ≤ room) && !oddB (2097280 : Nat) then R (Out.ret []) [(nat_lit
  2097153, Obj.box [SV.own (nat_lit 2097280)]), (nat_lit 2097280, Obj.arr (nat_lit 5) (xs ++ bif tableR (U.list L) (4096 : Int) (U.int c) then tputB (U.list L) (U.int c) else []))] else False) := by kernel_rfl
theorem wmap_round (pan : KP) (μ : Mu) (N : Nat) (k : KE) (i n L : U) (xs : List U) : (exec (wmapC.panics pan) (loopBody Try.f25 0) 0 ⟨[(24, vi i), (23, vi n), (22, vt SpC L), (0, .ptr 2097153 0)], wObjs xs⟩ (again PR (some ([], [2097153, 2097280])) none pan [24, 23, 22, 0] [2097153, 2097280] wmapLoop μ N k)) = (bif decide (i.int < n.int) then bif decide ((0 : Int) ≤ i.int ∧ i.int < (L.list.length : Int)) then (wIs ((2097152 : Nat) + (1 : Nat)) (0 : Nat) ((2097152 : Nat) + (1 : Nat)) ((2097279 : Nat) + (1 : Nat)) ((2097279 : Nat) + (1 : Nat)) ((4 : Nat) + (1 : Nat)) ∧ (2 : Int) ≤ (8 : Int) ∧ List.length xs ≤ (800000000 : Nat)) ∧ (wIs ((2097152 : Nat) + (1 : Nat)) (0 : Nat) ((2097152 : Nat) + (1 : Nat)) ((2097279 : Nat) + (1 : Nat)) ((2097279 : Nat) + (1 : Nat)) ((4 : Nat) + (1 : Nat)) ∧ (2 : Int) ≤ (8 : Int) ∧ List.length (xs ++ num [] (2 : Int) (U.int (nth (U.i (0 : Int)) (U.list (nth (U.i (0 : Int)) L.list (Int.toNat i.int))) (0 : Nat)))) ≤ (800000000 : Nat)) ∧ bif Nat.blt (μ [.val (.int IntKind.i64) (U.i (IntKind.wrap .i64 (i.int + (1 : Int)))), .val (.int IntKind.i64) n, .val (.sl true [.int .i64, .int .i64]) L, .ptr (nat_lit 2097153) (nat_lit 0)] [.box [.own (nat_lit 2097280)], .arr (nat_lit 5) (xs ++ num [] (2 : Int) (U.int (nth (U.i (0 : Int)) (U.list (nth (U.i (0 : Int)) L.list (Int.toNat i.int))) (0 : Nat))) ++ num [] (2 : Int) (U.int (nth (U.i (0 : Int)) (List.tail (U.list (nth (U.i (0 : Int)) L.list (Int.toNat i.int)))) (0 : Nat))))]) N then ((nat_lit 2097153 = nat_lit 2097153 ∧ nat_lit 0 = nat_lit 0 ∧ nat_lit 2097280 = nat_lit 2097280 ∧ nat_lit 5 = nat_lit 5) ∧ [Ct.int IntKind.i64, Ct.int IntKind.i64] = [.int .i64, .int .i64] ∧ n.int = (L.list.length : Int) ∧ (0 : Int) ≤ IntKind.wrap .i64 (i.int + (1 : Int)) ∧ IntKind.wrap .i64 (i.int + (1 : Int)) ≤ n.int ∧ (↑(List.length (xs ++ num [] (2 : Int) (U.int (nth (U.i (0 : Int)) (U.list (nth (U.i (0 : Int)) L.list (Int.toNat i.int))) (0 : Nat))) ++ num [] (2 : Int) (U.int (nth (U.i (0 : Int)) (List.tail (U.list (nth (U.i (0 : Int)) L.list (Int.toNat i.int)))) (0 : Nat))))) : Int) + (8 : Int) * (n.int - IntKind.wrap .i64 (i.int + (1 : Int))) ≤ (750000000 : Int)) ∧ k (Ex.exit (nat_lit 0)) (St.mk [] [(nat_lit 2097153, .box [.own (nat_lit 2097280)]), (nat_lit 2097280, .arr (nat_lit 5) (xs ++ num [] (2 : Int) (U.int (nth (U.i (0 : Int)) (U.list (nth (U.i (0 : Int)) L.list (Int.toNat i.int))) (0 : Nat))) ++ num [] (2 : Int) (U.int (nth (U.i (0 : Int)) (List.tail (U.list (nth (U.i (0 : Int)) L.list (Int.toNat i.int)))) (0 : Nat))) ++ spansB (List.drop (Int.toNat (IntKind.wrap .i64 (i.int + (1 : Int)))) L.list)))]) else False else False else k (Ex.exit (nat_lit 0)) (St.mk [] [(nat_lit 2097153, .box [.own (nat_lit 2097280)]), (nat_lit 2097280, .arr (nat_lit 5) xs)])) := by kernel_rfl
theorem wmap_tree (R : RT) (nm on L : U) (xs : List U) : (runD wmapC Try.f25 [.ptr 2097153 0, .agg [vs nm, vb on, vt SpC L]] (wObjs xs) R) = ((wIs ((2097152 : Nat) + (1 : Nat)) (0 : Nat) ((2097152 : Nat) + (1 : Nat)) ((2097279 : Nat) + (1 : Nat)) ((2097279 : Nat) + (1 : Nat)) ((4 : Nat) + (1 : Nat)) ∧ List.length xs ≤ (800000000 : Nat)) ∧ bif on.bool then (wIs ((2097152 : Nat) + (1 : Nat)) (0 : Nat) ((2097152 : Nat) + (1 : Nat)) ((2097279 : Nat) + (1 : Nat)) ((2097279 : Nat) + (1 : Nat)) ((4 : Nat) + (1 : Nat)) ∧ (1 : Int) ≤ (8 : Int) ∧ List.length (xs ++ textB [] nm.str) ≤ (800000000 : Nat)) ∧ (wIs ((2097152 : Nat) + (1 : Nat)) (0 : Nat) ((2097152 : Nat) + (1 : Nat)) ((2097279 : Nat) + (1 : Nat)) ((2097279 : Nat) + (1 : Nat)) ((4 : Nat) + (1 : Nat)) ∧ (2 : Int) ≤ (8 : Int) ∧ List.length (xs ++ textB [] nm.str ++ num [] (1 : Int) (1 : Int)) ≤ (800000000 : Nat)) ∧ ((nat_lit 2097153 = nat_lit 2097153 ∧ nat_lit 0 = nat_lit 0 ∧ nat_lit 2097280 = nat_lit 2097280 ∧ nat_lit 5 = nat_lit 5) ∧ [Ct.int IntKind.i64, Ct.int IntKind.i64] = [.int .i64, .int .i64] ∧ (L.list.length : Int) = (L.list.length : Int) ∧ (0 : Int) ≤ (0 : Int) ∧ (0 : Int) ≤ (L.list.length : Int) ∧ (↑(List.length (xs ++ textB [] nm.str ++ num [] (1 : Int) (1 : Int) ++ num [] (2 : Int) (L.list.length : Int))) : Int) + (8 : Int) * ((L.list.length : Int) - (0 : Int)) ≤ (750000000 : Int)) ∧ R (Out.ret []) [(nat_lit 2097153, .box [.own (nat_lit 2097280)]), (nat_lit 2097280, .arr (nat_lit 5) (xs ++ textB [] nm.str ++ num [] (1 : Int) (1 : Int) ++ num [] (2 : Int) (L.list.length : Int) ++ spansB (List.drop (Int.toNat (0 : Int)) L.list)))] else (wIs ((2097152 : Nat) + (1 : Nat)) (0 : Nat) ((2097152 : Nat) + (1 : Nat)) ((2097279 : Nat) + (1 : Nat)) ((2097279 : Nat) + (1 : Nat)) ((4 : Nat) + (1 : Nat)) ∧ (1 : Int) ≤ (8 : Int) ∧ List.length (xs ++ textB [] nm.str) ≤ (800000000 : Nat)) ∧ (wIs ((2097152 : Nat) + (1 : Nat)) (0 : Nat) ((2097152 : Nat) + (1 : Nat)) ((2097279 : Nat) + (1 : Nat)) ((2097279 : Nat) + (1 : Nat)) ((4 : Nat) + (1 : Nat)) ∧ (2 : Int) ≤ (8 : Int) ∧ List.length (xs ++ textB [] nm.str ++ num [] (1 : Int) (0 : Int)) ≤ (800000000 : Nat)) ∧ ((nat_lit 2097153 = nat_lit 2097153 ∧ nat_lit 0 = nat_lit 0 ∧ nat_lit 2097280 = nat_lit 2097280 ∧ nat_lit 5 = nat_lit 5) ∧ [Ct.int IntKind.i64, Ct.int IntKind.i64] = [.int .i64, .int .i64] ∧ (L.list.length : Int) = (L.list.length : Int) ∧ (0 : Int) ≤ (0 : Int) ∧ (0 : Int) ≤ (L.list.length : Int) ∧ (↑(List.length (xs ++ textB [] nm.str ++ num [] (1 : Int) (0 : Int) ++ num [] (2 : Int) (L.list.length : Int))) : Int) + (8 : Int) * ((L.list.length : Int) - (0 : Int)) ≤ (750000000 : Int)) ∧ R (Out.ret []) [(nat_lit 2097153, .box [.own (nat_lit 2097280)]), (nat_lit 2097280, .arr (nat_lit 5) (xs ++ textB [] nm.str ++ num [] (1 : Int) (0 : Int) ++ num [] (2 : Int) (L.list.length : Int) ++ spansB (List.drop (Int.toNat (0 : Int)) L.list)))]) := by kernel_rfl
theorem wc_round2 (pan : KP) (μ : Mu) (N : Nat) (k : KE) (n i L : U) (xs : List U) : (exec (wcC.panics pan) (loopBody Try.f26 1) 2 ⟨[(5, vi n), (4, vi i), (1, vl (.int .i64) L), (0, .ptr 2097153 0)], wObjs xs⟩ (again PR (some ([5, 4, 1, 0], [2097153, 2097280])) none pan [5, 4, 1, 0] [2097153, 2097280] wcLoop2 μ N k)) = (bif decide (n.int < (65535 : Int)) then bif decide (IntKind.wrap .i64 (i.int + n.int) < (L.list.length : Int)) then bif decide ((0 : Int) ≤ IntKind.wrap .i64 (i.int + n.int) ∧ IntKind.wrap .i64 (i.int + n.int) < (L.list.length : Int)) then bif decide ((0 : Int) ≤ i.int ∧ i.int < (L.list.length : Int)) then bif U.int (nth (U.i (0 : Int)) L.list (Int.toNat (IntKind.wrap .i64 (i.int + n.int)))) == U.int (nth (U.i (0 : Int)) L.list (Int.toNat i.int)) then bif Nat.blt (μ [.val (.int IntKind.i64) (U.i (IntKind.wrap .i64 (n.int + (1 : Int)))), .val (.int IntKind.i64) i, .val (.sl false [.int .i64]) L, .ptr (nat_lit 2097153) (nat_lit 0)] [.box [.own (nat_lit 2097280)], .arr (nat_lit 5) xs]) N then ((nat_lit 2097153 = nat_lit 2097153 ∧ nat_lit 0 = nat_lit 0 ∧ nat_lit 2097280 = nat_lit 2097280 ∧ nat_lit 5 = nat_lit 5) ∧ U.i (IntKind.wrap .i64 (n.int + (1 : Int))) = U.i (IntKind.wrap .i64 (n.int + (1 : Int))) ∧ (0 : Int) ≤ i.int ∧ (1 : Int) ≤ IntKind.wrap .i64 (n.int + (1 : Int)) ∧ IntKind.wrap .i64 (n.int + (1 : Int)) ≤ (65535 : Int) ∧ i.int + IntKind.wrap .i64 (n.int + (1 : Int)) ≤ (L.list.length : Int) ∧ L.list.length ≤ (1000000000 : Nat)) ∧ k (Ex.exit (nat_lit 2)) (St.mk [(nat_lit 5, .val (.int IntKind.i64) (U.i (lead (U.int (nth (U.i (0 : Int)) L.list (Int.toNat i.int))) (IntKind.wrap .i64 (n.int + (1 : Int))) (List.drop (Int.toNat (i.int + IntKind.wrap .i64 (n.int + (1 : Int)))) L.list)))), (nat_lit 4, .val (.int IntKind.i64) i), (nat_lit 1, .val (.sl false [.int .i64]) L), (nat_lit 0, .ptr (nat_lit 2097153) (nat_lit 0))] [(nat_lit 2097153, .box [.own (nat_lit 2097280)]), (nat_lit 2097280, .arr (nat_lit 5) xs)]) else False else k (Ex.exit (nat_lit 2)) (St.mk [(nat_lit 5, .val (.int IntKind.i64) n), (nat_lit 4, .val (.int IntKind.i64) i), (nat_lit 1, .val (.sl false [.int .i64]) L), (nat_lit 0, .ptr (nat_lit 2097153) (nat_lit 0))] [(nat_lit 2097153, .box [.own (nat_lit 2097280)]), (nat_lit 2097280, .arr (nat_lit 5) xs)]) else False else False else k (Ex.exit (nat_lit 2)) (St.mk [(nat_lit 5, .val (.int IntKind.i64) n), (nat_lit 4, .val (.int IntKind.i64) i), (nat_lit 1, .val (.sl false [.int .i64]) L), (nat_lit 0, .ptr (nat_lit 2097153) (nat_lit 0))] [(nat_lit 2097153, .box [.own (nat_lit 2097280)]), (nat_lit 2097280, .arr (nat_lit 5) xs)]) else k (Ex.exit (nat_lit 2)) (St.mk [(nat_lit 5, .val (.int IntKind.i64) n), (nat_lit 4, .val (.int IntKind.i64) i), (nat_lit 1, .val (.sl false [.int .i64]) L), (nat_lit 0, .ptr (nat_lit 2097153) (nat_lit 0))] [(nat_lit 2097153, .box [.own (nat_lit 2097280)]), (nat_lit 2097280, .arr (nat_lit 5) xs)])) := by kernel_rfl
theorem wc_round0 (pan : KP) (μ : Mu) (N : Nat) (k : KE) (i L : U) (xs : List U) : (exec (wcC.panics pan) (loopBody Try.f26 0) 0 ⟨[(4, vi i), (1, vl (.int .i64) L), (0, .ptr 2097153 0)], wObjs xs⟩ (again PR (some ([], [2097153, 2097280])) none pan [4, 1, 0] [2097153, 2097280] wcLoop0 μ N k)) = (bif decide (i.int < (L.list.length : Int)) then ((nat_lit 2097153 = nat_lit 2097153 ∧ nat_lit 0 = nat_lit 0 ∧ nat_lit 2097280 = nat_lit 2097280 ∧ nat_lit 5 = nat_lit 5) ∧ U.i (1 : Int) = U.i (1 : Int) ∧ (0 : Int) ≤ i.int ∧ (1 : Int) ≤ (1 : Int) ∧ (1 : Int) ≤ (65535 : Int) ∧ i.int + (1 : Int) ≤ (L.list.length : Int) ∧ L.list.length ≤ (1000000000 : Nat)) ∧ (wIs ((2097152 : Nat) + (1 : Nat)) (0 : Nat) ((2097152 : Nat) + (1 : Nat)) ((2097279 : Nat) + (1 : Nat)) ((2097279 : Nat) + (1 : Nat)) ((4 : Nat) + (1 : Nat)) ∧ (2 : Int) ≤ (8 : Int) ∧ List.length xs ≤ (800000000 : Nat)) ∧ bif decide ((0 : Int) ≤ i.int ∧ i.int < (L.list.length : Int)) then (wIs ((2097152 : Nat) + (1 : Nat)) (0 : Nat) ((2097152 : Nat) + (1 : Nat)) ((2097279 : Nat) + (1 : Nat)) ((2097279 : Nat) + (1 : Nat)) ((4 : Nat) + (1 : Nat)) ∧ (2 : Int) ≤ (8 : Int) ∧ List.length (xs ++ num [] (2 : Int) (lead (U.int (nth (U.i (0 : Int)) L.list (Int.toNat i.int))) (1 : Int) (List.drop (Int.toNat (i.int + (1 : Int))) L.list))) ≤ (800000000 : Nat)) ∧ bif Nat.blt (μ [.val (.int IntKind.i64) (U.i (IntKind.wrap .i64 (i.int + lead (U.int (nth (U.i (0 : Int)) L.list (Int.toNat i.int))) (1 : Int) (List.drop (Int.toNat (i.int + (1 : Int))) L.list)))), .val (.sl false [.int .i64]) L, .ptr (nat_lit 2097153) (nat_lit 0)] [.box [.own (nat_lit 2097280)], .arr (nat_lit 5) (xs ++ num [] (2 : Int) (lead (U.int (nth (U.i (0 : Int)) L.list (Int.toNat i.int))) (1 : Int) (List.drop (Int.toNat (i.int + (1 : Int))) L.list)) ++ num [] (2 : Int) (U.int (nth (U.i (0 : Int)) L.list (Int.toNat i.int))))]) N then ((nat_lit 2097153 = nat_lit 2097153 ∧ nat_lit 0 = nat_lit 0 ∧ nat_lit 2097280 = nat_lit 2097280 ∧ nat_lit 5 = nat_lit 5) ∧ (0 : Int) ≤ IntKind.wrap .i64 (i.int + lead (U.int (nth (U.i (0 : Int)) L.list (Int.toNat i.int))) (1 : Int) (List.drop (Int.toNat (i.int + (1 : Int))) L.list)) ∧ IntKind.wrap .i64 (i.int + lead (U.int (nth (U.i (0 : Int)) L.list (Int.toNat i.int))) (1 : Int) (List.drop (Int.toNat (i.int + (1 : Int))) L.list)) ≤ (L.list.length : Int) ∧ L.list.length ≤ (1000000000 : Nat) ∧ (↑(List.length (xs ++ num [] (2 : Int) (lead (U.int (nth (U.i (0 : Int)) L.list (Int.toNat i.int))) (1 : Int) (List.drop (Int.toNat (i.int + (1 : Int))) L.list)) ++ num [] (2 : Int) (U.int (nth (U.i (0 : Int)) L.list (Int.toNat i.int))))) : Int) + (8 : Int) * ((L.list.length : Int) - IntKind.wrap .i64 (i.int + lead (U.int (nth (U.i (0 : Int)) L.list (Int.toNat i.int))) (1 : Int) (List.drop (Int.toNat (i.int + (1 : Int))) L.list))) ≤ (750000000 : Int)) ∧ k (Ex.exit (nat_lit 0)) (St.mk [] [(nat_lit 2097153, .box [.own (nat_lit 2097280)]), (nat_lit 2097280, .arr (nat_lit 5) (xs ++ num [] (2 : Int) (lead (U.int (nth (U.i (0 : Int)) L.list (Int.toNat i.int))) (1 : Int) (List.drop (Int.toNat (i.int + (1 : Int))) L.list)) ++ num [] (2 : Int) (U.int (nth (U.i (0 : Int)) L.list (Int.toNat i.int))) ++ countsB (List.drop (Int.toNat (IntKind.wrap .i64 (i.int + lead (U.int (nth (U.i (0 : Int)) L.list (Int.toNat i.int))) (1 : Int) (List.drop (Int.toNat (i.int + (1 : Int))) L.list)))) L.list)))]) else False else False else k (Ex.exit (nat_lit 0)) (St.mk [] [(nat_lit 2097153, .box [.own (nat_lit 2097280)]), (nat_lit 2097280, .arr (nat_lit 5) xs)])) := by kernel_rfl
theorem wc_tree (R : RT) (L : U) (xs : List U) : (runD wcC Try.f26 [.ptr 2097153 0, vl (.int .i64) L] (wObjs xs) R) = ((wIs ((2097152 : Nat) + (1 : Nat)) (0 : Nat) ((2097152 : Nat) + (1 : Nat)) ((2097279 : Nat) + (1 : Nat)) ((2097279 : Nat) + (1 : Nat)) ((4 : Nat) + (1 : Nat)) ∧ (4 : Int) ≤ (8 : Int) ∧ List.length xs ≤
  (800000000 : Nat)) ∧ ((nat_lit 2097153 = nat_lit 2097153 ∧ nat_lit 0 = nat_lit 0 ∧ nat_lit 2097280 = nat_lit 2097280 ∧ nat_lit 5 = nat_lit 5) ∧ (0 : Int) ≤ (0 : Int) ∧ (0 : Int) ≤ (↑(List.length (U.list
  L)) : Int) ∧ List.length (U.list L) ≤ (1000000000 : Nat) ∧ (↑(List.length (xs ++ num [] (4 : Int) (↑(List.length (U.list L)) : Int))) : Int) + (8 : Int) * ((↑(List.length (U.list L)) : Int) - (0 : Int))
  ≤ (750000000 : Int)) ∧ R (Out.ret []) [(nat_lit 2097153, Obj.box [SV.own (nat_lit 2097280)]), (nat_lit 2097280, Obj.arr (nat_lit 5) (xs ++ num [] (4 : Int) (↑(List.length (U.list L)) : Int) ++ countsB
  (List.drop (Int.toNat (0 : Int)) (U.list L))))]) := by kernel_rfl
end Go.Mat

namespace Go.Mat
open Go Go.Den Go.Proofs
theorem wis : wIs 2097153 0 2097153 2097280 2097280 u8T := ⟨rfl, rfl, rfl, rfl, rfl, rfl⟩
theorem num8 {n v : Int} (h : n ≤ 8) : (num [] n v).length ≤ 8 := by
  have := num_len [] n v
  simp only [List.length_nil] at this
  omega
theorem num2 (v : Int) : (num [] 2 v).length ≤ 2 := by
  have := num_len [] 2 v
  simp only [List.length_nil, Int.reduceToNat] at this
  omega
theorem num1 (v : Int) : (num [] 1 v).length ≤ 1 := by
  have := num_len [] 1 v
  simp only [List.length_nil, Int.reduceToNat] at this
  omega
theorem num4 (v : Int) : (num [] 4 v).length ≤ 4 := by
  have := num_len [] 4 v
  simp only [List.length_nil, Int.reduceToNat] at this
  omega
theorem strU_len (s : ByteArray) : (strU s).length = s.size := by rw [strU, List.length_map, str_len]
theorem textB_len (s : ByteArray) : (textB [] s).length ≤ 65537 := by
  unfold textB
  cases h : longB s with
  | true => simp
  | false =>
    have h := of_decide_eq_false h
    have := num2 s.size
    have := strU_len s
    simp only [cond_false, List.length_append]
    omega
theorem tabX_len {L : List U} (k : Int) (hl : L.length ≤ 1099511627776) : (tabX L k).length ≤ 66562 := by
  unfold tabX tputB
  cases h : tableR L 4096 k with
  | false => simp
  | true =>
    obtain ⟨h1, h2, _⟩ := tableR_low hl h
    have h3 := leavesB_len k L 0 h2
    have h4 := num2 (countB L)
    simp only [cond_true, List.length_append]
    omega
theorem spansB_len : ∀ L : List U, (spansB L).length ≤ 4 * L.length
  | [] => by simp [spansB]
  | s :: r => by
    have h1 := spansB_len r
    have h2 := num2 (e0 s).int
    have h3 := num2 (e1 s).int
    rw [spansB, List.length_append, List.length_append, List.length_cons]
    omega
theorem lead_ge (x : Int) : ∀ (l : List U) (n : Int), n ≤ lead x n l ∧ lead x n l ≤ n + l.length ∧ (n ≤ 65535 → lead x n l ≤ 65535)
  | [], n => by simp [lead]
  | y :: r, n => by
    unfold lead
    cases h : decide (n < 65535) && (y.int == x) with
    | false => simp; omega
    | true =>
      rw [Bool.and_eq_true, decide_eq_true_eq] at h
      have := lead_ge x r (n + 1)
      simp only [cond_true, List.length_cons]
      omega
theorem runsB_eq (x : Int) : ∀ (l : List U) (n : Int), runsB x n l = num [] 2 (lead x n l) ++ num [] 2 x ++ countsB (l.drop (lead x n l - n).toNat)
  | [], n => by simp [runsB, lead, countsB]
  | y :: r, n => by
    unfold runsB lead
    cases h : decide (n < 65535) && (y.int == x) with
    | false => simp [countsB]
    | true =>
      have h1 := lead_ge x r (n + 1)
      simp only [cond_true]
      rw [runsB_eq x r (n + 1), show (lead x (n + 1) r - n).toNat = (lead x (n + 1) r - (n + 1)).toNat + 1 by omega]
      rfl
theorem countsB_cons (x : U) (r : List U) : countsB (x :: r) = num [] 2 (lead x.int 1 r) ++ num [] 2 x.int ++ countsB (r.drop (lead x.int 1 r - 1).toNat) := runsB_eq ..
theorem wnum_ok : SpecT PR 22 wnumF := fun fn hfn => by
  have hf : PR.funcs[(22 : Nat)]? = some Try.f22 := by kernel_rfl
  rw [hf] at hfn; cases hfn
  refine fnT_okH (C := wnumC) (mkC_ok eqs0_ok mixed_ok .nil (.cons put_ok .nil)) hf (by kernel_rfl) (loops_none (by kernel_rfl)) fun vs objs R h1 h2 h => ?_
  clear h1 h2
  unfold wnumF at h
  split at h
  · rename_i p o n v i q j t xs
    obtain ⟨⟨⟨rfl, rfl, rfl, rfl, rfl, rfl⟩, h8, hx⟩, h⟩ := h
    refine .eq (wnum_tree R n v xs) ?_
    have hl := num8 (v := v.int) h8
    refine ⟨by trivial, broom ?_ rfl h⟩
    show xs.length + (num [] n.int v.int).length ≤ 1073741824
    omega
  · exact h.elim
theorem wtext_ok : SpecT PR 23 wtextF := fun fn hfn => by
  have hf : PR.funcs[(23 : Nat)]? = some Try.f23 := by kernel_rfl
  rw [hf] at hfn; cases hfn
  refine fnT_okH (C := wtextC) (mkC_ok eqs0_ok mixed_ok (.consP text_ok .nil) .nil) hf (by kernel_rfl) (loops_none (by kernel_rfl)) fun vs objs R h1 h2 h => ?_
  clear h1 h2
  unfold wtextF at h
  split at h
  · rename_i p o s i q j t xs
    obtain ⟨⟨⟨rfl, rfl, rfl, rfl, rfl, rfl⟩, hx⟩, h⟩ := h
    refine .eq (wtext_tree R s xs) ?_
    have hl := textB_len s.str
    refine ⟨by show (0 : Nat) ≤ _; omega, broom ?_ rfl h⟩
    show xs.length + (textB [] s.str).length ≤ 1073741824
    omega
  · exact h.elim
theorem wtable_ok : SpecT PR 24 wtableF := fun fn hfn => by
  have hf : PR.funcs[(24 : Nat)]? = some Try.f24 := by kernel_rfl
  rw [hf] at hfn; cases hfn
  refine fnT_okH (C := wtableC) (mkC_ok eqs0_ok mixed_ok (.consP tput_ok .nil) .nil) hf (by kernel_rfl) (loops_none (by kernel_rfl)) fun vs objs R h1 h2 h => ?_
  clear h1 h2
  unfold wtableF at h
  split at h
  · rename_i p o ec L c i q j t xs
    obtain ⟨⟨⟨rfl, rfl, rfl, rfl, rfl, rfl⟩, rfl, hT, hx⟩, h⟩ := h
    refine .eq (wtable_tree R L c xs) ?_
    have hl := tabX_len c.int hT
    unfold tabX at hl
    refine ⟨hT, broom ?_ rfl h⟩
    show xs.length + _ ≤ 1073741824
    omega
  · exact h.elim
theorem wmap_loop : LoopOk wmapC 0 (loopBody Try.f25 0) := by
  refine loopOk_of (F := wmapLoop) (ts := [24, 23, 22, 0]) (os := [2097153, 2097280]) rfl (fun svs _ => match svs with | .val _ i :: .val _ m :: _ => (m.int - i.int).toNat | _ => 0) ?_
  intro pan svs os k ho1 ho2 h
  unfold wmapLoop at h
  split at h
  · rename_i i n ec L p o q t xs
    obtain ⟨⟨⟨rfl, rfl, rfl, rfl⟩, rfl, hn, h0, hi, hx⟩, hk⟩ := h
    have hL : L.list.length ≤ maxLen := ho1.2.2.1.1
    refine .eq (wmap_round pan _ _ k i n L xs) ?_
    refine bd (fun hlt => dt ⟨h0, by omega⟩ ?_) (fun hlt => ?_)
    · rw [drop_at (by omega), spansB] at hk
      simp only [U.at, e0, e1, ← List.append_assoc] at hk
      have h1 := num2 (nth (.i 0) (nth (.i 0) L.list i.int.toNat).list 0).int
      have h2 := num2 (nth (.i 0) (nth (.i 0) L.list i.int.toNat).list 1).int
      have hw : IntKind.wrap .i64 (i.int + 1) = i.int + 1 := i64_in (by omega) (by unfold maxLen at hL; omega)
      have hc : (i.int + 1).toNat = i.int.toNat + 1 := by omega
      have hlt' : (n.int - (i.int + 1)).toNat < (n.int - i.int).toNat := by omega
      simp only [nth_tail, Nat.zero_add, Nat.reduceAdd, hw, hc]
      refine ⟨⟨wis, by omega, by omega⟩, ⟨wis, by omega, by rw [List.length_append]; omega⟩, blt hlt' ⟨⟨by trivial, by trivial, hn, by omega, by omega, by rw [List.length_append, List.length_append]; omega⟩, hk⟩⟩
    · rw [List.drop_of_length_le (by omega), spansB, List.append_nil] at hk
      exact hk
  · exact h.elim
theorem wmap_ok : SpecT PR 25 wmapF := fun fn hfn => by
  have hf : PR.funcs[(25 : Nat)]? = some Try.f25 := by kernel_rfl
  rw [hf] at hfn; cases hfn
  refine fnT_okH (C := wmapC) (mkC_ok eqs0_ok mixed_ok .nil (.cons wnum_ok (.cons wtext_ok .nil))) hf (by kernel_rfl) (loops_one (by kernel_rfl) wmap_loop) fun vs objs R h1 h2 h => ?_
  clear h1 h2
  unfold wmapF at h
  split at h
  · rename_i p o nm on ec L i q j t xs
    obtain ⟨⟨⟨rfl, rfl, rfl, rfl, rfl, rfl⟩, rfl, hx⟩, h⟩ := h
    refine .eq (wmap_tree R nm on L xs) ?_
    have h1 := textB_len nm.str
    have h2 := num2 L.list.length
    unfold mapB at h
    simp only [List.drop_zero, Int.toNat_zero]
    refine ⟨⟨wis, by omega⟩, bi (fun hb => ?_) (fun hb => ?_)⟩
    · have h3 := num1 1
      rw [hb] at h
      simp only [onB, cond_true, ← List.append_assoc] at h
      exact ⟨⟨wis, by omega, by rw [List.length_append]; omega⟩, ⟨wis, by omega, by rw [List.length_append, List.length_append]; omega⟩, ⟨by trivial, by trivial, by trivial, by trivial, by omega, by rw [List.length_append, List.length_append, List.length_append]; omega⟩, h⟩
    · have h3 := num1 0
      rw [hb] at h
      simp only [onB, cond_false, ← List.append_assoc] at h
      exact ⟨⟨wis, by omega, by rw [List.length_append]; omega⟩, ⟨wis, by omega, by rw [List.length_append, List.length_append]; omega⟩, ⟨by trivial, by trivial, by trivial, by trivial, by omega, by rw [List.length_append, List.length_append, List.length_append]; omega⟩, h⟩
  · exact h.elim
theorem wc_loop2 : LoopOk wcC 2 (loopBody Try.f26 1) := by
  refine loopOk_of (F := wcLoop2) (ts := [5, 4, 1, 0]) (os := [2097153, 2097280]) rfl (fun svs _ => match svs with | .val _ n :: _ => (65535 - n.int).toNat | _ => 0) ?_
  intro pan svs os k ho1 ho2 h
  unfold wcLoop2 at h
  split at h
  · rename_i n i L p o q t xs
    obtain ⟨⟨⟨rfl, rfl, rfl, rfl⟩, hnn, h0, hn1, hn, hi, hL⟩, hk⟩ := h
    refine .eq (wc_round2 pan _ _ k n i L xs) ?_
    have hw : IntKind.wrap .i64 (i.int + n.int) = i.int + n.int := i64_in (by omega) (by omega)
    have hw2 : IntKind.wrap .i64 (n.int + 1) = n.int + 1 := i64_in (by omega) (by omega)
    simp only [hw, hw2]
    refine bd (fun h1 => bd (fun h2 => dt (by omega) (dt (by omega) ?_)) (fun h2 => ?_)) (fun h1 => ?_)
    · rw [drop_at (by omega), lead, decide_eq_true h1, Bool.true_and] at hk
      simp only [U.at] at hk
      have hc : (i.int + (n.int + 1)).toNat = (i.int + n.int).toNat + 1 := by omega
      rw [hc]
      refine bi (fun h3 => ?_) (fun h3 => ?_)
      · rw [h3] at hk
        exact blt (by show (65535 - (n.int + 1)).toNat < (65535 - n.int).toNat; omega) ⟨⟨by trivial, by trivial, h0, by omega, by omega, by omega, hL⟩, hk⟩
      · rw [h3, cond_false, ← hnn] at hk
        exact hk
    · rw [List.drop_of_length_le (by omega), lead, ← hnn] at hk
      exact hk
    · by_cases h2 : (i.int + n.int).toNat < L.list.length
      · rw [drop_at h2, lead, decide_eq_false h1, Bool.false_and, cond_false, ← hnn] at hk
        exact hk
      · rw [List.drop_of_length_le (by omega), lead, ← hnn] at hk
        exact hk
  · exact h.elim
theorem wc_loop0 : LoopOk wcC 0 (loopBody Try.f26 0) := by
  refine loopOk_of (F := wcLoop0) (ts := [4, 1, 0]) (os := [2097153, 2097280]) rfl (fun svs _ => match svs with | .val _ i :: .val _ L :: _ => ((L.list.length : Int) - i.int).toNat | _ => 0) ?_
  intro pan svs os k ho1 ho2 h
  unfold wcLoop0 at h
  split at h
  · rename_i i L p o q t xs
    obtain ⟨⟨⟨rfl, rfl, rfl, rfl⟩, h0, hi, hL, hx⟩, hk⟩ := h
    refine .eq (wc_round0 pan _ _ k i L xs) ?_
    refine bd (fun hlt => ?_) (fun hlt => ?_)
    · rw [drop_at (by omega), countsB_cons, List.drop_drop] at hk
      simp only [U.at] at hk
      have hd : (i.int + 1).toNat = i.int.toNat + 1 := by omega
      have hge := lead_ge (nth (.i 0) L.list i.int.toNat).int (L.list.drop (i.int.toNat + 1)) 1
      simp only [List.length_drop] at hge
      simp only [hd]
      generalize lead (nth (.i 0) L.list i.int.toNat).int 1 (L.list.drop (i.int.toNat + 1)) = m at hk hge ⊢
      have hw : IntKind.wrap .i64 (i.int + m) = i.int + m := i64_in (by omega) (by omega)
      have hm : (i.int + m).toNat = i.int.toNat + 1 + (m - 1).toNat := by omega
      have h1 := num2 m
      have h2 := num2 (nth (.i 0) L.list i.int.toNat).int
      have hlt' : ((L.list.length : Int) - (i.int + m)).toNat < ((L.list.length : Int) - i.int).toNat := by omega
      simp only [← List.append_assoc] at hk
      simp only [hw, hm]
      exact ⟨⟨by trivial, by trivial, h0, by omega, by omega, by omega, by omega⟩, ⟨wis, by omega, by omega⟩, dt (by omega) ⟨⟨wis, by omega, by rw [List.length_append]; omega⟩, blt hlt' ⟨⟨by trivial, by omega, by omega, hL, by rw [List.length_append, List.length_append]; omega⟩, hk⟩⟩⟩
    · rw [List.drop_of_length_le (by omega), countsB, List.append_nil] at hk
      exact hk
  · exact h.elim
theorem wcounts_ok : SpecT PR 26 wcountsF := fun fn hfn => by
  have hf : PR.funcs[(26 : Nat)]? = some Try.f26 := by kernel_rfl
  rw [hf] at hfn; cases hfn
  refine fnT_okH (C := wcC) (mkC_ok eqs0_ok mixed_ok .nil (.cons wnum_ok .nil)) hf (by kernel_rfl) (loops_two (by kernel_rfl) wc_loop0 wc_loop2) fun vs objs R h1 h2 h => ?_
  clear h1 h2
  unfold wcountsF at h
  split at h
  · rename_i p o L i q j t xs
    obtain ⟨⟨⟨rfl, rfl, rfl, rfl, rfl, rfl⟩, hx⟩, h⟩ := h
    refine .eq (wc_tree R L xs) ?_
    have h1 := num4 L.list.length
    simp only [← List.append_assoc] at h
    simp only [List.drop_zero, Int.toNat_zero]
    exact ⟨⟨wis, by omega, by omega⟩, ⟨by trivial, by trivial, by omega, by omega, by rw [List.length_append]; omega⟩, h⟩
  · exact h.elim
end Go.Mat

namespace Go.Mat
open Go Go.Den Go.Proofs
def shotsB (c : Int) : List U → List U
  | [] => []
  | s :: r => textB [] (e0 s).str ++ num [] 2 (e1 s).int ++ tabX (e2 s).list c ++ shotsB c r
def mapsB : List U → List U
  | [] => []
  | b :: r => mapB (e0 b).str (e1 b).bool (e2 b).list ++ mapsB r
def metaB (c sz : Int) (bk : ByteArray) (T S M Q : List U) : List U :=
  num [] 1 c ++ num [] 2 sz ++ textB [] bk ++ tabX T c ++ num [] 1 S.length ++ shotsB c S ++ num [] 1 M.length ++ mapsB M ++ num [] 4 Q.length ++ countsB Q
def metaL (c sz : Int) (bk : ByteArray) (T S M Q : List U) : Bool := decide (((metaB c sz bk T S M Q).length : Int) > 1048576)
def metaX (c sz bk T S M Q : U) : List U := bif metaR c sz bk T S M Q then (bif metaL c.int sz.int bk.str T.list S.list M.list Q.list then [] else metaB c.int sz.int bk.str T.list S.list M.list Q.list) else []
def metaE (c sz bk T S M Q : U) : Int := bif metaR c sz bk T S M Q then (bif metaL c.int sz.int bk.str T.list S.list M.list Q.list then 2 else 0) else 1
def sizeOk (T S M : U) : Prop := T.list.length ≤ 1099511627776 ∧ (∀ s ∈ S.list, (e2 s).list.length ≤ 1099511627776) ∧ ∀ b ∈ M.list, (e2 b).list.length ≤ 1000000
def mputP : List (List U) → Prop := fun us => sizeOk (nth (.i 0) (nth [] us 0) 3) (nth (.i 0) (nth [] us 0) 4) (nth (.i 0) (nth [] us 0) 5)
def mputS : List (List U) → List (List U) := fun us => [[.l (metaX (nth (.i 0) (nth [] us 0) 0) (nth (.i 0) (nth [] us 0) 1) (nth (.i 0) (nth [] us 0) 2) (nth (.i 0) (nth [] us 0) 3) (nth (.i 0) (nth [] us 0) 4) (nth (.i 0) (nth [] us 0) 5) (nth (.i 0) (nth [] us 0) 6))],
  [.i (metaE (nth (.i 0) (nth [] us 0) 0) (nth (.i 0) (nth [] us 0) 1) (nth (.i 0) (nth [] us 0) 2) (nth (.i 0) (nth [] us 0) 3) (nth (.i 0) (nth [] us 0) 4) (nth (.i 0) (nth [] us 0) 5) (nth (.i 0) (nth [] us 0) 6))]]
abbrev mCells (c sz bk T S M Q : U) : List SV := [vi c, vi sz, vs bk, vl (.sl true EC) T, vt SC S, vt BC M, vl (.int .i64) Q]
abbrev mIs (p o p1 o1 q : Nat) (t : TypeId) : Prop := p = 1664 ∧ o = 0 ∧ p1 = 128 ∧ o1 = 0 ∧ q = 1666 ∧ t = u8T
noncomputable def mputLoop0 : LoopF := fun _ svs os k => match svs, os with
  | [.val (.int .i64) i, .val (.int .i64) n, .val (.sl true ec) L, .ptr p o, .ptr p1 o1], [.box [.own q], .arr t xs, .box [.val (.int .i64) c, .val (.int .i64) sz, .val .str bk, .val (.sl false [.sl true x1]) T, .val (.sl true x2) S, .val (.sl true x3) M, .val (.sl false [.int .i64]) Q]] =>
    (mIs p o p1 o1 q t ∧ (ec = SC ∧ x1 = EC ∧ x2 = SC ∧ x3 = BC) ∧ n.int = (L.list.length : Int) ∧ n.int ≤ 8 ∧ 0 ≤ i.int ∧ i.int ≤ n.int ∧ (∀ s ∈ L.list, (e2 s).list.length ≤ 1099511627776) ∧ (xs.length : Int) + 200000 * (n.int - i.int) ≤ 300000000) ∧
    k (.exit 0) ⟨[(4, .ptr 1664 0), (1, .ptr 128 0)], [(1664, .box [.own 1666]), (1666, .arr u8T (xs ++ shotsB c.int (L.list.drop i.int.toNat))), (128, .box (mCells c sz bk T S M Q))]⟩
  | _, _ => False
noncomputable def mputLoop2 : LoopF := fun _ svs os k => match svs, os with
  | [.val (.int .i64) i, .val (.int .i64) n, .val (.sl true ec) L, .ptr p o, .ptr p1 o1], [.box [.own q], .arr t xs, .box [.val (.int .i64) c, .val (.int .i64) sz, .val .str bk, .val (.sl false [.sl true x1]) T, .val (.sl true x2) S, .val (.sl true x3) M, .val (.sl false [.int .i64]) Q]] =>
    (mIs p o p1 o1 q t ∧ (ec = BC ∧ x1 = EC ∧ x2 = SC ∧ x3 = BC) ∧ n.int = (L.list.length : Int) ∧ n.int ≤ 8 ∧ 0 ≤ i.int ∧ i.int ≤ n.int ∧ (∀ b ∈ L.list, (e2 b).list.length ≤ 1000000) ∧ (xs.length : Int) + 9000000 * (n.int - i.int) ≤ 400000000) ∧
    k (.exit 2) ⟨[(4, .ptr 1664 0), (1, .ptr 128 0)], [(1664, .box [.own 1666]), (1666, .arr u8T (xs ++ mapsB (L.list.drop i.int.toNat))), (128, .box (mCells c sz bk T S M Q))]⟩
  | _, _ => False
noncomputable def mputC : Ctx := mkC PR eqs0 (fnsCons 21 metaS fnsNil)
  (trsCons 22 [false, false, false] wnumF (trsCons 23 [false, false] wtextF (trsCons 24 [false, false, false] wtableF (trsCons 25 [false, false] wmapF (trsCons 26 [false, false] wcountsF trsNil)))))
  (loopCons 2 [67, 66, 65, 4, 1] [1664, 1666, 128] mputLoop2 (loopCons 0 [40, 39, 38, 4, 1] [1664, 1666, 128] mputLoop0 noLoops)) (outCons 2 [4, 1] [1664, 1666, 128] (outCons 0 [4, 1] [1664, 1666, 128] noOut)) noOut
theorem mput_round0 (pan : KP) (μ : Mu) (N : Nat) (k : KE) (i n L c sz bk T S M Q : U) (xs : List U) : (exec (mputC.panics pan) (loopBody Try.f12 0) 0 ⟨[(40, vi i), (39, vi n), (38, vt SC L), (4, .ptr 1664 0), (1, .ptr 128 0)], [(1664, .box [.own 1666]), (1666, .arr u8T xs), (128, .box (mCells c sz bk T S M Q))]⟩ (again PR (some ([4, 1], [1664, 1666, 128])) none pan [40, 39, 38, 4, 1] [1664, 1666, 128] mputLoop0 μ N k)) = (bif decide (i.int < n.int) then bif decide ((0 : Int) ≤ i.int ∧ i.int < (L.list.length : Int)) then (wIs ((2097152 : Nat) + (1 : Nat)) (0 : Nat) ((2097152 : Nat) + (1 : Nat)) ((2097279 : Nat) + (1 : Nat)) ((2097279 : Nat) + (1 : Nat)) ((4 : Nat) + (1 : Nat)) ∧ List.length xs ≤ (800000000 : Nat)) ∧ (wIs ((2097152 : Nat) + (1 : Nat)) (0 : Nat) ((2097152 : Nat) + (1 : Nat)) ((2097279 : Nat) + (1 : Nat)) ((2097279 : Nat) + (1 : Nat)) ((4 : Nat) + (1 : Nat)) ∧ (2 : Int) ≤ (8 : Int) ∧ List.length (xs ++ textB [] (U.str (nth (U.i (0 : Int)) (U.list (nth (U.i (0 : Int)) L.list (Int.toNat i.int))) (0 : Nat)))) ≤ (800000000 : Nat)) ∧ (wIs ((2097152 : Nat) + (1 : Nat)) (0 : Nat) ((2097152 : Nat) + (1 : Nat)) ((2097279 : Nat) + (1 : Nat)) ((2097279 : Nat) + (1 : Nat)) ((4 : Nat) + (1 : Nat)) ∧ [Ct.int IntKind.i64, Ct.int IntKind.i64, Ct.int IntKind.i64, Ct.int IntKind.i64, Ct.int IntKind.u32] = [.int .i64, .int .i64, .int .i64, .int .i64, .int .u32] ∧ List.length (U.list (nth (U.i (0 : Int)) (List.tail (List.tail (U.list (nth (U.i (0 : Int)) L.list (Int.toNat i.int))))) (0 : Nat))) ≤ (1099511627776 : Nat) ∧ List.length (xs ++ textB [] (U.str (nth (U.i (0 : Int)) (U.list (nth (U.i (0 : Int)) L.list (Int.toNat i.int))) (0 : Nat))) ++ num [] (2 : Int) (U.int (nth (U.i (0 : Int)) (List.tail (U.list (nth (U.i (0 : Int)) L.list (Int.toNat i.int)))) (0 : Nat)))) ≤ (800000000 : Nat)) ∧ bif Nat.blt (μ [.val (.int IntKind.i64) (U.i (IntKind.wrap .i64 (i.int + (1 : Int)))), .val (.int IntKind.i64) n, .val (.sl true [.str, .int .i64, Ct.sl false [.sl true [.int .i64, .int .i64, .int .i64, .int .i64, .int .u32]]]) L, .ptr (nat_lit 1664) (nat_lit 0), .ptr (nat_lit 128) (nat_lit 0)] [.box [.own (nat_lit 1666)], .arr (nat_lit 5) (xs ++ textB [] (U.str (nth (U.i (0 : Int)) (U.list (nth (U.i (0 : Int)) L.list (Int.toNat i.int))) (0 : Nat))) ++ num [] (2 : Int) (U.int (nth (U.i (0 : Int)) (List.tail (U.list (nth (U.i (0 : Int)) L.list (Int.toNat i.int)))) (0 : Nat))) ++ tabX (U.list (nth (U.i (0 : Int)) (List.tail (List.tail (U.list (nth (U.i (0 : Int)) L.list (Int.toNat i.int))))) (0 : Nat))) c.int), .box [.val (.int IntKind.i64) c, .val (.int IntKind.i64) sz, .val .str bk, .val (.sl false [.sl true [.int .i64, .int .i64, .int .i64, .int .i64, .int .u32]]) T, .val (.sl true [.str, .int .i64, Ct.sl false [.sl true [.int .i64, .int .i64, .int .i64, .int .i64, .int .u32]]]) S, .val (.sl true [.str, Ct.bool, Ct.sl true [.int .i64, .int .i64]]) M, .val (.sl false [.int .i64]) Q]]) N then (mIs ((1663 : Nat) + (1 : Nat)) (0 : Nat) ((127 : Nat) + (1 : Nat)) (0 : Nat) ((1665 : Nat) + (1 : Nat)) ((4 : Nat) + (1 : Nat)) ∧ ([Ct.str, Ct.int IntKind.i64, Ct.sl false [Ct.sl true [Ct.int IntKind.i64, Ct.int IntKind.i64, Ct.int IntKind.i64, Ct.int IntKind.i64, Ct.int IntKind.u32]]] = [.str, .int .i64, Ct.sl false [.sl true [.int .i64, .int .i64, .int .i64, .int .i64, .int .u32]]] ∧ [Ct.int IntKind.i64, Ct.int IntKind.i64, Ct.int IntKind.i64, Ct.int IntKind.i64, Ct.int IntKind.u32] = [.int .i64, .int .i64, .int .i64, .int .i64, .int .u32] ∧ [Ct.str, Ct.int IntKind.i64, Ct.sl false [Ct.sl true [Ct.int IntKind.i64, Ct.int IntKind.i64, Ct.int IntKind.i64, Ct.int IntKind.i64, Ct.int IntKind.u32]]] = [.str, .int .i64, Ct.sl false [.sl true [.int .i64, .int .i64, .int .i64, .int .i64, .int .u32]]] ∧ [Ct.str, Ct.bool, Ct.sl true [Ct.int IntKind.i64, Ct.int IntKind.i64]] = [.str, Ct.bool, Ct.sl true [.int .i64, .int .i64]]) ∧ n.int = (L.list.length : Int) ∧ n.int ≤ (8 : Int) ∧ (0 : Int) ≤ IntKind.wrap .i64 (i.int + (1 : Int)) ∧ IntKind.wrap .i64 (i.int + (1 : Int)) ≤ n.int ∧ (∀ (s : U), s ∈ L.list → List.length (U.list (e2 s)) ≤ (1099511627776 : Nat)) ∧ (↑(List.length (xs ++ textB [] (U.str (nth (U.i (0 : Int)) (U.list (nth (U.i (0 : Int)) L.list (Int.toNat i.int))) (0 : Nat))) ++ num [] (2 : Int) (U.int (nth (U.i (0 : Int)) (List.tail (U.list (nth (U.i (0 : Int)) L.list (Int.toNat i.int)))) (0 : Nat))) ++ tabX (U.list (nth (U.i (0 : Int)) (List.tail (List.tail (U.list (nth (U.i (0 : Int)) L.list (Int.toNat i.int))))) (0 : Nat))) c.int)) : Int) + (200000 : Int) * (n.int - IntKind.wrap .i64 (i.int + (1 : Int))) ≤ (300000000 : Int)) ∧ k (Ex.exit (nat_lit 0)) (St.mk [(nat_lit 4, .ptr (nat_lit 1664) (nat_lit 0)), (nat_lit 1, .ptr (nat_lit 128) (nat_lit 0))] [(nat_lit 1664, .box [.own (nat_lit 1666)]), (nat_lit 1666, .arr (nat_lit 5) (xs ++ textB [] (U.str (nth (U.i (0 : Int)) (U.list (nth (U.i (0 : Int)) L.list (Int.toNat i.int))) (0 : Nat))) ++ num [] (2 : Int) (U.int (nth (U.i (0 : Int)) (List.tail (U.list (nth (U.i (0 : Int)) L.list (Int.toNat i.int)))) (0 : Nat))) ++ tabX (U.list (nth (U.i (0 : Int)) (List.tail (List.tail (U.list (nth (U.i (0 : Int)) L.list (Int.toNat i.int))))) (0 : Nat))) c.int ++ shotsB c.int (List.drop (Int.toNat (IntKind.wrap .i64 (i.int + (1 : Int)))) L.list))), (nat_lit 128, .box [.val (.int IntKind.i64) c, .val (.int IntKind.i64) sz, .val .str bk, .val (.sl false [.sl true [.int .i64, .int .i64, .int .i64, .int .i64, .int .u32]]) T, .val (.sl true [.str, .int .i64, Ct.sl false [.sl true [.int .i64, .int .i64, .int .i64, .int .i64, .int .u32]]]) S, .val (.sl true [.str, Ct.bool, Ct.sl true [.int .i64, .int .i64]]) M, .val (.sl false [.int .i64]) Q])]) else False else False else k (Ex.exit (nat_lit 0)) (St.mk [(nat_lit 4, .ptr (nat_lit 1664) (nat_lit 0)), (nat_lit 1, .ptr (nat_lit 128) (nat_lit 0))] [(nat_lit 1664, .box [.own (nat_lit 1666)]), (nat_lit 1666, .arr (nat_lit 5) xs), (nat_lit 128, .box [.val (.int IntKind.i64) c, .val (.int IntKind.i64) sz, .val .str bk, .val (.sl false [.sl true [.int .i64, .int .i64, .int .i64, .int .i64, .int .u32]]) T, .val (.sl true [.str, .int .i64, Ct.sl false [.sl true [.int .i64, .int .i64, .int .i64, .int .i64, .int .u32]]]) S, .val (.sl true [.str, Ct.bool, Ct.sl true [.int .i64, .int .i64]]) M, .val (.sl false [.int .i64]) Q])])) := by kernel_rfl
theorem mput_round2 (pan : KP) (μ : Mu) (N : Nat) (k : KE) (i n L c sz bk T S M Q : U) (xs : List U) : (exec (mputC.panics pan) (loopBody Try.f12 1) 2 ⟨[(67, vi i), (66, vi n), (65, vt BC L), (4, .ptr 1664 0), (1, .ptr 128 0)], [(1664, .box [.own 1666]), (1666, .arr u8T xs), (128, .box (mCells c sz bk T S M Q))]⟩ (again PR (some ([4, 1], [1664, 1666, 128])) none pan [67, 66, 65, 4, 1] [1664, 1666, 128] mputLoop2 μ N k)) = (bif decide (i.int < n.int) then bif decide ((0 : Int) ≤ i.int ∧ i.int < (L.list.length : Int)) then (wIs ((2097152 : Nat) + (1 : Nat)) (0 : Nat) ((2097152 : Nat) + (1 : Nat)) ((2097279 : Nat) + (1 : Nat)) ((2097279 : Nat) + (1 : Nat)) ((4 : Nat) + (1 : Nat)) ∧ [Ct.int IntKind.i64, Ct.int IntKind.i64] = [.int .i64, .int .i64] ∧ (xs.length : Int) + (8 : Int) * (↑(List.length (U.list (nth (U.i (0 : Int)) (List.tail (List.tail (U.list (nth (U.i (0 : Int)) L.list (Int.toNat i.int))))) (0 : Nat)))) : Int) ≤ (700000000 : Int)) ∧ bif Nat.blt (μ [.val (.int IntKind.i64) (U.i (IntKind.wrap .i64 (i.int + (1 : Int)))), .val (.int IntKind.i64) n, .val (.sl true [.str, Ct.bool, Ct.sl true [.int .i64, .int .i64]]) L, .ptr (nat_lit 1664) (nat_lit 0), .ptr (nat_lit 128) (nat_lit 0)] [.box [.own (nat_lit 1666)], .arr (nat_lit 5) (xs ++ mapB (U.str (nth (U.i (0 : Int)) (U.list (nth (U.i (0 : Int)) L.list (Int.toNat i.int))) (0 : Nat))) (U.bool (nth (U.i (0 : Int)) (List.tail (U.list (nth (U.i (0 : Int)) L.list (Int.toNat i.int)))) (0 : Nat))) (U.list (nth (U.i (0 : Int)) (List.tail (List.tail (U.list (nth (U.i (0 : Int)) L.list (Int.toNat i.int))))) (0 : Nat)))), .box [.val (.int IntKind.i64) c, .val (.int IntKind.i64) sz, .val .str bk, .val (.sl false [.sl true [.int .i64, .int .i64, .int .i64, .int .i64, .int .u32]]) T, .val (.sl true [.str, .int .i64, Ct.sl false [.sl true [.int .i64, .int .i64, .int .i64, .int .i64, .int .u32]]]) S, .val (.sl true [.str, Ct.bool, Ct.sl true [.int .i64, .int .i64]]) M, .val (.sl false [.int .i64]) Q]]) N then (mIs ((1663 : Nat) + (1 : Nat)) (0 : Nat) ((127 : Nat) + (1 : Nat)) (0 : Nat) ((1665 : Nat) + (1 : Nat)) ((4 : Nat) + (1 : Nat)) ∧ ([Ct.str, Ct.bool, Ct.sl true [Ct.int IntKind.i64, Ct.int IntKind.i64]] = [.str, Ct.bool, Ct.sl true [.int .i64, .int .i64]] ∧ [Ct.int IntKind.i64, Ct.int IntKind.i64, Ct.int IntKind.i64, Ct.int IntKind.i64, Ct.int IntKind.u32] = [.int .i64, .int .i64, .int .i64, .int .i64, .int .u32] ∧ [Ct.str, Ct.int IntKind.i64, Ct.sl false [Ct.sl true [Ct.int IntKind.i64, Ct.int IntKind.i64, Ct.int IntKind.i64, Ct.int IntKind.i64, Ct.int IntKind.u32]]] = [.str, .int .i64, Ct.sl false [.sl true [.int .i64, .int .i64, .int .i64, .int .i64, .int .u32]]] ∧ [Ct.str, Ct.bool, Ct.sl true [Ct.int IntKind.i64, Ct.int IntKind.i64]] = [.str, Ct.bool, Ct.sl true [.int .i64, .int .i64]]) ∧ n.int = (L.list.length : Int) ∧ n.int ≤ (8 : Int) ∧ (0 : Int) ≤ IntKind.wrap .i64 (i.int + (1 : Int)) ∧ IntKind.wrap .i64 (i.int + (1 : Int)) ≤ n.int ∧ (∀ (b : U), b ∈ L.list → List.length (U.list (e2 b)) ≤ (1000000 : Nat)) ∧ (↑(List.length (xs ++ mapB (U.str (nth (U.i (0 : Int)) (U.list (nth (U.i (0 : Int)) L.list (Int.toNat i.int))) (0 : Nat))) (U.bool (nth (U.i (0 : Int)) (List.tail (U.list (nth (U.i (0 : Int)) L.list (Int.toNat i.int)))) (0 : Nat))) (U.list (nth (U.i (0 : Int)) (List.tail (List.tail (U.list (nth (U.i (0 : Int)) L.list (Int.toNat i.int))))) (0 : Nat))))) : Int) + (9000000 : Int) * (n.int - IntKind.wrap .i64 (i.int + (1 : Int))) ≤ (400000000 : Int)) ∧ k (Ex.exit (nat_lit 2)) (St.mk [(nat_lit 4, .ptr (nat_lit 1664) (nat_lit 0)), (nat_lit 1, .ptr (nat_lit 128) (nat_lit 0))] [(nat_lit 1664, .box [.own (nat_lit 1666)]), (nat_lit 1666, .arr (nat_lit 5) (xs ++ mapB (U.str (nth (U.i (0 : Int)) (U.list (nth (U.i (0 : Int)) L.list (Int.toNat i.int))) (0 : Nat))) (U.bool (nth (U.i (0 : Int)) (List.tail (U.list (nth (U.i (0 : Int)) L.list (Int.toNat i.int)))) (0 : Nat))) (U.list (nth (U.i (0 : Int)) (List.tail (List.tail (U.list (nth (U.i (0 : Int)) L.list (Int.toNat i.int))))) (0 : Nat))) ++ mapsB (List.drop (Int.toNat (IntKind.wrap .i64 (i.int + (1 : Int)))) L.list))), (nat_lit 128, .box [.val (.int IntKind.i64) c, .val (.int IntKind.i64) sz, .val .str bk, .val (.sl false [.sl true [.int .i64, .int .i64, .int .i64, .int .i64, .int .u32]]) T, .val (.sl true [.str, .int .i64, Ct.sl false [.sl true [.int .i64, .int .i64, .int .i64, .int .i64, .int .u32]]]) S, .val (.sl true [.str, Ct.bool, Ct.sl true [.int .i64, .int .i64]]) M, .val (.sl false [.int .i64]) Q])]) else False else False else k (Ex.exit (nat_lit 2)) (St.mk [(nat_lit 4, .ptr (nat_lit 1664) (nat_lit 0)), (nat_lit 1, .ptr (nat_lit 128) (nat_lit 0))] [(nat_lit 1664, .box [.own (nat_lit 1666)]), (nat_lit 1666, .arr (nat_lit 5) xs), (nat_lit 128, .box [.val (.int IntKind.i64) c, .val (.int IntKind.i64) sz, .val .str bk, .val (.sl false [.sl true [.int .i64, .int .i64, .int .i64, .int .i64, .int .u32]]) T, .val (.sl true [.str, .int .i64, Ct.sl false [.sl true [.int .i64, .int .i64, .int .i64, .int .i64, .int .u32]]]) S, .val (.sl true [.str, Ct.bool, Ct.sl true [.int .i64, .int .i64]]) M, .val (.sl false [.int .i64]) Q])])) := by kernel_rfl
theorem mput_tree (R : RF) (c sz bk T S M Q : U) : (run mputC Try.f12 [[c, sz, bk, T, S, M, Q]] R) = (bif !metaR c sz bk T S M Q then R [[U.l []], [U.i (1 : Int)]] else (wIs ((2097152 : Nat) + (1 : Nat)) (0 : Nat) ((2097152 : Nat) + (1 : Nat)) ((2097279 : Nat) + (1 : Nat)) ((2097279 : Nat) + (1 : Nat)) ((4 : Nat) + (1 : Nat)) ∧ (1 : Int) ≤ (8 : Int) ∧ (0 : Nat) ≤ (800000000 : Nat)) ∧ (wIs ((2097152 : Nat) + (1 : Nat)) (0 : Nat) ((2097152 : Nat) + (1 : Nat)) ((2097279 : Nat) + (1 : Nat)) ((2097279 : Nat) + (1 : Nat)) ((4 : Nat) + (1 : Nat)) ∧ (2 : Int) ≤ (8 : Int) ∧ List.length ([] ++ num [] (1 : Int) c.int) ≤ (800000000 : Nat)) ∧ (wIs ((2097152 : Nat) + (1 : Nat)) (0 : Nat) ((2097152 : Nat) + (1 : Nat)) ((2097279 : Nat) + (1 : Nat)) ((2097279 : Nat) + (1 : Nat)) ((4 : Nat) + (1 : Nat)) ∧ List.length ([] ++ num [] (1 : Int) c.int ++ num [] (2 : Int) sz.int) ≤ (800000000 : Nat)) ∧ (wIs ((2097152 : Nat) + (1 : Nat)) (0 : Nat) ((2097152 : Nat) + (1 : Nat)) ((2097279 : Nat) + (1 : Nat)) ((2097279 : Nat) + (1 : Nat)) ((4 : Nat) + (1 : Nat)) ∧ [Ct.int IntKind.i64, Ct.int IntKind.i64, Ct.int IntKind.i64, Ct.int IntKind.i64, Ct.int IntKind.u32] = [.int .i64, .int .i64, .int .i64, .int .i64, .int .u32] ∧ T.list.length ≤ (1099511627776 : Nat) ∧ List.length ([] ++ num [] (1 : Int) c.int ++ num [] (2 : Int) sz.int ++ textB [] bk.str) ≤ (800000000 : Nat)) ∧ (wIs ((2097152 : Nat) + (1 : Nat)) (0 : Nat) ((2097152 : Nat) + (1 : Nat)) ((2097279 : Nat) + (1 : Nat)) ((2097279 : Nat) + (1 : Nat)) ((4 : Nat) + (1 : Nat)) ∧ (1 : Int) ≤ (8 : Int) ∧ List.length ([] ++ num [] (1 : Int) c.int ++ num [] (2 : Int) sz.int ++ textB [] bk.str ++ tabX T.list c.int) ≤ (800000000 : Nat)) ∧ (mIs ((1663 : Nat) + (1 : Nat)) (0 : Nat) ((127 : Nat) + (1 : Nat)) (0 : Nat) ((1665 : Nat) + (1 : Nat)) ((4 : Nat) + (1 : Nat)) ∧ ([Ct.str, Ct.int IntKind.i64, Ct.sl false [Ct.sl true [Ct.int IntKind.i64, Ct.int IntKind.i64, Ct.int IntKind.i64, Ct.int IntKind.i64, Ct.int IntKind.u32]]] = [.str, .int .i64, Ct.sl false [.sl true [.int .i64, .int .i64, .int .i64, .int .i64, .int .u32]]] ∧ [Ct.int IntKind.i64, Ct.int IntKind.i64, Ct.int IntKind.i64, Ct.int IntKind.i64, Ct.int IntKind.u32] = [.int .i64, .int .i64, .int .i64, .int .i64, .int .u32] ∧ [Ct.str, Ct.int IntKind.i64, Ct.sl false [Ct.sl true [Ct.int IntKind.i64, Ct.int IntKind.i64, Ct.int IntKind.i64, Ct.int IntKind.i64, Ct.int IntKind.u32]]] = [.str, .int .i64, Ct.sl false [.sl true [.int .i64, .int .i64, .int .i64, .int .i64, .int .u32]]] ∧ [Ct.str, Ct.bool, Ct.sl true [Ct.int IntKind.i64, Ct.int IntKind.i64]] = [.str, Ct.bool, Ct.sl true [.int .i64, .int .i64]]) ∧ (S.list.length : Int) = (S.list.length : Int) ∧ (S.list.length : Int) ≤ (8 : Int) ∧ (0 : Int) ≤ (0 : Int) ∧ (0 : Int) ≤ (S.list.length : Int) ∧ (∀ (s : U), s ∈ S.list → List.length (U.list (e2 s)) ≤ (1099511627776 : Nat)) ∧ (↑(List.length ([] ++ num [] (1 : Int) c.int ++ num [] (2 : Int) sz.int ++ textB [] bk.str ++ tabX T.list c.int ++ num [] (1 : Int) (S.list.length : Int))) : Int) + (200000 : Int) * ((S.list.length : Int) - (0 : Int)) ≤ (300000000 : Int)) ∧ (wIs ((2097152 : Nat) + (1 : Nat)) (0 : Nat) ((2097152 : Nat) + (1 : Nat)) ((2097279 : Nat) + (1 : Nat)) ((2097279 : Nat) + (1 : Nat)) ((4 : Nat) + (1 : Nat)) ∧ (1 : Int) ≤ (8 : Int) ∧ List.length ([] ++ num [] (1 : Int) c.int ++ num [] (2 : Int) sz.int ++ textB [] bk.str ++ tabX T.list c.int ++ num [] (1 : Int) (S.list.length : Int) ++ shotsB c.int (List.drop (Int.toNat (0 : Int)) S.list)) ≤ (800000000 : Nat)) ∧ (mIs ((1663 : Nat) + (1 : Nat)) (0 : Nat) ((127 : Nat) + (1 : Nat)) (0 : Nat) ((1665 : Nat) + (1 : Nat)) ((4 : Nat) + (1 : Nat)) ∧ ([Ct.str, Ct.bool, Ct.sl true [Ct.int IntKind.i64, Ct.int IntKind.i64]] = [.str, Ct.bool, Ct.sl true [.int .i64, .int .i64]] ∧ [Ct.int IntKind.i64, Ct.int IntKind.i64, Ct.int IntKind.i64, Ct.int IntKind.i64, Ct.int IntKind.u32] = [.int .i64, .int .i64, .int .i64, .int .i64, .int .u32] ∧ [Ct.str, Ct.int IntKind.i64, Ct.sl false [Ct.sl true [Ct.int IntKind.i64, Ct.int IntKind.i64, Ct.int IntKind.i64, Ct.int IntKind.i64, Ct.int IntKind.u32]]] = [.str, .int .i64, Ct.sl false [.sl true [.int .i64, .int .i64, .int .i64, .int .i64, .int .u32]]] ∧ [Ct.str, Ct.bool, Ct.sl true [Ct.int IntKind.i64, Ct.int IntKind.i64]] = [.str, Ct.bool, Ct.sl true [.int .i64, .int .i64]]) ∧ (M.list.length : Int) = (M.list.length : Int) ∧ (M.list.length : Int) ≤ (8 : Int) ∧ (0 : Int) ≤ (0 : Int) ∧ (0 : Int) ≤ (M.list.length : Int) ∧ (∀ (b : U), b ∈ M.list → List.length (U.list (e2 b)) ≤ (1000000 : Nat)) ∧ (↑(List.length ([] ++ num [] (1 : Int) c.int ++ num [] (2 : Int) sz.int ++ textB [] bk.str ++ tabX T.list c.int ++ num [] (1 : Int) (S.list.length : Int) ++ shotsB c.int (List.drop (Int.toNat (0 : Int)) S.list) ++ num [] (1 : Int) (M.list.length : Int))) : Int) + (9000000 : Int) * ((M.list.length : Int) - (0 : Int)) ≤ (400000000 : Int)) ∧ (wIs ((2097152 : Nat) + (1 : Nat)) (0 : Nat) ((2097152 : Nat) + (1 : Nat)) ((2097279 : Nat) + (1 : Nat)) ((2097279 : Nat) + (1 : Nat)) ((4 : Nat) + (1 : Nat)) ∧ (↑(List.length ([] ++ num [] (1 : Int) c.int ++ num [] (2 : Int) sz.int ++ textB [] bk.str ++ tabX T.list c.int ++ num [] (1 : Int) (S.list.length : Int) ++ shotsB c.int (List.drop (Int.toNat (0 : Int)) S.list) ++ num [] (1 : Int) (M.list.length : Int) ++ mapsB (List.drop (Int.toNat (0 : Int)) M.list))) : Int) + (8 : Int) * (Q.list.length : Int) ≤ (700000000 : Int)) ∧ bif decide ((↑(List.length ([] ++ num [] (1 : Int) c.int ++ num [] (2 : Int) sz.int ++ textB [] bk.str ++ tabX T.list c.int ++ num [] (1 : Int) (S.list.length : Int) ++ shotsB c.int (List.drop (Int.toNat (0 : Int)) S.list) ++ num [] (1 : Int) (M.list.length : Int) ++ mapsB (List.drop (Int.toNat (0 : Int)) M.list) ++ (num [] (4 : Int) (Q.list.length : Int) ++ countsB Q.list))) : Int) > (1048576 : Int)) then R [[U.l []], [U.i (2 : Int)]] else R [[U.l ([] ++ num [] (1 : Int) c.int ++ num [] (2 : Int) sz.int ++ textB [] bk.str ++ tabX T.list c.int ++ num [] (1 : Int) (S.list.length : Int) ++ shotsB c.int (List.drop (Int.toNat (0 : Int)) S.list) ++ num [] (1 : Int) (M.list.length : Int) ++ mapsB (List.drop (Int.toNat (0 : Int)) M.list) ++ (num [] (4 : Int) (Q.list.length : Int) ++ countsB Q.list))], [U.i (0 : Int)]]) := by kernel_rfl
end Go.Mat

namespace Go.Mat
open Go Go.Den Go.Proofs
theorem shotsB_len (c : Int) : ∀ L : List U, (∀ s ∈ L, (e2 s).list.length ≤ 1099511627776) → (shotsB c L).length ≤ 140000 * L.length
  | [], _ => by simp [shotsB]
  | s :: r, h => by
    have h1 := shotsB_len c r fun s hs => h s (List.mem_cons_of_mem _ hs)
    have h2 := textB_len (e0 s).str
    have h3 := num2 (e1 s).int
    have h4 := tabX_len c (h s (List.mem_cons_self ..))
    rw [shotsB]
    simp only [List.length_append, List.length_cons]
    omega
theorem mapB_len (nm : ByteArray) (on : Bool) (L : List U) : (mapB nm on L).length ≤ 65540 + 4 * L.length := by
  have h2 := textB_len nm
  have h3 := num1 (onB on)
  have h4 := num2 L.length
  have h5 := spansB_len L
  rw [mapB]
  simp only [List.length_append]
  omega
theorem mapsB_len : ∀ L : List U, (∀ b ∈ L, (e2 b).list.length ≤ 1000000) → (mapsB L).length ≤ 5000000 * L.length
  | [], _ => by simp [mapsB]
  | b :: r, h => by
    have h1 := mapsB_len r fun s hs => h s (List.mem_cons_of_mem _ hs)
    have h2 := mapB_len (e0 b).str (e1 b).bool (e2 b).list
    have h3 := h b (List.mem_cons_self ..)
    rw [mapsB]
    simp only [List.length_append, List.length_cons]
    omega
theorem mem_at {L : List U} {i : Nat} (h : i < L.length) : U.at L i ∈ L := by
  have hd : L.drop i = U.at L i :: _ := drop_at h
  exact List.mem_of_mem_drop (by rw [hd]; exact List.mem_cons_self ..)
theorem mis : mIs 1664 0 128 0 1666 u8T := ⟨rfl, rfl, rfl, rfl, rfl, rfl⟩
theorem mput_loop0 : LoopOk mputC 0 (loopBody Try.f12 0) := by
  refine loopOk_of (F := mputLoop0) (ts := [40, 39, 38, 4, 1]) (os := [1664, 1666, 128]) rfl (fun svs _ => match svs with | .val _ i :: .val _ m :: _ => (m.int - i.int).toNat | _ => 0) ?_
  intro pan svs os k ho1 ho2 h
  unfold mputLoop0 at h
  split at h
  · rename_i i n ec L p o p1 o1 q t xs c sz bk x1 T x2 S x3 M Q
    obtain ⟨⟨⟨rfl, rfl, rfl, rfl, rfl, rfl⟩, ⟨rfl, rfl, rfl, rfl⟩, hn, hn8, h0, hi, hT, hx⟩, hk⟩ := h
    refine .eq (mput_round0 pan _ _ k i n L c sz bk T S M Q xs) ?_
    refine bd (fun hlt => dt ⟨h0, by omega⟩ ?_) (fun hlt => ?_)
    · have hT' := hT _ (mem_at (L := L.list) (i := i.int.toNat) (by omega))
      rw [drop_at (by omega), shotsB] at hk
      simp only [U.at, e0, e1, e2, ← List.append_assoc] at hk hT'
      have h1 := textB_len (nth (.i 0) (nth (.i 0) L.list i.int.toNat).list 0).str
      have h2 := num2 (nth (.i 0) (nth (.i 0) L.list i.int.toNat).list 1).int
      have h3 := tabX_len c.int hT'
      have hw : IntKind.wrap .i64 (i.int + 1) = i.int + 1 := i64_in (by omega) (by omega)
      have hc : (i.int + 1).toNat = i.int.toNat + 1 := by omega
      have hlt' : (n.int - (i.int + 1)).toNat < (n.int - i.int).toNat := by omega
      simp only [nth_tail, Nat.zero_add, Nat.reduceAdd, hw, hc]
      exact ⟨⟨wis, by omega⟩, ⟨wis, by omega, by rw [List.length_append]; omega⟩, ⟨wis, by trivial, hT', by rw [List.length_append, List.length_append]; omega⟩, blt hlt' ⟨⟨mis, ⟨by trivial, by trivial, by trivial, by trivial⟩, hn, hn8, by omega, by omega, hT, by simp only [List.length_append]; omega⟩, hk⟩⟩
    · rw [List.drop_of_length_le (by omega), shotsB, List.append_nil] at hk
      exact hk
  · exact h.elim
theorem mput_loop2 : LoopOk mputC 2 (loopBody Try.f12 1) := by
  refine loopOk_of (F := mputLoop2) (ts := [67, 66, 65, 4, 1]) (os := [1664, 1666, 128]) rfl (fun svs _ => match svs with | .val _ i :: .val _ m :: _ => (m.int - i.int).toNat | _ => 0) ?_
  intro pan svs os k ho1 ho2 h
  unfold mputLoop2 at h
  split at h
  · rename_i i n ec L p o p1 o1 q t xs c sz bk x1 T x2 S x3 M Q
    obtain ⟨⟨⟨rfl, rfl, rfl, rfl, rfl, rfl⟩, ⟨rfl, rfl, rfl, rfl⟩, hn, hn8, h0, hi, hT, hx⟩, hk⟩ := h
    refine .eq (mput_round2 pan _ _ k i n L c sz bk T S M Q xs) ?_
    refine bd (fun hlt => dt ⟨h0, by omega⟩ ?_) (fun hlt => ?_)
    · have hT' := hT _ (mem_at (L := L.list) (i := i.int.toNat) (by omega))
      rw [drop_at (by omega), mapsB] at hk
      simp only [U.at, e0, e1, e2, ← List.append_assoc] at hk hT'
      have h1 := mapB_len (nth (.i 0) (nth (.i 0) L.list i.int.toNat).list 0).str (nth (.i 0) (nth (.i 0) L.list i.int.toNat).list 1).bool (nth (.i 0) (nth (.i 0) L.list i.int.toNat).list 2).list
      have hw : IntKind.wrap .i64 (i.int + 1) = i.int + 1 := i64_in (by omega) (by omega)
      have hc : (i.int + 1).toNat = i.int.toNat + 1 := by omega
      have hlt' : (n.int - (i.int + 1)).toNat < (n.int - i.int).toNat := by omega
      simp only [nth_tail, Nat.zero_add, Nat.reduceAdd, hw, hc]
      exact ⟨⟨wis, by trivial, by omega⟩, blt hlt' ⟨⟨mis, ⟨by trivial, by trivial, by trivial, by trivial⟩, hn, hn8, by omega, by omega, hT, by simp only [List.length_append]; omega⟩, hk⟩⟩
    · rw [List.drop_of_length_le (by omega), mapsB, List.append_nil] at hk
      exact hk
  · exact h.elim
theorem mput_ok : SpecFP PR 12 mputP mputS := fun fn us hfn hpre => by
  have hf : PR.funcs[(12 : Nat)]? = some Try.f12 := by kernel_rfl
  rw [hf] at hfn; cases hfn
  refine fn_okH (C := mputC) (mkC_ok eqs0_ok mixed_ok (.cons meta_ok .nil) (.cons wnum_ok (.cons wtext_ok (.cons wtable_ok (.cons wmap_ok (.cons wcounts_ok .nil)))))) hf (by kernel_rfl) (loops_two (by kernel_rfl) mput_loop0 mput_loop2) fun hok => ?_
  have hp : Try.f12.params.toList = [29] := by kernel_rfl
  rw [hp] at hok
  obtain ⟨c, sz, bk, T, S, M, Q, hus⟩ : ∃ c sz bk T S M Q, us = [[c, sz, bk, T, S, M, Q]] := by
    obtain ⟨u, rfl, h1⟩ := shape1 (by kernel_rfl : Cs PR 29 = some (true, [.int .i64, .int .i64, .str, .sl false [.sl true EC], .sl true SC, .sl true BC, .sl false [.int .i64]])) hok.1
    obtain ⟨c, sz, bk, T, S, M, Q, rfl⟩ := len7 h1
    exact ⟨c, sz, bk, T, S, M, Q, rfl⟩
  subst hus
  refine .eq (mput_tree _ c sz bk T S M Q) ?_
  unfold mputP sizeOk at hpre
  simp only [nth_zero, nth_succ] at hpre
  obtain ⟨hT, hS, hM⟩ := hpre
  unfold mputS metaX metaE
  simp only [nth_zero, nth_succ]
  refine bi (fun h => by rw [nt h]; rfl) (fun h => ?_)
  have hr := nf h
  rw [hr]
  obtain ⟨_, _, _, _, _, hS8, hM8, hQ, _⟩ := (metaR_iff ..).1 hr
  have l1 := num1 c.int
  have l2 := num2 sz.int
  have l3 := textB_len bk.str
  have l4 := tabX_len c.int hT
  have l5 := num1 S.list.length
  have l6 := shotsB_len c.int S.list hS
  have l7 := num1 M.list.length
  have l8 := mapsB_len M.list hM
  have hB : [] ++ num [] 1 c.int ++ num [] 2 sz.int ++ textB [] bk.str ++ tabX T.list c.int ++ num [] 1 S.list.length ++ shotsB c.int S.list ++ num [] 1 M.list.length ++ mapsB M.list ++ (num [] 4 Q.list.length ++ countsB Q.list) = metaB c.int sz.int bk.str T.list S.list M.list Q.list := by
    simp [metaB]
  simp only [List.drop_zero, Int.toNat_zero, hB]
  refine ⟨⟨wis, by omega, by omega⟩, ⟨wis, by omega, ?_⟩, ⟨wis, ?_⟩, ⟨wis, by trivial, hT, ?_⟩, ⟨wis, by omega, ?_⟩, ⟨mis, ⟨by trivial, by trivial, by trivial, by trivial⟩, by trivial, by omega, by trivial, by omega, hS, ?_⟩, ⟨wis, by omega, ?_⟩, ⟨mis, ⟨by trivial, by trivial, by trivial, by trivial⟩, by trivial, by omega, by trivial, by omega, hM, ?_⟩, ⟨wis, ?_⟩, ?_⟩
  all_goals try (simp only [List.length_append, List.length_nil]; omega)
  refine bi (fun h => ?_) (fun h => ?_)
  · rw [show metaL c.int sz.int bk.str T.list S.list M.list Q.list = true from h]; rfl
  · rw [show metaL c.int sz.int bk.str T.list S.list M.list Q.list = false from h]; rfl
end Go.Mat

namespace Go.Mat
open Go Go.Den Go.Proofs
def shotOk (s : U) : Prop := (e0 s).str.size ≤ 65535 ∧ 0 ≤ (e1 s).int ∧ (e1 s).int ≤ 65535 ∧ (e2 s).list.length ≤ 1099511627776
def spanOk (s : U) : Prop := 0 ≤ (e0 s).int ∧ (e0 s).int ≤ 65535 ∧ 0 ≤ (e1 s).int ∧ (e1 s).int ≤ 65535
def bmapOk (b : U) : Prop := (e0 b).str.size ≤ 65535 ∧ (e2 b).list.length ≤ 65535 ∧ ∀ s ∈ (e2 b).list, spanOk s
def cntOk (n : U) : Prop := 0 ≤ n.int ∧ n.int ≤ 65535
noncomputable def rmputLoop0 : LoopF := fun _ svs os k => match svs, os with
  | [.val (.int .i64) i, .val (.sl false [.int .u8]) b, .ptr p o], [.box [.val (.int .i64) c, .val (.int .i64) sz, .val .str bk, .val (.sl false [.sl true x1]) T, .val (.sl true x2) S, .val (.sl true x3) M, .val (.sl false [.int .i64]) Q]] =>
    ((p = 128 ∧ o = 0) ∧ (x1 = EC ∧ x2 = SC ∧ x3 = BC) ∧ b = .l b.list ∧ S.list.length ≤ 8 ∧ 0 ≤ i.int ∧ i.int ≤ S.list.length ∧ (∀ s ∈ S.list, shotOk s) ∧ (b.list.length : Int) + 200000 * (S.list.length - i.int) ≤ 300000000) ∧
    k (.exit 0) ⟨[(4, vl (.int .u8) (.l (b.list ++ shotsB c.int (S.list.drop i.int.toNat)))), (1, .ptr 128 0)], [(128, .box (mCells c sz bk T S M Q))]⟩
  | _, _ => False
noncomputable def rmputLoop2 : LoopF := fun _ svs os k => match svs, os with
  | [.val (.int .i64) i, .val (.sl false [.int .u8]) b, .ptr p o], [.box [.val (.int .i64) c, .val (.int .i64) sz, .val .str bk, .val (.sl false [.sl true x1]) T, .val (.sl true x2) S, .val (.sl true x3) M, .val (.sl false [.int .i64]) Q]] =>
    ((p = 128 ∧ o = 0) ∧ (x1 = EC ∧ x2 = SC ∧ x3 = BC) ∧ b = .l b.list ∧ M.list.length ≤ 8 ∧ 0 ≤ i.int ∧ i.int ≤ M.list.length ∧ (∀ x ∈ M.list, bmapOk x) ∧ (b.list.length : Int) + 9000000 * (M.list.length - i.int) ≤ 400000000) ∧
    k (.exit 2) ⟨[(4, vl (.int .u8) (.l (b.list ++ mapsB (M.list.drop i.int.toNat)))), (1, .ptr 128 0)], [(128, .box (mCells c sz bk T S M Q))]⟩
  | _, _ => False
noncomputable def rmputLoop4 : LoopF := fun _ svs os k => match svs, os with
  | [.val (.int .i64) i, .ptr p9 o9, .val (.sl false [.int .u8]) b, .val (.int .i64) j, .ptr p o], [.box [.val .str nm, .val .bool on, .val (.sl true x4) L], .box [.val (.int .i64) c, .val (.int .i64) sz, .val .str bk, .val (.sl false [.sl true x1]) T, .val (.sl true x2) S, .val (.sl true x3) M, .val (.sl false [.int .i64]) Q]] =>
    ((p9 = 1152 ∧ o9 = 0 ∧ p = 128 ∧ o = 0) ∧ (x4 = SpC ∧ x1 = EC ∧ x2 = SC ∧ x3 = BC) ∧ b = .l b.list ∧ L.list.length ≤ 65535 ∧ 0 ≤ i.int ∧ i.int ≤ L.list.length ∧ (∀ s ∈ L.list, spanOk s) ∧ (b.list.length : Int) + 8 * (L.list.length - i.int) ≤ 500000000) ∧
    k (.exit 4) ⟨[(4, vl (.int .u8) (.l (b.list ++ spansB (L.list.drop i.int.toNat)))), (8, vi j), (1, .ptr 128 0)], [(128, .box (mCells c sz bk T S M Q))]⟩
  | _, _ => False
noncomputable def rmputLoop6 : LoopF := fun _ svs os k => match svs, os with
  | [.val (.int .i64) i, .val (.sl false [.int .u8]) b, .ptr p o], [.box [.val (.int .i64) c, .val (.int .i64) sz, .val .str bk, .val (.sl false [.sl true x1]) T, .val (.sl true x2) S, .val (.sl true x3) M, .val (.sl false [.int .i64]) Q]] =>
    ((p = 128 ∧ o = 0) ∧ (x1 = EC ∧ x2 = SC ∧ x3 = BC) ∧ b = .l b.list ∧ Q.list.length ≤ 65536 ∧ 0 ≤ i.int ∧ i.int ≤ Q.list.length ∧ (∀ x ∈ Q.list, cntOk x) ∧ (b.list.length : Int) + 8 * (Q.list.length - i.int) ≤ 500000000) ∧
    k (.exit 6) ⟨[(4, vl (.int .u8) (.l (b.list ++ countsB (Q.list.drop i.int.toNat))))], []⟩
  | _, _ => False
noncomputable def rmputLoop8 : LoopF := fun _ svs os k => match svs, os with
  | [.val (.int .i64) n, .val (.int .i64) i, .val (.sl false [.int .u8]) b, .ptr p o], [.box [.val (.int .i64) c, .val (.int .i64) sz, .val .str bk, .val (.sl false [.sl true x1]) T, .val (.sl true x2) S, .val (.sl true x3) M, .val (.sl false [.int .i64]) Q]] =>
    ((p = 128 ∧ o = 0) ∧ (x1 = EC ∧ x2 = SC ∧ x3 = BC) ∧ n = .i n.int ∧ Q.list.length ≤ 65536 ∧ 0 ≤ i.int ∧ 1 ≤ n.int ∧ n.int ≤ 65535 ∧ i.int + n.int ≤ Q.list.length) ∧
    k (.exit 8) ⟨[(13, vi (.i (lead (U.at Q.list i.int.toNat).int n.int (Q.list.drop (i.int + n.int).toNat)))), (12, vi i), (4, vl (.int .u8) b), (1, .ptr 128 0)], [(128, .box (mCells c sz bk T S M Q))]⟩
  | _, _ => False
noncomputable def rmputC : Ctx := Ctx.withCalm (mkC PR eqs0 (fnsCons 15 rmetaS (fnsConsP 29 tputP tputS fnsNil))
  (trsCons 27 [false, false, false] numF (trsCons 28 [false, false] rtextF trsNil))
  (loopCons 8 [13, 12, 4, 1] [128] rmputLoop8 (loopCons 6 [12, 4, 1] [128] rmputLoop6 (loopCons 4 [11, 9, 4, 8, 1] [1152, 128] rmputLoop4 (loopCons 2 [8, 4, 1] [128] rmputLoop2 (loopCons 0 [7, 4, 1] [128] rmputLoop0 noLoops)))))
  (outCons 8 [13, 12, 4, 1] [128] (outCons 6 [4] [] (outCons 4 [4, 8, 1] [128] (outCons 2 [4, 1] [128] (outCons 0 [4, 1] [128] noOut))))) noOut) [27, 28]
theorem rmput_round0 (pan : KP) (μ : Mu) (N : Nat) (k : KE) (i b c sz bk T S M Q : U) : (exec (rmputC.panics pan) (loopBody Try.f13 0) 0 ⟨[(7, vi i), (4, vl (.int .u8) b), (1, .ptr 128 0)], [(128, .box (mCells c sz bk T S M Q))]⟩ (again PR (some ([4, 1], [128])) none pan [7, 4, 1] [128] rmputLoop0 μ N k)) = (bif decide (i.int < (S.list.length : Int)) then bif decide ((0 : Int) ≤ i.int ∧ i.int < (S.list.length : Int)) then b.list.length ≤ (536870912 : Nat) ∧ bif decide ((0 : Int) ≤ i.int ∧ i.int < (S.list.length : Int)) then List.length (textB b.list (U.str (nth (U.i (0 : Int)) (List.drop (0 : Nat) (U.list (nth (U.i (0 : Int)) S.list (Int.toNat i.int)))) (0 : Nat)))) ≤ (536870912 : Nat) ∧ bif decide ((0 : Int) ≤ i.int ∧ i.int < (S.list.length : Int)) then tputP [[nth (U.i (0 : Int)) (List.drop (2 : Nat) (U.list (nth (U.i (0 : Int)) S.list (Int.toNat i.int)))) (0 : Nat)], [c]] ∧ bif decide (List.length (num (textB b.list (U.str (nth (U.i (0 : Int)) (List.drop (0 : Nat) (U.list (nth (U.i (0 : Int)) S.list (Int.toNat i.int)))) (0 : Nat)))) (2 : Int) (U.int (nth (U.i (0 : Int)) (List.drop (1 : Nat) (U.list (nth (U.i (0 : Int)) S.list (Int.toNat i.int)))) (0 : Nat)))) + List.length (bif tableR (U.list (nth (U.i (0 : Int)) (List.drop (2 : Nat) (U.list (nth (U.i (0 : Int)) S.list (Int.toNat i.int)))) (0 : Nat))) (4096 : Int) c.int then tputB (U.list (nth (U.i (0 : Int)) (List.drop (2 : Nat) (U.list (nth (U.i (0 : Int)) S.list (Int.toNat i.int)))) (0 : Nat))) c.int else []) ≤ room) && !oddB ((9359 : Nat) + (1 : Nat)) then bif Nat.blt (μ [.val (.int IntKind.i64) (U.i (IntKind.wrap .i64 (i.int + (1 : Int)))), .val (.sl false [.int .u8]) (U.l (num (textB b.list (U.str (nth (U.i (0 : Int)) (List.drop (0 : Nat) (U.list (nth (U.i (0 : Int)) S.list (Int.toNat i.int)))) (0 : Nat)))) (2 : Int) (U.int (nth (U.i (0 : Int)) (List.drop (1 : Nat) (U.list (nth (U.i (0 : Int)) S.list (Int.toNat i.int)))) (0 : Nat))) ++ bif tableR (U.list (nth (U.i (0 : Int)) (List.drop (2 : Nat) (U.list (nth (U.i (0 : Int)) S.list (Int.toNat i.int)))) (0 : Nat))) (4096 : Int) c.int then tputB (U.list (nth (U.i (0 : Int)) (List.drop (2 : Nat) (U.list (nth (U.i (0 : Int)) S.list (Int.toNat i.int)))) (0 : Nat))) c.int else [])), .ptr (nat_lit 128) (nat_lit 0)] [.box [.val (.int IntKind.i64) c, .val (.int IntKind.i64) sz, .val .str bk, .val (.sl false [.sl true [.int .i64, .int .i64, .int .i64, .int .i64, .int .u32]]) T, .val (.sl true [.str, .int .i64, Ct.sl false [.sl true [.int .i64, .int .i64, .int .i64, .int .i64, .int .u32]]]) S, .val (.sl true [.str, Ct.bool, Ct.sl true [.int .i64, .int .i64]]) M, .val (.sl false [.int .i64]) Q]]) N then ((nat_lit 128 = nat_lit 128 ∧ nat_lit 0 = nat_lit 0) ∧ ([Ct.int IntKind.i64, Ct.int IntKind.i64, Ct.int IntKind.i64, Ct.int IntKind.i64, Ct.int IntKind.u32] = [.int .i64, .int .i64, .int .i64, .int .i64, .int .u32] ∧ [Ct.str, Ct.int IntKind.i64, Ct.sl false [Ct.sl true [Ct.int IntKind.i64, Ct.int IntKind.i64, Ct.int IntKind.i64, Ct.int IntKind.i64, Ct.int IntKind.u32]]] = [.str, .int .i64, Ct.sl false [.sl true [.int .i64, .int .i64, .int .i64, .int .i64, .int .u32]]] ∧ [Ct.str, Ct.bool, Ct.sl true [Ct.int IntKind.i64, Ct.int IntKind.i64]] = [.str, Ct.bool, Ct.sl true [.int .i64, .int .i64]]) ∧ U.l (num (textB b.list (U.str (nth (U.i (0 : Int)) (List.drop (0 : Nat) (U.list (nth (U.i (0 : Int)) S.list (Int.toNat i.int)))) (0 : Nat)))) (2 : Int) (U.int (nth (U.i (0 : Int)) (List.drop (1 : Nat) (U.list (nth (U.i (0 : Int)) S.list (Int.toNat i.int)))) (0 : Nat))) ++ bif tableR (U.list (nth (U.i (0 : Int)) (List.drop (2 : Nat) (U.list (nth (U.i (0 : Int)) S.list (Int.toNat i.int)))) (0 : Nat))) (4096 : Int) c.int then tputB (U.list (nth (U.i (0 : Int)) (List.drop (2 : Nat) (U.list (nth (U.i (0 : Int)) S.list (Int.toNat i.int)))) (0 : Nat))) c.int else []) = U.l (num (textB b.list (U.str (nth (U.i (0 : Int)) (List.drop (0 : Nat) (U.list (nth (U.i (0 : Int)) S.list (Int.toNat i.int)))) (0 : Nat)))) (2 : Int) (U.int (nth (U.i (0 : Int)) (List.drop (1 : Nat) (U.list (nth (U.i (0 : Int)) S.list (Int.toNat i.int)))) (0 : Nat))) ++ bif tableR (U.list (nth (U.i (0 : Int)) (List.drop (2 : Nat) (U.list (nth (U.i (0 : Int)) S.list (Int.toNat i.int)))) (0 : Nat))) (4096 : Int) c.int then tputB (U.list (nth (U.i (0 : Int)) (List.drop (2 : Nat) (U.list (nth (U.i (0 : Int)) S.list (Int.toNat i.int)))) (0 : Nat))) c.int else []) ∧ S.list.length ≤ (8 : Nat) ∧ (0 : Int) ≤ IntKind.wrap .i64 (i.int + (1 : Int)) ∧ IntKind.wrap .i64 (i.int + (1 : Int)) ≤ (S.list.length : Int) ∧ (∀ (s : U), s ∈ S.list → shotOk s) ∧ (↑(List.length (num (textB b.list (U.str (nth (U.i (0 : Int)) (List.drop (0 : Nat) (U.list (nth (U.i (0 : Int)) S.list (Int.toNat i.int)))) (0 : Nat)))) (2 : Int) (U.int (nth (U.i (0 : Int)) (List.drop (1 : Nat) (U.list (nth (U.i (0 : Int)) S.list (Int.toNat i.int)))) (0 : Nat))) ++ bif tableR (U.list (nth (U.i (0 : Int)) (List.drop (2 : Nat) (U.list (nth (U.i (0 : Int)) S.list (Int.toNat i.int)))) (0 : Nat))) (4096 : Int) c.int then tputB (U.list (nth (U.i (0 : Int)) (List.drop (2 : Nat) (U.list (nth (U.i (0 : Int)) S.list (Int.toNat i.int)))) (0 : Nat))) c.int else [])) : Int) + (200000 : Int) * ((S.list.length : Int) - IntKind.wrap .i64 (i.int + (1 : Int))) ≤ (300000000 : Int)) ∧ k (Ex.exit (nat_lit 0)) (St.mk [(nat_lit 4, .val (.sl false [.int .u8]) (U.l ((num (textB b.list (U.str (nth (U.i (0 : Int)) (List.drop (0 : Nat) (U.list (nth (U.i (0 : Int)) S.list (Int.toNat i.int)))) (0 : Nat)))) (2 : Int) (U.int (nth (U.i (0 : Int)) (List.drop (1 : Nat) (U.list (nth (U.i (0 : Int)) S.list (Int.toNat i.int)))) (0 : Nat))) ++ bif tableR (U.list (nth (U.i (0 : Int)) (List.drop (2 : Nat) (U.list (nth (U.i (0 : Int)) S.list (Int.toNat i.int)))) (0 : Nat))) (4096 : Int) c.int then tputB (U.list (nth (U.i (0 : Int)) (List.drop (2 : Nat) (U.list (nth (U.i (0 : Int)) S.list (Int.toNat i.int)))) (0 : Nat))) c.int else []) ++ shotsB c.int (List.drop (Int.toNat (IntKind.wrap .i64 (i.int + (1 : Int)))) S.list)))), (nat_lit 1, .ptr (nat_lit 128) (nat_lit 0))] [(nat_lit 128, .box [.val (.int IntKind.i64) c, .val (.int IntKind.i64) sz, .val .str bk, .val (.sl false [.sl true [.int .i64, .int .i64, .int .i64, .int .i64, .int .u32]]) T, .val (.sl true [.str, .int .i64, Ct.sl false [.sl true [.int .i64, .int .i64, .int .i64, .int .i64, .int .u32]]]) S, .val (.sl true [.str, Ct.bool, Ct.sl true [.int .i64, .int .i64]]) M, .val (.sl false [.int .i64]) Q])]) else False else False else False else False else False else k (Ex.exit (nat_lit 0)) (St.mk [(nat_lit 4, .val (.sl false [.int .u8]) b), (nat_lit 1, .ptr (nat_lit 128) (nat_lit 0))] [(nat_lit 128, .box [.val (.int IntKind.i64) c, .val (.int IntKind.i64) sz, .val .str bk, .val (.sl false [.sl true [.int .i64, .int .i64, .int .i64, .int .i64, .int .u32]]) T, .val (.sl true [.str, .int .i64, Ct.sl false [.sl true [.int .i64, .int .i64, .int .i64, .int .i64, .int .u32]]]) S, .val (.sl true [.str, Ct.bool, Ct.sl true [.int .i64, .int .i64]]) M, .val (.sl false [.int .i64]) Q])])) := by kernel_rfl
theorem rmput_round2 (pan : KP) (μ : Mu) (N : Nat) (k : KE) (i b c sz bk T S M Q : U) : (exec (rmputC.panics pan) (loopBody Try.f13 1) 2 ⟨[(8, vi i), (4, vl (.int .u8) b), (1, .ptr 128 0)], [(128, .box (mCells c sz bk T S M Q))]⟩ (again PR (some ([4, 1], [128])) none pan [8, 4, 1] [128] rmputLoop2 μ N k)) = (bif decide (i.int < (M.list.length : Int)) then bif decide ((0 : Int) ≤ i.int ∧ i.int < (M.list.length : Int)) then b.list.length ≤ (536870912 : Nat) ∧ bif U.bool (nth (U.i (0 : Int)) (List.tail (U.list (nth (U.i (0 : Int)) M.list (Int.toNat i.int)))) (0 : Nat)) then List.length (textB b.list (U.str (nth (U.i (0 : Int)) (U.list (nth (U.i (0 : Int)) M.list (Int.toNat i.int))) (0 : Nat)))) ≤ (536870912 : Nat) ∧ List.length (num (textB b.list (U.str (nth (U.i (0 : Int)) (U.list (nth (U.i (0 : Int)) M.list (Int.toNat i.int))) (0 : Nat)))) (1 : Int) (1 : Int)) ≤ (536870912 : Nat) ∧ ((nat_lit 1152 = nat_lit 1152 ∧ nat_lit 0 = nat_lit 0 ∧ nat_lit 128 = nat_lit 128 ∧ nat_lit 0 = nat_lit 0) ∧ ([Ct.int IntKind.i64, Ct.int IntKind.i64] = [.int .i64, .int .i64] ∧ [Ct.int IntKind.i64, Ct.int IntKind.i64, Ct.int IntKind.i64, Ct.int IntKind.i64, Ct.int IntKind.u32] = [.int .i64, .int .i64, .int .i64, .int .i64, .int .u32] ∧ [Ct.str, Ct.int IntKind.i64, Ct.sl false [Ct.sl true [Ct.int IntKind.i64, Ct.int IntKind.i64, Ct.int IntKind.i64, Ct.int IntKind.i64, Ct.int IntKind.u32]]] = [.str, .int .i64, Ct.sl false [.sl true [.int .i64, .int .i64, .int .i64, .int .i64, .int .u32]]] ∧ [Ct.str, Ct.bool, Ct.sl true [Ct.int IntKind.i64, Ct.int IntKind.i64]] = [.str, Ct.bool, Ct.sl true [.int .i64, .int .i64]]) ∧ U.l (num (num (textB b.list (U.str (nth (U.i (0 : Int)) (U.list (nth (U.i (0 : Int)) M.list (Int.toNat i.int))) (0 : Nat)))) (1 : Int) (1 : Int)) (2 : Int) (↑(List.length (U.list (nth (U.i (0 : Int)) (List.tail (List.tail (U.list (nth (U.i (0 : Int)) M.list (Int.toNat i.int))))) (0 : Nat)))) : Int)) = U.l (num (num (textB b.list (U.str (nth (U.i (0 : Int)) (U.list (nth (U.i (0 : Int)) M.list (Int.toNat i.int))) (0 : Nat)))) (1 : Int) (1 : Int)) (2 : Int) (↑(List.length (U.list (nth (U.i (0 : Int)) (List.tail (List.tail (U.list (nth (U.i (0 : Int)) M.list (Int.toNat i.int))))) (0 : Nat)))) : Int)) ∧ List.length (U.list (nth (U.i (0 : Int)) (List.tail (List.tail (U.list (nth (U.i (0 : Int)) M.list (Int.toNat i.int))))) (0 : Nat))) ≤ (65535 : Nat) ∧ (0 : Int) ≤ (0 : Int) ∧ (0 : Int) ≤ (↑(List.length (U.list (nth (U.i (0 : Int)) (List.tail (List.tail (U.list (nth (U.i (0 : Int)) M.list (Int.toNat i.int))))) (0 : Nat)))) : Int) ∧ (∀ (s : U), s ∈ U.list (nth (U.i (0 : Int)) (List.tail (List.tail (U.list (nth (U.i (0 : Int)) M.list (Int.toNat i.int))))) (0 : Nat)) → spanOk s) ∧ (↑(List.length (num (num (textB b.list (U.str (nth (U.i (0 : Int)) (U.list (nth (U.i (0 : Int)) M.list (Int.toNat i.int))) (0 : Nat)))) (1 : Int) (1 : Int)) (2 : Int) (↑(List.length (U.list (nth (U.i (0 : Int)) (List.tail (List.tail (U.list (nth (U.i (0 : Int)) M.list (Int.toNat i.int))))) (0 : Nat)))) : Int))) : Int) + (8 : Int) * ((↑(List.length (U.list (nth (U.i (0 : Int)) (List.tail (List.tail (U.list (nth (U.i (0 : Int)) M.list (Int.toNat i.int))))) (0 : Nat)))) : Int) - (0 : Int)) ≤ (500000000 : Int)) ∧ bif Nat.blt (μ [.val (.int IntKind.i64) (U.i (IntKind.wrap .i64 (i.int + (1 : Int)))), .val (.sl false [.int .u8]) (U.l (num (num (textB b.list (U.str (nth (U.i (0 : Int)) (U.list (nth (U.i (0 : Int)) M.list (Int.toNat i.int))) (0 : Nat)))) (1 : Int) (1 : Int)) (2 : Int) (↑(List.length (U.list (nth (U.i (0 : Int)) (List.tail (List.tail (U.list (nth (U.i (0 : Int)) M.list (Int.toNat i.int))))) (0 : Nat)))) : Int) ++ spansB (List.drop (Int.toNat (0 : Int)) (U.list (nth (U.i (0 : Int)) (List.tail (List.tail (U.list (nth (U.i (0 : Int)) M.list (Int.toNat i.int))))) (0 : Nat)))))), .ptr (nat_lit 128) (nat_lit 0)] [.box [.val (.int IntKind.i64) c, .val (.int IntKind.i64) sz, .val .str bk, .val (.sl false [.sl true [.int .i64, .int .i64, .int .i64, .int .i64, .int .u32]]) T, .val (.sl true [.str, .int .i64, Ct.sl false [.sl true [.int .i64, .int .i64, .int .i64, .int .i64, .int .u32]]]) S, .val (.sl true [.str, Ct.bool, Ct.sl true [.int .i64, .int .i64]]) M, .val (.sl false [.int .i64]) Q]]) N then ((nat_lit 128 = nat_lit 128 ∧ nat_lit 0 = nat_lit 0) ∧ ([Ct.int IntKind.i64, Ct.int IntKind.i64, Ct.int IntKind.i64, Ct.int IntKind.i64, Ct.int IntKind.u32] = [.int .i64, .int .i64, .int .i64, .int .i64, .int .u32] ∧ [Ct.str, Ct.int IntKind.i64, Ct.sl false [Ct.sl true [Ct.int IntKind.i64, Ct.int IntKind.i64, Ct.int IntKind.i64, Ct.int IntKind.i64, Ct.int IntKind.u32]]] = [.str, .int .i64, Ct.sl false [.sl true [.int .i64, .int .i64, .int .i64, .int .i64, .int .u32]]] ∧ [Ct.str, Ct.bool, Ct.sl true [Ct.int IntKind.i64, Ct.int IntKind.i64]] = [.str, Ct.bool, Ct.sl true [.int .i64, .int .i64]]) ∧ U.l (num (num (textB b.list (U.str (nth (U.i (0 : Int)) (U.list (nth (U.i (0 : Int)) M.list (Int.toNat i.int))) (0 : Nat)))) (1 : Int) (1 : Int)) (2 : Int) (↑(List.length (U.list (nth (U.i (0 : Int)) (List.tail (List.tail (U.list (nth (U.i (0 : Int)) M.list (Int.toNat i.int))))) (0 : Nat)))) : Int) ++ spansB (List.drop (Int.toNat (0 : Int)) (U.list (nth (U.i (0 : Int)) (List.tail (List.tail (U.list (nth (U.i (0 : Int)) M.list (Int.toNat i.int))))) (0 : Nat))))) = U.l (num (num (textB b.list (U.str (nth (U.i (0 : Int)) (U.list (nth (U.i (0 : Int)) M.list (Int.toNat i.int))) (0 : Nat)))) (1 : Int) (1 : Int)) (2 : Int) (↑(List.length (U.list (nth (U.i (0 : Int)) (List.tail (List.tail (U.list (nth (U.i (0 : Int)) M.list (Int.toNat i.int))))) (0 : Nat)))) : Int) ++ spansB (List.drop (Int.toNat (0 : Int)) (U.list (nth (U.i (0 : Int)) (List.tail (List.tail (U.list (nth (U.i (0 : Int)) M.list (Int.toNat i.int))))) (0 : Nat))))) ∧ M.list.length ≤ (8 : Nat) ∧ (0 : Int) ≤ IntKind.wrap .i64 (i.int + (1 : Int)) ∧ IntKind.wrap .i64 (i.int + (1 : Int)) ≤ (M.list.length : Int) ∧ (∀ (x : U), x ∈ M.list → bmapOk x) ∧ (↑(List.length (num (num (textB b.list (U.str (nth (U.i (0 : Int)) (U.list (nth (U.i (0 : Int)) M.list (Int.toNat i.int))) (0 : Nat)))) (1 : Int) (1 : Int)) (2 : Int) (↑(List.length (U.list (nth (U.i (0 : Int)) (List.tail (List.tail (U.list (nth (U.i (0 : Int)) M.list (Int.toNat i.int))))) (0 : Nat)))) : Int) ++ spansB (List.drop (Int.toNat (0 : Int)) (U.list (nth (U.i (0 : Int)) (List.tail (List.tail (U.list (nth (U.i (0 : Int)) M.list (Int.toNat i.int))))) (0 : Nat)))))) : Int) + (9000000 : Int) * ((M.list.length : Int) - IntKind.wrap .i64 (i.int + (1 : Int))) ≤ (400000000 : Int)) ∧ k (Ex.exit (nat_lit 2)) (St.mk [(nat_lit 4, .val (.sl false [.int .u8]) (U.l (num (num (textB b.list (U.str (nth (U.i (0 : Int)) (U.list (nth (U.i (0 : Int)) M.list (Int.toNat i.int))) (0 : Nat)))) (1 : Int) (1 : Int)) (2 : Int) (↑(List.length (U.list (nth (U.i (0 : Int)) (List.tail (List.tail (U.list (nth (U.i (0 : Int)) M.list (Int.toNat i.int))))) (0 : Nat)))) : Int) ++ spansB (List.drop (Int.toNat (0 : Int)) (U.list (nth (U.i (0 : Int)) (List.tail (List.tail (U.list (nth (U.i (0 : Int)) M.list (Int.toNat i.int))))) (0 : Nat)))) ++ mapsB (List.drop (Int.toNat (IntKind.wrap .i64 (i.int + (1 : Int)))) M.list)))), (nat_lit 1, .ptr (nat_lit 128) (nat_lit 0))] [(nat_lit 128, .box [.val (.int IntKind.i64) c, .val (.int IntKind.i64) sz, .val .str bk, .val (.sl false [.sl true [.int .i64, .int .i64, .int .i64, .int .i64, .int .u32]]) T, .val (.sl true [.str, .int .i64, Ct.sl false [.sl true [.int .i64, .int .i64, .int .i64, .int .i64, .int .u32]]]) S, .val (.sl true [.str, Ct.bool, Ct.sl true [.int .i64, .int .i64]]) M, .val (.sl false [.int .i64]) Q])]) else False else List.length (textB b.list (U.str (nth (U.i (0 : Int)) (U.list (nth (U.i (0 : Int)) M.list (Int.toNat i.int))) (0 : Nat)))) ≤ (536870912 : Nat) ∧ List.length (num (textB b.list (U.str (nth (U.i (0 : Int)) (U.list (nth (U.i (0 : Int)) M.list (Int.toNat i.int))) (0 : Nat)))) (1 : Int) (0 : Int)) ≤ (536870912 : Nat) ∧ ((nat_lit 1152 = nat_lit 1152 ∧ nat_lit 0 = nat_lit 0 ∧ nat_lit 128 = nat_lit 128 ∧ nat_lit 0 = nat_lit 0) ∧ ([Ct.int IntKind.i64, Ct.int IntKind.i64] = [.int .i64, .int .i64] ∧ [Ct.int IntKind.i64, Ct.int IntKind.i64, Ct.int IntKind.i64, Ct.int IntKind.i64, Ct.int IntKind.u32] = [.int .i64, .int .i64, .int .i64, .int .i64, .int .u32] ∧ [Ct.str, Ct.int IntKind.i64, Ct.sl false [Ct.sl true [Ct.int IntKind.i64, Ct.int IntKind.i64, Ct.int IntKind.i64, Ct.int IntKind.i64, Ct.int IntKind.u32]]] = [.str, .int .i64, Ct.sl false [.sl true [.int .i64, .int .i64, .int .i64, .int .i64, .int .u32]]] ∧ [Ct.str, Ct.bool, Ct.sl true [Ct.int IntKind.i64, Ct.int IntKind.i64]] = [.str, Ct.bool, Ct.sl true [.int .i64, .int .i64]]) ∧ U.l (num (num (textB b.list (U.str (nth (U.i (0 : Int)) (U.list (nth (U.i (0 : Int)) M.list (Int.toNat i.int))) (0 : Nat)))) (1 : Int) (0 : Int)) (2 : Int) (↑(List.length (U.list (nth (U.i (0 : Int)) (List.tail (List.tail (U.list (nth (U.i (0 : Int)) M.list (Int.toNat i.int))))) (0 : Nat)))) : Int)) = U.l (num (num (textB b.list (U.str (nth (U.i (0 : Int)) (U.list (nth (U.i (0 : Int)) M.list (Int.toNat i.int))) (0 : Nat)))) (1 : Int) (0 : Int)) (2 : Int) (↑(List.length (U.list (nth (U.i (0 : Int)) (List.tail (List.tail (U.list (nth (U.i (0 : Int)) M.list (Int.toNat i.int))))) (0 : Nat)))) : Int)) ∧ List.length (U.list (nth (U.i (0 : Int)) (List.tail (List.tail (U.list (nth (U.i (0 : Int)) M.list (Int.toNat i.int))))) (0 : Nat))) ≤ (65535 : Nat) ∧ (0 : Int) ≤ (0 : Int) ∧ (0 : Int) ≤ (↑(List.length (U.list (nth (U.i (0 : Int)) (List.tail (List.tail (U.list (nth (U.i (0 : Int)) M.list (Int.toNat i.int))))) (0 : Nat)))) : Int) ∧ (∀ (s : U), s ∈ U.list (nth (U.i (0 : Int)) (List.tail (List.tail (U.list (nth (U.i (0 : Int)) M.list (Int.toNat i.int))))) (0 : Nat)) → spanOk s) ∧ (↑(List.length (num (num (textB b.list (U.str (nth (U.i (0 : Int)) (U.list (nth (U.i (0 : Int)) M.list (Int.toNat i.int))) (0 : Nat)))) (1 : Int) (0 : Int)) (2 : Int) (↑(List.length (U.list (nth (U.i (0 : Int)) (List.tail (List.tail (U.list (nth (U.i (0 : Int)) M.list (Int.toNat i.int))))) (0 : Nat)))) : Int))) : Int) + (8 : Int) * ((↑(List.length (U.list (nth (U.i (0 : Int)) (List.tail (List.tail (U.list (nth (U.i (0 : Int)) M.list (Int.toNat i.int))))) (0 : Nat)))) : Int) - (0 : Int)) ≤ (500000000 : Int)) ∧ bif Nat.blt (μ [.val (.int IntKind.i64) (U.i (IntKind.wrap .i64 (i.int + (1 : Int)))), .val (.sl false [.int .u8]) (U.l (num (num (textB b.list (U.str (nth (U.i (0 : Int)) (U.list (nth (U.i (0 : Int)) M.list (Int.toNat i.int))) (0 : Nat)))) (1 : Int) (0 : Int)) (2 : Int) (↑(List.length (U.list (nth (U.i (0 : Int)) (List.tail (List.tail (U.list (nth (U.i (0 : Int)) M.list (Int.toNat i.int))))) (0 : Nat)))) : Int) ++ spansB (List.drop (Int.toNat (0 : Int)) (U.list (nth (U.i (0 : Int)) (List.tail (List.tail (U.list (nth (U.i (0 : Int)) M.list (Int.toNat i.int))))) (0 : Nat)))))), .ptr (nat_lit 128) (nat_lit 0)] [.box [.val (.int IntKind.i64) c, .val (.int IntKind.i64) sz, .val .str bk, .val (.sl false [.sl true [.int .i64, .int .i64, .int .i64, .int .i64, .int .u32]]) T, .val (.sl true [.str, .int .i64, Ct.sl false [.sl true [.int .i64, .int .i64, .int .i64, .int .i64, .int .u32]]]) S, .val (.sl true [.str, Ct.bool, Ct.sl true [.int .i64, .int .i64]]) M, .val (.sl false [.int .i64]) Q]]) N then ((nat_lit 128 = nat_lit 128 ∧ nat_lit 0 = nat_lit 0) ∧ ([Ct.int IntKind.i64, Ct.int IntKind.i64, Ct.int IntKind.i64, Ct.int IntKind.i64, Ct.int IntKind.u32] = [.int .i64, .int .i64, .int .i64, .int .i64, .int .u32] ∧ [Ct.str, Ct.int IntKind.i64, Ct.sl false [Ct.sl true [Ct.int IntKind.i64, Ct.int IntKind.i64, Ct.int IntKind.i64, Ct.int IntKind.i64, Ct.int IntKind.u32]]] = [.str, .int .i64, Ct.sl false [.sl true [.int .i64, .int .i64, .int .i64, .int .i64, .int .u32]]] ∧ [Ct.str, Ct.bool, Ct.sl true [Ct.int IntKind.i64, Ct.int IntKind.i64]] = [.str, Ct.bool, Ct.sl true [.int .i64, .int .i64]]) ∧ U.l (num (num (textB b.list (U.str (nth (U.i (0 : Int)) (U.list (nth (U.i (0 : Int)) M.list (Int.toNat i.int))) (0 : Nat)))) (1 : Int) (0 : Int)) (2 : Int) (↑(List.length (U.list (nth (U.i (0 : Int)) (List.tail (List.tail (U.list (nth (U.i (0 : Int)) M.list (Int.toNat i.int))))) (0 : Nat)))) : Int) ++ spansB (List.drop (Int.toNat (0 : Int)) (U.list (nth (U.i (0 : Int)) (List.tail (List.tail (U.list (nth (U.i (0 : Int)) M.list (Int.toNat i.int))))) (0 : Nat))))) = U.l (num (num (textB b.list (U.str (nth (U.i (0 : Int)) (U.list (nth (U.i (0 : Int)) M.list (Int.toNat i.int))) (0 : Nat)))) (1 : Int) (0 : Int)) (2 : Int) (↑(List.length (U.list (nth (U.i (0 : Int)) (List.tail (List.tail (U.list (nth (U.i (0 : Int)) M.list (Int.toNat i.int))))) (0 : Nat)))) : Int) ++ spansB (List.drop (Int.toNat (0 : Int)) (U.list (nth (U.i (0 : Int)) (List.tail (List.tail (U.list (nth (U.i (0 : Int)) M.list (Int.toNat i.int))))) (0 : Nat))))) ∧ M.list.length ≤ (8 : Nat) ∧ (0 : Int) ≤ IntKind.wrap .i64 (i.int + (1 : Int)) ∧ IntKind.wrap .i64 (i.int + (1 : Int)) ≤ (M.list.length : Int) ∧ (∀ (x : U), x ∈ M.list → bmapOk x) ∧ (↑(List.length (num (num (textB b.list (U.str (nth (U.i (0 : Int)) (U.list (nth (U.i (0 : Int)) M.list (Int.toNat i.int))) (0 : Nat)))) (1 : Int) (0 : Int)) (2 : Int) (↑(List.length (U.list (nth (U.i (0 : Int)) (List.tail (List.tail (U.list (nth (U.i (0 : Int)) M.list (Int.toNat i.int))))) (0 : Nat)))) : Int) ++ spansB (List.drop (Int.toNat (0 : Int)) (U.list (nth (U.i (0 : Int)) (List.tail (List.tail (U.list (nth (U.i (0 : Int)) M.list (Int.toNat i.int))))) (0 : Nat)))))) : Int) + (9000000 : Int) * ((M.list.length : Int) - IntKind.wrap .i64 (i.int + (1 : Int))) ≤ (400000000 : Int)) ∧ k (Ex.exit (nat_lit 2)) (St.mk [(nat_lit 4, .val (.sl false [.int .u8]) (U.l (num (num (textB b.list (U.str (nth (U.i (0 : Int)) (U.list (nth (U.i (0 : Int)) M.list (Int.toNat i.int))) (0 : Nat)))) (1 : Int) (0 : Int)) (2 : Int) (↑(List.length (U.list (nth (U.i (0 : Int)) (List.tail (List.tail (U.list (nth (U.i (0 : Int)) M.list (Int.toNat i.int))))) (0 : Nat)))) : Int) ++ spansB (List.drop (Int.toNat (0 : Int)) (U.list (nth (U.i (0 : Int)) (List.tail (List.tail (U.list (nth (U.i (0 : Int)) M.list (Int.toNat i.int))))) (0 : Nat)))) ++ mapsB (List.drop (Int.toNat (IntKind.wrap .i64 (i.int + (1 : Int)))) M.list)))), (nat_lit 1, .ptr (nat_lit 128) (nat_lit 0))] [(nat_lit 128, .box [.val (.int IntKind.i64) c, .val (.int IntKind.i64) sz, .val .str bk, .val (.sl false [.sl true [.int .i64, .int .i64, .int .i64, .int .i64, .int .u32]]) T, .val (.sl true [.str, .int .i64, Ct.sl false [.sl true [.int .i64, .int .i64, .int .i64, .int .i64, .int .u32]]]) S, .val (.sl true [.str, Ct.bool, Ct.sl true [.int .i64, .int .i64]]) M, .val (.sl false [.int .i64]) Q])]) else False else False else k (Ex.exit (nat_lit 2)) (St.mk [(nat_lit 4, .val (.sl false [.int .u8]) b), (nat_lit 1, .ptr (nat_lit 128) (nat_lit 0))] [(nat_lit 128, .box [.val (.int IntKind.i64) c, .val (.int IntKind.i64) sz, .val .str bk, .val (.sl false [.sl true [.int .i64, .int .i64, .int .i64, .int .i64, .int .u32]]) T, .val (.sl true [.str, .int .i64, Ct.sl false [.sl true [.int .i64, .int .i64, .int .i64, .int .i64, .int .u32]]]) S, .val (.sl true [.str, Ct.bool, Ct.sl true [.int .i64, .int .i64]]) M, .val (.sl false [.int .i64]) Q])])) := by kernel_rfl
theorem rmput_round4 (pan : KP) (μ : Mu) (N : Nat) (k : KE) (i b j nm on L c sz bk T S M Q : U) : (exec (rmputC.panics pan) (loopBody Try.f13 2) 4 ⟨[(11, vi i), (9, .ptr 1152 0), (4, vl (.int .u8) b), (8, vi j), (1, .ptr 128 0)], [(1152, .box [vs nm, vb on, vt SpC L]), (128, .box (mCells c sz bk T S M Q))]⟩ (again PR (some ([4, 8, 1], [128])) none pan [11, 9, 4, 8, 1] [1152, 128] rmputLoop4 μ N k)) = (bif decide (i.int < (L.list.length : Int)) then bif decide ((0 : Int) ≤ i.int ∧ i.int < (L.list.length : Int)) then bif decide ((0 : Int) ≤ i.int ∧ i.int < (L.list.length : Int)) then b.list.length ≤ (536870912 : Nat) ∧ List.length (num b.list (2 : Int) (U.int (nth (U.i (0 : Int)) (List.drop (0 : Nat) (U.list (nth (U.i (0 : Int)) L.list (Int.toNat i.int)))) (0 : Nat)))) ≤ (536870912 : Nat) ∧ bif Nat.blt (μ [.val (.int IntKind.i64) (U.i (IntKind.wrap .i64 (i.int + (1 : Int)))), .ptr (nat_lit 1152) (nat_lit 0), .val (.sl false [.int .u8]) (U.l (num (num b.list (2 : Int) (U.int (nth (U.i (0 : Int)) (List.drop (0 : Nat) (U.list (nth (U.i (0 : Int)) L.list (Int.toNat i.int)))) (0 : Nat)))) (2 : Int) (U.int (nth (U.i (0 : Int)) (List.drop (1 : Nat) (U.list (nth (U.i (0 : Int)) L.list (Int.toNat i.int)))) (0 : Nat))))), .val (.int IntKind.i64) j, .ptr (nat_lit 128) (nat_lit 0)] [.box [.val .str nm, .val .bool on, .val (.sl true [.int .i64, .int .i64]) L], .box [.val (.int IntKind.i64) c, .val (.int IntKind.i64) sz, .val .str bk, .val (.sl false [.sl true [.int .i64, .int .i64, .int .i64, .int .i64, .int .u32]]) T, .val (.sl true [.str, .int .i64, Ct.sl false [.sl true [.int .i64, .int .i64, .int .i64, .int .i64, .int .u32]]]) S, .val (.sl true [.str, Ct.bool, Ct.sl true [.int .i64, .int .i64]]) M, .val (.sl false [.int .i64]) Q]]) N then ((nat_lit 1152 = nat_lit 1152 ∧ nat_lit 0 = nat_lit 0 ∧ nat_lit 128 = nat_lit 128 ∧ nat_lit 0 = nat_lit 0) ∧ ([Ct.int IntKind.i64, Ct.int IntKind.i64] = [.int .i64, .int .i64] ∧ [Ct.int IntKind.i64, Ct.int IntKind.i64, Ct.int IntKind.i64, Ct.int IntKind.i64, Ct.int IntKind.u32] = [.int .i64, .int .i64, .int .i64, .int .i64, .int .u32] ∧ [Ct.str, Ct.int IntKind.i64, Ct.sl false [Ct.sl true [Ct.int IntKind.i64, Ct.int IntKind.i64, Ct.int IntKind.i64, Ct.int IntKind.i64, Ct.int IntKind.u32]]] = [.str, .int .i64, Ct.sl false [.sl true [.int .i64, .int .i64, .int .i64, .int .i64, .int .u32]]] ∧ [Ct.str, Ct.bool, Ct.sl true [Ct.int IntKind.i64, Ct.int IntKind.i64]] = [.str, Ct.bool, Ct.sl true [.int .i64, .int .i64]]) ∧ U.l (num (num b.list (2 : Int) (U.int (nth (U.i (0 : Int)) (List.drop (0 : Nat) (U.list (nth (U.i (0 : Int)) L.list (Int.toNat i.int)))) (0 : Nat)))) (2 : Int) (U.int (nth (U.i (0 : Int)) (List.drop (1 : Nat) (U.list (nth (U.i (0 : Int)) L.list (Int.toNat i.int)))) (0 : Nat)))) = U.l (num (num b.list (2 : Int) (U.int (nth (U.i (0 : Int)) (List.drop (0 : Nat) (U.list (nth (U.i (0 : Int)) L.list (Int.toNat i.int)))) (0 : Nat)))) (2 : Int) (U.int (nth (U.i (0 : Int)) (List.drop (1 : Nat) (U.list (nth (U.i (0 : Int)) L.list (Int.toNat i.int)))) (0 : Nat)))) ∧ L.list.length ≤ (65535 : Nat) ∧ (0 : Int) ≤ IntKind.wrap .i64 (i.int + (1 : Int)) ∧ IntKind.wrap .i64 (i.int + (1 : Int)) ≤ (L.list.length : Int) ∧ (∀ (s : U), s ∈ L.list → spanOk s) ∧ (↑(List.length (num (num b.list (2 : Int) (U.int (nth (U.i (0 : Int)) (List.drop (0 : Nat) (U.list (nth (U.i (0 : Int)) L.list (Int.toNat i.int)))) (0 : Nat)))) (2 : Int) (U.int (nth (U.i (0 : Int)) (List.drop (1 : Nat) (U.list (nth (U.i (0 : Int)) L.list (Int.toNat i.int)))) (0 : Nat))))) : Int) + (8 : Int) * ((L.list.length : Int) - IntKind.wrap .i64 (i.int + (1 : Int))) ≤ (500000000 : Int)) ∧ k (Ex.exit (nat_lit 4)) (St.mk [(nat_lit 4, .val (.sl false [.int .u8]) (U.l (num (num b.list (2 : Int) (U.int (nth (U.i (0 : Int)) (List.drop (0 : Nat) (U.list (nth (U.i (0 : Int)) L.list (Int.toNat i.int)))) (0 : Nat)))) (2 : Int) (U.int (nth (U.i (0 : Int)) (List.drop (1 : Nat) (U.list (nth (U.i (0 : Int)) L.list (Int.toNat i.int)))) (0 : Nat))) ++ spansB (List.drop (Int.toNat (IntKind.wrap .i64 (i.int + (1 : Int)))) L.list)))), (nat_lit 8, .val (.int IntKind.i64) j), (nat_lit 1, .ptr (nat_lit 128) (nat_lit 0))] [(nat_lit 128, .box [.val (.int IntKind.i64) c, .val (.int IntKind.i64) sz, .val .str bk, .val (.sl false [.sl true [.int .i64, .int .i64, .int .i64, .int .i64, .int .u32]]) T, .val (.sl true [.str, .int .i64, Ct.sl false [.sl true [.int .i64, .int .i64, .int .i64, .int .i64, .int .u32]]]) S, .val (.sl true [.str, Ct.bool, Ct.sl true [.int .i64, .int .i64]]) M, .val (.sl false [.int .i64]) Q])]) else False else False else False else k (Ex.exit (nat_lit 4)) (St.mk [(nat_lit 4, .val (.sl false [.int .u8]) b), (nat_lit 8, .val (.int IntKind.i64) j), (nat_lit 1, .ptr (nat_lit 128) (nat_lit 0))] [(nat_lit 128, .box [.val (.int IntKind.i64) c, .val (.int IntKind.i64) sz, .val .str bk, .val (.sl false [.sl true [.int .i64, .int .i64, .int .i64, .int .i64, .int .u32]]) T, .val (.sl true [.str, .int .i64, Ct.sl false [.sl true [.int .i64, .int .i64, .int .i64, .int .i64, .int .u32]]]) S, .val (.sl true [.str, Ct.bool, Ct.sl true [.int .i64, .int .i64]]) M, .val (.sl false [.int .i64]) Q])])) := by kernel_rfl
theorem rmput_round6 (pan : KP) (μ : Mu) (N : Nat) (k : KE) (i b c sz bk T S M Q : U) : (exec (rmputC.panics pan) (loopBody Try.f13 3) 6 ⟨[(12, vi i), (4, vl (.int .u8) b), (1, .ptr 128 0)], [(128, .box (mCells c sz bk T S M Q))]⟩ (again PR (some ([4], [])) none pan [12, 4, 1] [128] rmputLoop6 μ N k)) = (bif decide (i.int < (Q.list.length : Int)) then ((nat_lit 128 = nat_lit 128 ∧ nat_lit 0 = nat_lit 0) ∧ ([Ct.int IntKind.i64, Ct.int IntKind.i64, Ct.int IntKind.i64, Ct.int IntKind.i64, Ct.int IntKind.u32] = [.int .i64, .int .i64, .int .i64, .int .i64, .int .u32] ∧ [Ct.str, Ct.int IntKind.i64, Ct.sl false [Ct.sl true [Ct.int IntKind.i64, Ct.int IntKind.i64, Ct.int IntKind.i64, Ct.int IntKind.i64, Ct.int IntKind.u32]]] = [.str, .int .i64, Ct.sl false [.sl true [.int .i64, .int .i64, .int .i64, .int .i64, .int .u32]]] ∧ [Ct.str, Ct.bool, Ct.sl true [Ct.int IntKind.i64, Ct.int IntKind.i64]] = [.str, Ct.bool, Ct.sl true [.int .i64, .int .i64]]) ∧ U.i (1 : Int) = U.i (1 : Int) ∧ Q.list.length ≤ (65536 : Nat) ∧ (0 : Int) ≤ i.int ∧ (1 : Int) ≤ (1 : Int) ∧ (1 : Int) ≤ (65535 : Int) ∧ i.int + (1 : Int) ≤ (Q.list.length : Int)) ∧ bif decide ((0 : Int) ≤ i.int ∧ i.int < (Q.list.length : Int)) then b.list.length ≤ (536870912 : Nat) ∧ List.length (num b.list (2 : Int) (lead (U.int (nth (U.i (0 : Int)) Q.list (Int.toNat i.int))) (1 : Int) (List.drop (Int.toNat (i.int + (1 : Int))) Q.list))) ≤ (536870912 : Nat) ∧ bif Nat.blt (μ [.val (.int IntKind.i64) (U.i (IntKind.wrap .i64 (i.int + lead (U.int (nth (U.i (0 : Int)) Q.list (Int.toNat i.int))) (1 : Int) (List.drop (Int.toNat (i.int + (1 : Int))) Q.list)))), .val (.sl false [.int .u8]) (U.l (num (num b.list (2 : Int) (lead (U.int (nth (U.i (0 : Int)) Q.list (Int.toNat i.int))) (1 : Int) (List.drop (Int.toNat (i.int + (1 : Int))) Q.list))) (2 : Int) (U.int (nth (U.i (0 : Int)) Q.list (Int.toNat i.int))))), .ptr (nat_lit 128) (nat_lit 0)] [.box [.val (.int IntKind.i64) c, .val (.int IntKind.i64) sz, .val .str bk, .val (.sl false [.sl true [.int .i64, .int .i64, .int .i64, .int .i64, .int .u32]]) T, .val (.sl true [.str, .int .i64, Ct.sl false [.sl true [.int .i64, .int .i64, .int .i64, .int .i64, .int .u32]]]) S, .val (.sl true [.str, Ct.bool, Ct.sl true [.int .i64, .int .i64]]) M, .val (.sl false [.int .i64]) Q]]) N then ((nat_lit 128 = nat_lit 128 ∧ nat_lit 0 = nat_lit 0) ∧ ([Ct.int IntKind.i64, Ct.int IntKind.i64, Ct.int IntKind.i64, Ct.int IntKind.i64, Ct.int IntKind.u32] = [.int .i64, .int .i64, .int .i64, .int .i64, .int .u32] ∧ [Ct.str, Ct.int IntKind.i64, Ct.sl false [Ct.sl true [Ct.int IntKind.i64, Ct.int IntKind.i64, Ct.int IntKind.i64, Ct.int IntKind.i64, Ct.int IntKind.u32]]] = [.str, .int .i64, Ct.sl false [.sl true [.int .i64, .int .i64, .int .i64, .int .i64, .int .u32]]] ∧ [Ct.str, Ct.bool, Ct.sl true [Ct.int IntKind.i64, Ct.int IntKind.i64]] = [.str, Ct.bool, Ct.sl true [.int .i64, .int .i64]]) ∧ U.l (num (num b.list (2 : Int) (lead (U.int (nth (U.i (0 : Int)) Q.list (Int.toNat i.int))) (1 : Int) (List.drop (Int.toNat (i.int + (1 : Int))) Q.list))) (2 : Int) (U.int (nth (U.i (0 : Int)) Q.list (Int.toNat i.int)))) = U.l (num (num b.list (2 : Int) (lead (U.int (nth (U.i (0 : Int)) Q.list (Int.toNat i.int))) (1 : Int) (List.drop (Int.toNat (i.int + (1 : Int))) Q.list))) (2 : Int) (U.int (nth (U.i (0 : Int)) Q.list (Int.toNat i.int)))) ∧ Q.list.length ≤ (65536 : Nat) ∧ (0 : Int) ≤ IntKind.wrap .i64 (i.int + lead (U.int (nth (U.i (0 : Int)) Q.list (Int.toNat i.int))) (1 : Int) (List.drop (Int.toNat (i.int + (1 : Int))) Q.list)) ∧ IntKind.wrap .i64 (i.int + lead (U.int (nth (U.i (0 : Int)) Q.list (Int.toNat i.int))) (1 : Int) (List.drop (Int.toNat (i.int + (1 : Int))) Q.list)) ≤ (Q.list.length : Int) ∧ (∀ (x : U), x ∈ Q.list → cntOk x) ∧ (↑(List.length (num (num b.list (2 : Int) (lead (U.int (nth (U.i (0 : Int)) Q.list (Int.toNat i.int))) (1 : Int) (List.drop (Int.toNat (i.int + (1 : Int))) Q.list))) (2 : Int) (U.int (nth (U.i (0 : Int)) Q.list (Int.toNat i.int))))) : Int) + (8 : Int) * ((Q.list.length : Int) - IntKind.wrap .i64 (i.int + lead (U.int (nth (U.i (0 : Int)) Q.list (Int.toNat i.int))) (1 : Int) (List.drop (Int.toNat (i.int + (1 : Int))) Q.list))) ≤ (500000000 : Int)) ∧ k (Ex.exit (nat_lit 6)) (St.mk [(nat_lit 4, .val (.sl false [.int .u8]) (U.l (num (num b.list (2 : Int) (lead (U.int (nth (U.i (0 : Int)) Q.list (Int.toNat i.int))) (1 : Int) (List.drop (Int.toNat (i.int + (1 : Int))) Q.list))) (2 : Int) (U.int (nth (U.i (0 : Int)) Q.list (Int.toNat i.int))) ++ countsB (List.drop (Int.toNat (IntKind.wrap .i64 (i.int + lead (U.int (nth (U.i (0 : Int)) Q.list (Int.toNat i.int))) (1 : Int) (List.drop (Int.toNat (i.int + (1 : Int))) Q.list)))) Q.list))))] []) else False else False else k (Ex.exit (nat_lit 6)) (St.mk [(nat_lit 4, .val (.sl false [.int .u8]) b)] [])) := by kernel_rfl
theorem rmput_round8 (pan : KP) (μ : Mu) (N : Nat) (k : KE) (n i b c sz bk T S M Q : U) : (exec (rmputC.panics pan) (loopBody Try.f13 4) 8 ⟨[(13, vi n), (12, vi i), (4, vl (.int .u8) b), (1, .ptr 128 0)], [(128, .box (mCells c sz bk T S M Q))]⟩ (again PR (some ([13, 12, 4, 1], [128])) none pan [13, 12, 4, 1] [128] rmputLoop8 μ N k)) = (bif decide (IntKind.wrap .i64 (i.int + n.int) < (Q.list.length : Int)) then bif decide (n.int < (65535 : Int)) then bif decide ((0 : Int) ≤ IntKind.wrap .i64 (i.int + n.int) ∧ IntKind.wrap .i64 (i.int + n.int) < (Q.list.length : Int)) then bif decide ((0 : Int) ≤ i.int ∧ i.int < (Q.list.length : Int)) then bif U.int (nth (U.i (0 : Int)) Q.list (Int.toNat (IntKind.wrap .i64 (i.int + n.int)))) == U.int (nth (U.i (0 : Int)) Q.list (Int.toNat i.int)) then bif Nat.blt (μ [.val (.int IntKind.i64) (U.i (IntKind.wrap .i64 (n.int + (1 : Int)))), .val (.int IntKind.i64) i, .val (.sl false [.int .u8]) b, .ptr (nat_lit 128) (nat_lit 0)] [.box [.val (.int IntKind.i64) c, .val (.int IntKind.i64) sz, .val .str bk, .val (.sl false [.sl true [.int .i64, .int .i64, .int .i64, .int .i64, .int .u32]]) T, .val (.sl true [.str, .int .i64, Ct.sl false [.sl true [.int .i64, .int .i64, .int .i64, .int .i64, .int .u32]]]) S, .val (.sl true [.str, Ct.bool, Ct.sl true [.int .i64, .int .i64]]) M, .val (.sl false [.int .i64]) Q]]) N then ((nat_lit 128 = nat_lit 128 ∧ nat_lit 0 = nat_lit 0) ∧ ([Ct.int IntKind.i64, Ct.int IntKind.i64, Ct.int IntKind.i64, Ct.int IntKind.i64, Ct.int IntKind.u32] = [.int .i64, .int .i64, .int .i64, .int .i64, .int .u32] ∧ [Ct.str, Ct.int IntKind.i64, Ct.sl false [Ct.sl true [Ct.int IntKind.i64, Ct.int IntKind.i64, Ct.int IntKind.i64, Ct.int IntKind.i64, Ct.int IntKind.u32]]] = [.str, .int .i64, Ct.sl false [.sl true [.int .i64, .int .i64, .int .i64, .int .i64, .int .u32]]] ∧ [Ct.str, Ct.bool, Ct.sl true [Ct.int IntKind.i64, Ct.int IntKind.i64]] = [.str, Ct.bool, Ct.sl true [.int .i64, .int .i64]]) ∧ U.i (IntKind.wrap .i64 (n.int + (1 : Int))) = U.i (IntKind.wrap .i64 (n.int + (1 : Int))) ∧ Q.list.length ≤ (65536 : Nat) ∧ (0 : Int) ≤ i.int ∧ (1 : Int) ≤ IntKind.wrap .i64 (n.int + (1 : Int)) ∧ IntKind.wrap .i64 (n.int + (1 : Int)) ≤ (65535 : Int) ∧ i.int + IntKind.wrap .i64 (n.int + (1 : Int)) ≤ (Q.list.length : Int)) ∧ k (Ex.exit (nat_lit 8)) (St.mk [(nat_lit 13, .val (.int IntKind.i64) (U.i (lead (U.int (nth (U.i (0 : Int)) Q.list (Int.toNat i.int))) (IntKind.wrap .i64 (n.int + (1 : Int))) (List.drop (Int.toNat (i.int + IntKind.wrap .i64 (n.int + (1 : Int)))) Q.list)))), (nat_lit 12, .val (.int IntKind.i64) i), (nat_lit 4, .val (.sl false [.int .u8]) b), (nat_lit 1, .ptr (nat_lit 128) (nat_lit 0))] [(nat_lit 128, .box [.val (.int IntKind.i64) c, .val (.int IntKind.i64) sz, .val .str bk, .val (.sl false [.sl true [.int .i64, .int .i64, .int .i64, .int .i64, .int .u32]]) T, .val (.sl true [.str, .int .i64, Ct.sl false [.sl true [.int .i64, .int .i64, .int .i64, .int .i64, .int .u32]]]) S, .val (.sl true [.str, Ct.bool, Ct.sl true [.int .i64, .int .i64]]) M, .val (.sl false [.int .i64]) Q])]) else False else k (Ex.exit (nat_lit 8)) (St.mk [(nat_lit 13, .val (.int IntKind.i64) n), (nat_lit 12, .val (.int IntKind.i64) i), (nat_lit 4, .val (.sl false [.int .u8]) b), (nat_lit 1, .ptr (nat_lit 128) (nat_lit 0))] [(nat_lit 128, .box [.val (.int IntKind.i64) c, .val (.int IntKind.i64) sz, .val .str bk, .val (.sl false [.sl true [.int .i64, .int .i64, .int .i64, .int .i64, .int .u32]]) T, .val (.sl true [.str, .int .i64, Ct.sl false [.sl true [.int .i64, .int .i64, .int .i64, .int .i64, .int .u32]]]) S, .val (.sl true [.str, Ct.bool, Ct.sl true [.int .i64, .int .i64]]) M, .val (.sl false [.int .i64]) Q])]) else False else False else k (Ex.exit (nat_lit 8)) (St.mk [(nat_lit 13, .val (.int IntKind.i64) n), (nat_lit 12, .val (.int IntKind.i64) i), (nat_lit 4, .val (.sl false [.int .u8]) b), (nat_lit 1, .ptr (nat_lit 128) (nat_lit 0))] [(nat_lit 128, .box [.val (.int IntKind.i64) c, .val (.int IntKind.i64) sz, .val .str bk, .val (.sl false [.sl true [.int .i64, .int .i64, .int .i64, .int .i64, .int .u32]]) T, .val (.sl true [.str, .int .i64, Ct.sl false [.sl true [.int .i64, .int .i64, .int .i64, .int .i64, .int .u32]]]) S, .val (.sl true [.str, Ct.bool, Ct.sl true [.int .i64, .int .i64]]) M, .val (.sl false [.int .i64]) Q])]) else k (Ex.exit (nat_lit 8)) (St.mk [(nat_lit 13, .val (.int IntKind.i64) n), (nat_lit 12, .val (.int IntKind.i64) i), (nat_lit 4, .val (.sl false [.int .u8]) b), (nat_lit 1, .ptr (nat_lit 128) (nat_lit 0))] [(nat_lit 128, .box [.val (.int IntKind.i64) c, .val (.int IntKind.i64) sz, .val .str bk, .val (.sl false [.sl true [.int .i64, .int .i64, .int .i64, .int .i64, .int .u32]]) T, .val (.sl true [.str, .int .i64, Ct.sl false [.sl true [.int .i64, .int .i64, .int .i64, .int .i64, .int .u32]]]) S, .val (.sl true [.str, Ct.bool, Ct.sl true [.int .i64, .int .i64]]) M, .val (.sl false [.int .i64]) Q])])) := by kernel_rfl
theorem rmput_tree (R : RF) (c sz bk T S M Q : U) : (run rmputC Try.f13 [[c, sz, bk, T, S, M, Q]] R) = (bif !rmetaR c sz bk T S M Q then R [[U.l []], [U.i (1 : Int)]] else (0 : Nat) ≤ (536870912 : Nat) ∧ List.length (num [] (1 : Int) c.int) ≤ (536870912 : Nat) ∧ List.length (num (num [] (1 : Int) c.int) (2 : Int) sz.int) ≤ (536870912 : Nat) ∧ tputP [[T], [c]] ∧ bif decide (List.length (textB (num (num [] (1 : Int) c.int) (2 : Int) sz.int) bk.str) + List.length (bif tableR T.list (4096 : Int) c.int then tputB T.list c.int else []) ≤ room) && !oddB ((3727 : Nat) + (1 : Nat)) then List.length (textB (num (num [] (1 : Int) c.int) (2 : Int) sz.int) bk.str ++ bif tableR T.list (4096 : Int) c.int then tputB T.list c.int else []) ≤ (536870912 : Nat) ∧ ((nat_lit 128 = nat_lit 128 ∧ nat_lit 0 = nat_lit 0) ∧ ([Ct.int IntKind.i64, Ct.int IntKind.i64, Ct.int IntKind.i64, Ct.int IntKind.i64, Ct.int IntKind.u32] = [.int .i64, .int .i64, .int .i64, .int .i64, .int .u32] ∧ [Ct.str, Ct.int IntKind.i64, Ct.sl false [Ct.sl true [Ct.int IntKind.i64, Ct.int IntKind.i64, Ct.int IntKind.i64, Ct.int IntKind.i64, Ct.int IntKind.u32]]] = [.str, .int .i64, Ct.sl false [.sl true [.int .i64, .int .i64, .int .i64, .int .i64, .int .u32]]] ∧ [Ct.str, Ct.bool, Ct.sl true [Ct.int IntKind.i64, Ct.int IntKind.i64]] = [.str, Ct.bool, Ct.sl true [.int .i64, .int .i64]]) ∧ U.l (num (textB (num (num [] (1 : Int) c.int) (2 : Int) sz.int) bk.str ++ bif tableR T.list (4096 : Int) c.int then tputB T.list c.int else []) (1 : Int) (S.list.length : Int)) = U.l (num (textB (num (num [] (1 : Int) c.int) (2 : Int) sz.int) bk.str ++ bif tableR T.list (4096 : Int) c.int then tputB T.list c.int else []) (1 : Int) (S.list.length : Int)) ∧ S.list.length ≤ (8 : Nat) ∧ (0 : Int) ≤ (0 : Int) ∧ (0 : Int) ≤ (S.list.length : Int) ∧ (∀ (s : U), s ∈ S.list → shotOk s) ∧ (↑(List.length (num (textB (num (num [] (1 : Int) c.int) (2 : Int) sz.int) bk.str ++ bif tableR T.list (4096 : Int) c.int then tputB T.list c.int else []) (1 : Int) (S.list.length : Int))) : Int) + (200000 : Int) * ((S.list.length : Int) - (0 : Int)) ≤ (300000000 : Int)) ∧ List.length (num (textB (num (num [] (1 : Int) c.int) (2 : Int) sz.int) bk.str ++ bif tableR T.list (4096 : Int) c.int then tputB T.list c.int else []) (1 : Int) (S.list.length : Int) ++ shotsB c.int (List.drop (Int.toNat (0 : Int)) S.list)) ≤ (536870912 : Nat) ∧ ((nat_lit 128 = nat_lit 128 ∧ nat_lit 0 = nat_lit 0) ∧ ([Ct.int IntKind.i64, Ct.int IntKind.i64, Ct.int IntKind.i64, Ct.int IntKind.i64, Ct.int IntKind.u32] = [.int .i64, .int .i64, .int .i64, .int .i64, .int .u32] ∧ [Ct.str, Ct.int IntKind.i64, Ct.sl false [Ct.sl true [Ct.int IntKind.i64, Ct.int IntKind.i64, Ct.int IntKind.i64, Ct.int IntKind.i64, Ct.int IntKind.u32]]] = [.str, .int .i64, Ct.sl false [.sl true [.int .i64, .int .i64, .int .i64, .int .i64, .int .u32]]] ∧ [Ct.str, Ct.bool, Ct.sl true [Ct.int IntKind.i64, Ct.int IntKind.i64]] = [.str, Ct.bool, Ct.sl true [.int .i64, .int .i64]]) ∧ U.l (num (num (textB (num (num [] (1 : Int) c.int) (2 : Int) sz.int) bk.str ++ bif tableR T.list (4096 : Int) c.int then tputB T.list c.int else []) (1 : Int) (S.list.length : Int) ++ shotsB c.int (List.drop (Int.toNat (0 : Int)) S.list)) (1 : Int) (M.list.length : Int)) = U.l (num (num (textB (num (num [] (1 : Int) c.int) (2 : Int) sz.int) bk.str ++ bif tableR T.list (4096 : Int) c.int then tputB T.list c.int else []) (1 : Int) (S.list.length : Int) ++ shotsB c.int (List.drop (Int.toNat (0 : Int)) S.list)) (1 : Int) (M.list.length : Int)) ∧ M.list.length ≤ (8 : Nat) ∧ (0 : Int) ≤ (0 : Int) ∧ (0 : Int) ≤ (M.list.length : Int) ∧ (∀ (x : U), x ∈ M.list → bmapOk x) ∧ (↑(List.length (num (num (textB (num (num [] (1 : Int) c.int) (2 : Int) sz.int) bk.str ++ bif tableR T.list (4096 : Int) c.int then tputB T.list c.int else []) (1 : Int) (S.list.length : Int) ++ shotsB c.int (List.drop (Int.toNat (0 : Int)) S.list)) (1 : Int) (M.list.length : Int))) : Int) + (9000000 : Int) * ((M.list.length : Int) - (0 : Int)) ≤ (400000000 : Int)) ∧ List.length (num (num (textB (num (num [] (1 : Int) c.int) (2 : Int) sz.int) bk.str ++ bif tableR T.list (4096 : Int) c.int then tputB T.list c.int else []) (1 : Int) (S.list.length : Int) ++ shotsB c.int (List.drop (Int.toNat (0 : Int)) S.list)) (1 : Int) (M.list.length : Int) ++ mapsB (List.drop (Int.toNat (0 : Int)) M.list)) ≤ (536870912 : Nat) ∧ ((nat_lit 128 = nat_lit 128 ∧ nat_lit 0 = nat_lit 0) ∧ ([Ct.int IntKind.i64, Ct.int IntKind.i64, Ct.int IntKind.i64, Ct.int IntKind.i64, Ct.int IntKind.u32] = [.int .i64, .int .i64, .int .i64, .int .i64, .int .u32] ∧ [Ct.str, Ct.int IntKind.i64, Ct.sl false [Ct.sl true [Ct.int IntKind.i64, Ct.int IntKind.i64, Ct.int IntKind.i64, Ct.int IntKind.i64, Ct.int IntKind.u32]]] = [.str, .int .i64, Ct.sl false [.sl true [.int .i64, .int .i64, .int .i64, .int .i64, .int .u32]]] ∧ [Ct.str, Ct.bool, Ct.sl true [Ct.int IntKind.i64, Ct.int IntKind.i64]] = [.str, Ct.bool, Ct.sl true [.int .i64, .int .i64]]) ∧ U.l (num (num (num (textB (num (num [] (1 : Int) c.int) (2 : Int) sz.int) bk.str ++ bif tableR T.list (4096 : Int) c.int then tputB T.list c.int else []) (1 : Int) (S.list.length : Int) ++ shotsB c.int (List.drop (Int.toNat (0 : Int)) S.list)) (1 : Int) (M.list.length : Int) ++ mapsB (List.drop (Int.toNat (0 : Int)) M.list)) (4 : Int) (Q.list.length : Int)) = U.l (num (num (num (textB (num (num [] (1 : Int) c.int) (2 : Int) sz.int) bk.str ++ bif tableR T.list (4096 : Int) c.int then tputB T.list c.int else []) (1 : Int) (S.list.length : Int) ++ shotsB c.int (List.drop (Int.toNat (0 : Int)) S.list)) (1 : Int) (M.list.length : Int) ++ mapsB (List.drop (Int.toNat (0 : Int)) M.list)) (4 : Int) (Q.list.length : Int)) ∧ Q.list.length ≤ (65536 : Nat) ∧ (0 : Int) ≤ (0 : Int) ∧ (0 : Int) ≤ (Q.list.length : Int) ∧ (∀ (x : U), x ∈ Q.list → cntOk x) ∧ (↑(List.length (num (num (num (textB (num (num [] (1 : Int) c.int) (2 : Int) sz.int) bk.str ++ bif tableR T.list (4096 : Int) c.int then tputB T.list c.int else []) (1 : Int) (S.list.length : Int) ++ shotsB c.int (List.drop (Int.toNat (0 : Int)) S.list)) (1 : Int) (M.list.length : Int) ++ mapsB (List.drop (Int.toNat (0 : Int)) M.list)) (4 : Int) (Q.list.length : Int))) : Int) + (8 : Int) * ((Q.list.length : Int) - (0 : Int)) ≤ (500000000 : Int)) ∧ bif decide ((↑(List.length (num (num (num (textB (num (num [] (1 : Int) c.int) (2 : Int) sz.int) bk.str ++ bif tableR T.list (4096 : Int) c.int then tputB T.list c.int else []) (1 : Int) (S.list.length : Int) ++ shotsB c.int (List.drop (Int.toNat (0 : Int)) S.list)) (1 : Int) (M.list.length : Int) ++ mapsB (List.drop (Int.toNat (0 : Int)) M.list)) (4 : Int) (Q.list.length : Int) ++ countsB (List.drop (Int.toNat (0 : Int)) Q.list))) : Int) > (1048576 : Int)) then R [[U.l []], [U.i (2 : Int)]] else R [[U.l (num (num (num (textB (num (num [] (1 : Int) c.int) (2 : Int) sz.int) bk.str ++ bif tableR T.list (4096 : Int) c.int then tputB T.list c.int else []) (1 : Int) (S.list.length : Int) ++ shotsB c.int (List.drop (Int.toNat (0 : Int)) S.list)) (1 : Int) (M.list.length : Int) ++ mapsB (List.drop (Int.toNat (0 : Int)) M.list)) (4 : Int) (Q.list.length : Int) ++ countsB (List.drop (Int.toNat (0 : Int)) Q.list))], [U.i (0 : Int)]] else False) := by kernel_rfl
end Go.Mat

namespace Go.Mat
open Go Go.Den Go.Proofs
theorem text_app {b : List U} {s : ByteArray} (h : s.size ≤ 65535) : textB b s = b ++ textB [] s := by
  unfold textB
  rw [show longB s = false from decide_eq_false (by omega), cond_false, cond_false, num_app (good2 (by omega) (by omega)), List.append_assoc]
theorem rmput_loop0 : LoopOk rmputC 0 (loopBody Try.f13 0) := by
  refine loopOk_of (F := rmputLoop0) (ts := [7, 4, 1]) (os := [128]) rfl (fun svs os => match svs, os with | .val _ i :: _, [.box [_, _, _, _, .val _ S, _, _]] => ((S.list.length : Int) - i.int).toNat | _, _ => 0) ?_
  intro pan svs os k ho1 ho2 h
  unfold rmputLoop0 at h
  split at h
  · rename_i i b p o c sz bk x1 T x2 S x3 M Q
    obtain ⟨⟨⟨rfl, rfl⟩, ⟨rfl, rfl, rfl⟩, hb, hS8, h0, hi, hok, hx⟩, hk⟩ := h
    refine .eq (rmput_round0 pan _ _ k i b c sz bk T S M Q) ?_
    refine bd (fun hlt => dt ⟨h0, by omega⟩ ?_) (fun hlt => ?_)
    · have hs := hok _ (mem_at (L := S.list) (i := i.int.toNat) (by omega))
      rw [drop_at (by omega), shotsB] at hk
      unfold shotOk at hs
      simp only [U.at, e0, e1, e2, ← List.append_assoc] at hk hs
      obtain ⟨hnm, hv0, hv1, hT'⟩ := hs
      have h1 := textB_len (nth (.i 0) (nth (.i 0) S.list i.int.toNat).list 0).str
      have h2 := num2 (nth (.i 0) (nth (.i 0) S.list i.int.toNat).list 1).int
      have h3 := tabX_len c.int hT'
      have hw : IntKind.wrap .i64 (i.int + 1) = i.int + 1 := i64_in (by omega) (by omega)
      have hc : (i.int + 1).toNat = i.int.toNat + 1 := by omega
      have hlt' : ((S.list.length : Int) - (i.int + 1)).toNat < ((S.list.length : Int) - i.int).toNat := by omega
      have e1 := text_app (b := b.list) hnm
      have e2 : num (textB b.list (nth (.i 0) (nth (.i 0) S.list i.int.toNat).list 0).str) 2 (nth (.i 0) (nth (.i 0) S.list i.int.toNat).list 1).int = b.list ++ textB [] (nth (.i 0) (nth (.i 0) S.list i.int.toNat).list 0).str ++ num [] 2 (nth (.i 0) (nth (.i 0) S.list i.int.toNat).list 1).int := by
        rw [e1]; exact num_app (good2 hv0 hv1)
      unfold tabX at h3
      simp only [nth_drop, Nat.add_zero, hw, hc]
      rw [e2, e1]
      refine ⟨by omega, dt ⟨h0, by omega⟩ ⟨by rw [List.length_append]; omega, dt ⟨h0, by omega⟩ ⟨hT', broom ?_ rfl (blt hlt' ⟨⟨⟨by trivial, by trivial⟩, ⟨by trivial, by trivial, by trivial⟩, by trivial, hS8, by omega, by omega, hok, by simp only [List.length_append]; omega⟩, hk⟩)⟩⟩⟩
      simp only [List.length_append, room]; omega
    · rw [List.drop_of_length_le (by omega), shotsB, List.append_nil, ← hb] at hk
      exact hk
  · exact h.elim
theorem rmput_loop4 : LoopOk rmputC 4 (loopBody Try.f13 2) := by
  refine loopOk_of (F := rmputLoop4) (ts := [11, 9, 4, 8, 1]) (os := [1152, 128]) rfl (fun svs os => match svs, os with | .val _ i :: _, .box [_, _, .val _ L] :: _ => ((L.list.length : Int) - i.int).toNat | _, _ => 0) ?_
  intro pan svs os k ho1 ho2 h
  unfold rmputLoop4 at h
  split at h
  · rename_i i p9 o9 b j p o nm on x4 L c sz bk x1 T x2 S x3 M Q
    obtain ⟨⟨⟨rfl, rfl, rfl, rfl⟩, ⟨rfl, rfl, rfl, rfl⟩, hb, hL8, h0, hi, hok, hx⟩, hk⟩ := h
    refine .eq (rmput_round4 pan _ _ k i b j nm on L c sz bk T S M Q) ?_
    refine bd (fun hlt => dt ⟨h0, by omega⟩ (dt ⟨h0, by omega⟩ ?_)) (fun hlt => ?_)
    · have hs := hok _ (mem_at (L := L.list) (i := i.int.toNat) (by omega))
      rw [drop_at (by omega), spansB] at hk
      unfold spanOk at hs
      simp only [U.at, e0, e1, ← List.append_assoc] at hk hs
      obtain ⟨ha0, ha1, hb0, hb1⟩ := hs
      have h1 := num2 (nth (.i 0) (nth (.i 0) L.list i.int.toNat).list 0).int
      have h2 := num2 (nth (.i 0) (nth (.i 0) L.list i.int.toNat).list 1).int
      have hw : IntKind.wrap .i64 (i.int + 1) = i.int + 1 := i64_in (by omega) (by omega)
      have hc : (i.int + 1).toNat = i.int.toNat + 1 := by omega
      have hlt' : ((L.list.length : Int) - (i.int + 1)).toNat < ((L.list.length : Int) - i.int).toNat := by omega
      have e1 : num b.list 2 (nth (.i 0) (nth (.i 0) L.list i.int.toNat).list 0).int = b.list ++ num [] 2 (nth (.i 0) (nth (.i 0) L.list i.int.toNat).list 0).int := num_app (good2 ha0 ha1)
      have e2 : num (num b.list 2 (nth (.i 0) (nth (.i 0) L.list i.int.toNat).list 0).int) 2 (nth (.i 0) (nth (.i 0) L.list i.int.toNat).list 1).int = b.list ++ num [] 2 (nth (.i 0) (nth (.i 0) L.list i.int.toNat).list 0).int ++ num [] 2 (nth (.i 0) (nth (.i 0) L.list i.int.toNat).list 1).int := by
        rw [e1]; exact num_app (good2 hb0 hb1)
      simp only [nth_drop, Nat.add_zero, hw, hc]
      rw [e2, e1]
      exact ⟨by omega, by rw [List.length_append]; omega, blt hlt' ⟨⟨⟨by trivial, by trivial, by trivial, by trivial⟩, ⟨by trivial, by trivial, by trivial, by trivial⟩, by trivial, hL8, by omega, by omega, hok, by simp only [List.length_append]; omega⟩, hk⟩⟩
    · rw [List.drop_of_length_le (by omega), spansB, List.append_nil, ← hb] at hk
      exact hk
  · exact h.elim
theorem rmput_loop2 : LoopOk rmputC 2 (loopBody Try.f13 1) := by
  refine loopOk_of (F := rmputLoop2) (ts := [8, 4, 1]) (os := [128]) rfl (fun svs os => match svs, os with | .val _ i :: _, [.box [_, _, _, _, _, .val _ M, _]] => ((M.list.length : Int) - i.int).toNat | _, _ => 0) ?_
  intro pan svs os k ho1 ho2 h
  unfold rmputLoop2 at h
  split at h
  · rename_i i b p o c sz bk x1 T x2 S x3 M Q
    obtain ⟨⟨⟨rfl, rfl⟩, ⟨rfl, rfl, rfl⟩, hb, hM8, h0, hi, hok, hx⟩, hk⟩ := h
    refine .eq (rmput_round2 pan _ _ k i b c sz bk T S M Q) ?_
    refine bd (fun hlt => dt ⟨h0, by omega⟩ ⟨by omega, ?_⟩) (fun hlt => ?_)
    · have hs := hok _ (mem_at (L := M.list) (i := i.int.toNat) (by omega))
      rw [drop_at (by omega), mapsB, mapB] at hk
      unfold bmapOk at hs
      simp only [U.at, e0, e1, e2] at hk hs
      obtain ⟨hnm, hLl, hsp⟩ := hs
      have h1 := textB_len (nth (.i 0) (nth (.i 0) M.list i.int.toNat).list 0).str
      have h3 := num2 (nth (.i 0) (nth (.i 0) M.list i.int.toNat).list 2).list.length
      have h4 := spansB_len (nth (.i 0) (nth (.i 0) M.list i.int.toNat).list 2).list
      have hw : IntKind.wrap .i64 (i.int + 1) = i.int + 1 := i64_in (by omega) (by omega)
      have hc : (i.int + 1).toNat = i.int.toNat + 1 := by omega
      have hlt' : ((M.list.length : Int) - (i.int + 1)).toNat < ((M.list.length : Int) - i.int).toNat := by omega
      have e1 := text_app (b := b.list) hnm
      simp only [nth_tail, Nat.zero_add, Nat.reduceAdd, hw, hc, Int.toNat_zero, List.drop_zero]
      refine bi (fun hb => ?_) (fun hb => ?_)
      · rw [hb] at hk
        simp only [onB, cond_true, ← List.append_assoc] at hk
        have e2 : num (textB b.list (nth (.i 0) (nth (.i 0) M.list i.int.toNat).list 0).str) 1 1 = b.list ++ textB [] (nth (.i 0) (nth (.i 0) M.list i.int.toNat).list 0).str ++ num [] 1 1 := by
          rw [e1]; exact num_app (good1 (by omega) (by omega))
        have e3 : num (num (textB b.list (nth (.i 0) (nth (.i 0) M.list i.int.toNat).list 0).str) 1 1) 2 (nth (.i 0) (nth (.i 0) M.list i.int.toNat).list 2).list.length = b.list ++ textB [] (nth (.i 0) (nth (.i 0) M.list i.int.toNat).list 0).str ++ num [] 1 1 ++ num [] 2 (nth (.i 0) (nth (.i 0) M.list i.int.toNat).list 2).list.length := by
          rw [e2]; exact num_app (good2 (by omega) (by omega))
        have h2 := num1 1
        rw [e3, e2, e1]
        exact ⟨by simp only [List.length_append]; omega, by simp only [List.length_append]; omega, ⟨⟨by trivial, by trivial, by trivial, by trivial⟩, ⟨by trivial, by trivial, by trivial, by trivial⟩, by trivial, hLl, by trivial, by omega, hsp, by simp only [List.length_append]; omega⟩, blt hlt' ⟨⟨⟨by trivial, by trivial⟩, ⟨by trivial, by trivial, by trivial⟩, by trivial, hM8, by omega, by omega, hok, by simp only [List.length_append]; omega⟩, hk⟩⟩
      · rw [hb] at hk
        simp only [onB, cond_false, ← List.append_assoc] at hk
        have e2 : num (textB b.list (nth (.i 0) (nth (.i 0) M.list i.int.toNat).list 0).str) 1 0 = b.list ++ textB [] (nth (.i 0) (nth (.i 0) M.list i.int.toNat).list 0).str ++ num [] 1 0 := by
          rw [e1]; exact num_app (good1 (by omega) (by omega))
        have e3 : num (num (textB b.list (nth (.i 0) (nth (.i 0) M.list i.int.toNat).list 0).str) 1 0) 2 (nth (.i 0) (nth (.i 0) M.list i.int.toNat).list 2).list.length = b.list ++ textB [] (nth (.i 0) (nth (.i 0) M.list i.int.toNat).list 0).str ++ num [] 1 0 ++ num [] 2 (nth (.i 0) (nth (.i 0) M.list i.int.toNat).list 2).list.length := by
          rw [e2]; exact num_app (good2 (by omega) (by omega))
        have h2 := num1 0
        rw [e3, e2, e1]
        exact ⟨by simp only [List.length_append]; omega, by simp only [List.length_append]; omega, ⟨⟨by trivial, by trivial, by trivial, by trivial⟩, ⟨by trivial, by trivial, by trivial, by trivial⟩, by trivial, hLl, by trivial, by omega, hsp, by simp only [List.length_append]; omega⟩, blt hlt' ⟨⟨⟨by trivial, by trivial⟩, ⟨by trivial, by trivial, by trivial⟩, by trivial, hM8, by omega, by omega, hok, by simp only [List.length_append]; omega⟩, hk⟩⟩
    · rw [List.drop_of_length_le (by omega), mapsB, List.append_nil, ← hb] at hk
      exact hk
  · exact h.elim
theorem rmput_loop8 : LoopOk rmputC 8 (loopBody Try.f13 4) := by
  refine loopOk_of (F := rmputLoop8) (ts := [13, 12, 4, 1]) (os := [128]) rfl (fun svs _ => match svs with | .val _ n :: _ => (65535 - n.int).toNat | _ => 0) ?_
  intro pan svs os k ho1 ho2 h
  unfold rmputLoop8 at h
  split at h
  · rename_i n i b p o c sz bk x1 T x2 S x3 M Q
    obtain ⟨⟨⟨rfl, rfl⟩, ⟨rfl, rfl, rfl⟩, hnn, hL, h0, hn1, hn, hi⟩, hk⟩ := h
    refine .eq (rmput_round8 pan _ _ k n i b c sz bk T S M Q) ?_
    have hw : IntKind.wrap .i64 (i.int + n.int) = i.int + n.int := i64_in (by omega) (by omega)
    have hw2 : IntKind.wrap .i64 (n.int + 1) = n.int + 1 := i64_in (by omega) (by omega)
    simp only [hw, hw2]
    refine bd (fun h1 => bd (fun h2 => dt (by omega) (dt (by omega) ?_)) (fun h2 => ?_)) (fun h1 => ?_)
    · rw [drop_at (by omega), lead, decide_eq_true h2, Bool.true_and] at hk
      simp only [U.at] at hk
      have hc : (i.int + (n.int + 1)).toNat = (i.int + n.int).toNat + 1 := by omega
      rw [hc]
      refine bi (fun h3 => ?_) (fun h3 => ?_)
      · rw [h3] at hk
        exact blt (by show (65535 - (n.int + 1)).toNat < (65535 - n.int).toNat; omega) ⟨⟨⟨by trivial, by trivial⟩, ⟨by trivial, by trivial, by trivial⟩, by trivial, hL, h0, by omega, by omega, by omega⟩, hk⟩
      · rw [h3, cond_false, ← hnn] at hk
        exact hk
    · rw [drop_at (by omega), lead, decide_eq_false h2, Bool.false_and, cond_false, ← hnn] at hk
      exact hk
    · rw [List.drop_of_length_le (by omega), lead, ← hnn] at hk
      exact hk
  · exact h.elim
theorem rmput_loop6 : LoopOk rmputC 6 (loopBody Try.f13 3) := by
  refine loopOk_of (F := rmputLoop6) (ts := [12, 4, 1]) (os := [128]) rfl (fun svs os => match svs, os with | .val _ i :: _, [.box [_, _, _, _, _, _, .val _ Q]] => ((Q.list.length : Int) - i.int).toNat | _, _ => 0) ?_
  intro pan svs os k ho1 ho2 h
  unfold rmputLoop6 at h
  split at h
  · rename_i i b p o c sz bk x1 T x2 S x3 M Q
    obtain ⟨⟨⟨rfl, rfl⟩, ⟨rfl, rfl, rfl⟩, hb, hL, h0, hi, hok, hx⟩, hk⟩ := h
    refine .eq (rmput_round6 pan _ _ k i b c sz bk T S M Q) ?_
    refine bd (fun hlt => ?_) (fun hlt => ?_)
    · have hs := hok _ (mem_at (L := Q.list) (i := i.int.toNat) (by omega))
      rw [drop_at (by omega), countsB_cons, List.drop_drop] at hk
      unfold cntOk at hs
      simp only [U.at] at hk hs
      have hd : (i.int + 1).toNat = i.int.toNat + 1 := by omega
      have hge := lead_ge (nth (.i 0) Q.list i.int.toNat).int (Q.list.drop (i.int.toNat + 1)) 1
      simp only [List.length_drop] at hge
      simp only [hd]
      generalize lead (nth (.i 0) Q.list i.int.toNat).int 1 (Q.list.drop (i.int.toNat + 1)) = m at hk hge ⊢
      have hw : IntKind.wrap .i64 (i.int + m) = i.int + m := i64_in (by omega) (by omega)
      have hm : (i.int + m).toNat = i.int.toNat + 1 + (m - 1).toNat := by omega
      have h1 := num2 m
      have h2 := num2 (nth (.i 0) Q.list i.int.toNat).int
      have hlt' : ((Q.list.length : Int) - (i.int + m)).toNat < ((Q.list.length : Int) - i.int).toNat := by omega
      have e1 : num b.list 2 m = b.list ++ num [] 2 m := num_app (good2 (by omega) (by omega))
      have e2 : num (num b.list 2 m) 2 (nth (.i 0) Q.list i.int.toNat).int = b.list ++ num [] 2 m ++ num [] 2 (nth (.i 0) Q.list i.int.toNat).int := by
        rw [e1]; exact num_app (good2 hs.1 hs.2)
      simp only [← List.append_assoc] at hk
      simp only [hw, hm]
      rw [e2, e1]
      exact ⟨⟨⟨by trivial, by trivial⟩, ⟨by trivial, by trivial, by trivial⟩, by trivial, hL, h0, by omega, by omega, by omega⟩, dt (by omega) ⟨by omega, by rw [List.length_append]; omega, blt hlt' ⟨⟨⟨by trivial, by trivial⟩, ⟨by trivial, by trivial, by trivial⟩, by trivial, hL, by omega, by omega, hok, by simp only [List.length_append]; omega⟩, hk⟩⟩⟩
    · rw [List.drop_of_length_le (by omega), countsB, List.append_nil, ← hb] at hk
      exact hk
  · exact h.elim
theorem name_size {s : ByteArray} (h : nameR s = true) : s.size ≤ 16 := by
  unfold nameR at h
  simp only [Bool.and_eq_true, decide_eq_true_eq] at h
  have := h.1.2
  rw [str_len] at this
  exact this
theorem back_size {s : ByteArray} (h : backR s = true) : s.size ≤ 16 := by
  unfold backR at h
  rw [Bool.or_eq_true] at h
  rcases h with h | h
  · have : s.data.toList = [] := by simpa using h
    rw [← str_len, this]; simp
  · exact name_size h
theorem size_low {n c : Int} (h : sizeR n c = true) : 0 ≤ n ∧ n ≤ 4096 := by
  unfold sizeR at h
  simp only [Bool.and_eq_true, decide_eq_true_eq] at h
  exact h.1
theorem rshots_each {c : Int} {S : List U} : ∀ {r : List U} {i : Int}, rshotsR c S i r = true → ∀ s ∈ r, nameR (e0 s).str = true ∧ sizeR (e1 s).int c = true
  | [], _, _, s, hs => by cases hs
  | x :: r, i, h, s, hs => by
    rw [rshotsR] at h
    simp only [Bool.and_eq_true] at h
    rcases List.mem_cons.1 hs with rfl | hs
    · exact ⟨h.1.1.1.1, h.1.1.2⟩
    · exact rshots_each h.2 s hs
theorem rmaps_each {M : List U} : ∀ {r : List U} {i : Int}, rmapsR M i r = true → ∀ s ∈ r, nameR (e0 s).str = true ∧ spansR (-1) (e2 s).list = true ∧ lastR (e2 s).list = true
  | [], _, _, s, hs => by cases hs
  | x :: r, i, h, s, hs => by
    rw [rmapsR] at h
    simp only [Bool.and_eq_true] at h
    rcases List.mem_cons.1 hs with rfl | hs
    · exact ⟨h.1.1.1.1, h.1.1.2, h.1.2⟩
    · exact rmaps_each h.2 s hs
theorem counts_each : ∀ {r : List U}, countsR r = true → ∀ s ∈ r, cntOk s
  | [], _, s, hs => by cases hs
  | x :: r, h, s, hs => by
    rw [countsR] at h
    simp only [Bool.and_eq_true, decide_eq_true_eq] at h
    rcases List.mem_cons.1 hs with rfl | hs
    · exact ⟨h.1.1, h.1.2⟩
    · exact counts_each h.2 s hs
abbrev topE (L : List U) : Int := (e1 (U.at L (L.length - 1))).int
theorem spans_up : ∀ (L : List U) (last : Int), spansR last L = true → (L = [] ∨ last + L.length ≤ topE L) ∧ ∀ s ∈ L, 0 ≤ (e0 s).int ∧ (e0 s).int < (e1 s).int ∧ (e1 s).int ≤ topE L
  | [], _, _ => ⟨.inl rfl, fun s hs => by cases hs⟩
  | x :: r, last, h => by
    rw [spansR] at h
    unfold spanMay at h
    simp only [Bool.and_eq_true, decide_eq_true_eq] at h
    obtain ⟨⟨⟨⟨h1, h2⟩, h3⟩, h4⟩, h5⟩ := h
    obtain ⟨g1, g2⟩ := spans_up r _ h5
    by_cases hr : r = []
    · subst hr
      have ht : topE [x] = (e1 x).int := rfl
      refine ⟨.inr (by rw [ht]; simp; omega), fun s hs => ?_⟩
      have : s = x := by simpa using hs
      subst this
      exact ⟨h1, h2, by rw [ht]; omega⟩
    · have ht : topE (x :: r) = topE r := by
        unfold topE U.at
        cases r with
        | nil => exact absurd rfl hr
        | cons y s => simp
      have g1 := g1.resolve_left hr
      rw [ht]
      refine ⟨.inr (by rw [List.length_cons]; omega), fun s hs => ?_⟩
      rcases List.mem_cons.1 hs with rfl | hs
      · exact ⟨h1, h2, by omega⟩
      · exact g2 s hs
theorem span_ok {L : List U} (h : spansR (-1) L = true) (hl : lastR L = true) : L.length ≤ 65535 ∧ ∀ s ∈ L, spanOk s := by
  obtain ⟨g1, g2⟩ := spans_up L _ h
  by_cases h0 : L = []
  · subst h0; exact ⟨by simp, fun s hs => by cases hs⟩
  · have hp : 0 < L.length := List.length_pos_iff.2 h0
    have ht : topE L ≤ 4096 := by
      unfold lastR at hl
      rw [decide_eq_true hp] at hl
      simpa using hl
    have g1 := g1.resolve_left h0
    refine ⟨by omega, fun s hs => ?_⟩
    have := g2 s hs
    exact ⟨this.1, by omega, by omega, by omega⟩
theorem rmput_ok : SpecFP PR 13 mputP mputS := fun fn us hfn hpre => by
  have hf : PR.funcs[(13 : Nat)]? = some Try.f13 := by kernel_rfl
  rw [hf] at hfn; cases hfn
  refine fn_okH (C := rmputC) (Ctx.Ok.withCalm (mkC_ok eqs0_ok mixed_ok (.cons rmeta_ok (.consP rtput_ok .nil)) (.cons num2T_ok (.cons rtext_ok .nil)))) hf (by kernel_rfl) (loops_five (by kernel_rfl) rmput_loop0 rmput_loop2 rmput_loop4 rmput_loop6 rmput_loop8) fun hok => ?_
  have hp : Try.f13.params.toList = [29] := by kernel_rfl
  rw [hp] at hok
  obtain ⟨c, sz, bk, T, S, M, Q, hus⟩ : ∃ c sz bk T S M Q, us = [[c, sz, bk, T, S, M, Q]] := by
    obtain ⟨u, rfl, h1⟩ := shape1 (by kernel_rfl : Cs PR 29 = some (true, [.int .i64, .int .i64, .str, .sl false [.sl true EC], .sl true SC, .sl true BC, .sl false [.int .i64]])) hok.1
    obtain ⟨c, sz, bk, T, S, M, Q, rfl⟩ := len7 h1
    exact ⟨c, sz, bk, T, S, M, Q, rfl⟩
  subst hus
  refine .eq (rmput_tree _ c sz bk T S M Q) ?_
  unfold mputP sizeOk at hpre
  simp only [nth_zero, nth_succ] at hpre
  obtain ⟨hT, hS, hM⟩ := hpre
  unfold mputS metaX metaE
  simp only [nth_zero, nth_succ]
  rw [← rmetaR_eq hT hS]
  refine bi (fun h => by rw [nt h]; rfl) (fun h => ?_)
  have hr := nf h
  rw [hr]
  have hr2 := hr
  rw [rmetaR] at hr
  simp only [Bool.and_eq_true, decide_eq_true_eq] at hr
  obtain ⟨⟨⟨⟨⟨⟨⟨⟨⟨⟨hc0, hc6⟩, hsz⟩, hbk⟩, hS8⟩, hM8⟩, hQ⟩, _⟩, hSr⟩, hMr⟩, hQr⟩ := hr
  have hbk := back_size hbk
  have hsz := size_low hsz
  have hS2 : ∀ s ∈ S.list, shotOk s := fun s hs => by
    obtain ⟨h1, h2⟩ := rshots_each hSr s hs
    have := name_size h1
    have := size_low h2
    exact ⟨by omega, by omega, by omega, hS s hs⟩
  have hM2 : ∀ s ∈ M.list, bmapOk s := fun s hs => by
    obtain ⟨h1, h2, h3⟩ := rmaps_each hMr s hs
    have := name_size h1
    have := span_ok h2 h3
    exact ⟨by omega, this.1, this.2⟩
  have hQ2 := counts_each hQr
  have l1 := num1 c.int
  have l2 := num2 sz.int
  have l3 := textB_len bk.str
  have l4 := tabX_len c.int hT
  have l5 := num1 S.list.length
  have l6 := shotsB_len c.int S.list hS
  have l7 := num1 M.list.length
  have l8 := mapsB_len M.list hM
  have l9 := num4 Q.list.length
  have g1 : num (num [] 1 c.int) 2 sz.int = num [] 1 c.int ++ num [] 2 sz.int := num_app (good2 (by omega) (by omega))
  have g2 : textB (num (num [] 1 c.int) 2 sz.int) bk.str = num [] 1 c.int ++ num [] 2 sz.int ++ textB [] bk.str := by rw [g1]; exact text_app (by omega)
  simp only [List.drop_zero, Int.toNat_zero]
  have ht : (bif tableR T.list 4096 c.int then tputB T.list c.int else []) = tabX T.list c.int := rfl
  have g3 : num (num [] 1 c.int ++ num [] 2 sz.int ++ textB [] bk.str ++ tabX T.list c.int) 1 S.list.length = num [] 1 c.int ++ num [] 2 sz.int ++ textB [] bk.str ++ tabX T.list c.int ++ num [] 1 S.list.length := num_app (good1 (by omega) (by omega))
  have g4 : num (num [] 1 c.int ++ num [] 2 sz.int ++ textB [] bk.str ++ tabX T.list c.int ++ num [] 1 S.list.length ++ shotsB c.int S.list) 1 M.list.length = num [] 1 c.int ++ num [] 2 sz.int ++ textB [] bk.str ++ tabX T.list c.int ++ num [] 1 S.list.length ++ shotsB c.int S.list ++ num [] 1 M.list.length := num_app (good1 (by omega) (by omega))
  have g5 : num (num [] 1 c.int ++ num [] 2 sz.int ++ textB [] bk.str ++ tabX T.list c.int ++ num [] 1 S.list.length ++ shotsB c.int S.list ++ num [] 1 M.list.length ++ mapsB M.list) 4 Q.list.length = num [] 1 c.int ++ num [] 2 sz.int ++ textB [] bk.str ++ tabX T.list c.int ++ num [] 1 S.list.length ++ shotsB c.int S.list ++ num [] 1 M.list.length ++ mapsB M.list ++ num [] 4 Q.list.length := num_app (good4 (by omega) (by omega))
  rw [ht, g2, g1, g3, g4, g5]
  have hB : num [] 1 c.int ++ num [] 2 sz.int ++ textB [] bk.str ++ tabX T.list c.int ++ num [] 1 S.list.length ++ shotsB c.int S.list ++ num [] 1 M.list.length ++ mapsB M.list ++ num [] 4 Q.list.length ++ countsB Q.list = metaB c.int sz.int bk.str T.list S.list M.list Q.list := rfl
  rw [hB]
  refine ⟨by omega, by omega, by rw [List.length_append]; omega, hT, broom ?_ rfl ⟨?_, ⟨⟨by trivial, by trivial⟩, ⟨by trivial, by trivial, by trivial⟩, by trivial, hS8, by omega, by omega, hS2, ?_⟩, ?_, ⟨⟨by trivial, by trivial⟩, ⟨by trivial, by trivial, by trivial⟩, by trivial, hM8, by omega, by omega, hM2, ?_⟩, ?_, ⟨⟨by trivial, by trivial⟩, ⟨by trivial, by trivial, by trivial⟩, by trivial, hQ, by omega, by omega, hQ2, ?_⟩, ?_⟩⟩
  all_goals try (simp only [List.length_append, room]; omega)
  refine bi (fun h => ?_) (fun h => ?_)
  · rw [show metaL c.int sz.int bk.str T.list S.list M.list Q.list = true from h]; rfl
  · rw [show metaL c.int sz.int bk.str T.list S.list M.list Q.list = false from h]; rfl
end Go.Mat

namespace Go.Mat
open Go Go.Den Go.Proofs
def errS : List (List U) → List (List U) := fun us => [[nth (.i 0) (nth [] us 0) 0]]
def trueS : List (List U) → List (List U) := fun _ => [[.b true]]
theorem err_tree (R : RF) (e : U) : (run K0 Try.f14 [[e]] R) = (R [[e]]) := by kernel_rfl
noncomputable def awakeC : Ctx := mkC PR eqs0 (fnsConsP 12 mputP mputS (fnsCons 14 errS fnsNil)) trsNil noLoops noOut noOut
theorem awake_tree (R : RF) : (run awakeC Try.f11 [] R) = (mputP [[U.i (0 : Int), U.i (0 : Int), U.s (ByteArray.mk #[]), U.l [], U.l [], U.l [], U.l []]] ∧ R [[U.b ((↑(List.length (metaX (U.i (0 : Int)) (U.i (0 : Int)) (U.s (ByteArray.mk #[])) (U.l []) (U.l [])
  (U.l []) (U.l []))) : Int) == (13 : Int))]]) := by kernel_rfl
end Go.Mat

namespace Go.Mat
open Go Go.Den Go.Proofs
theorem err_ok : SpecF PR 14 errS := fun fn us hfn => by
  have hf : PR.funcs[(14 : Nat)]? = some Try.f14 := by kernel_rfl
  rw [hf] at hfn; cases hfn
  refine fn_okH (C := K0) (mkC_ok eqs0_ok mixed_ok .nil .nil) hf (by kernel_rfl) (loops_none (by kernel_rfl)) fun hok => ?_
  have hp : Try.f14.params.toList = [33] := by kernel_rfl
  rw [hp] at hok
  obtain ⟨e, hus⟩ : ∃ e, us = [[e]] := by
    obtain ⟨u, rfl, h1⟩ := shape1 (by kernel_rfl : Cs PR 33 = some (false, [.int .i64])) hok.1
    obtain ⟨e, rfl⟩ := len1 h1
    exact ⟨e, rfl⟩
  subst hus
  refine .eq (err_tree _ e) ?_
  rfl
theorem awake_ok : SpecF PR 11 trueS := fun fn us hfn => by
  have hf : PR.funcs[(11 : Nat)]? = some Try.f11 := by kernel_rfl
  rw [hf] at hfn; cases hfn
  refine fn_okH (C := awakeC) (mkC_ok eqs0_ok mixed_ok (.consP mput_ok (.cons err_ok .nil)) .nil) hf (by kernel_rfl) (loops_none (by kernel_rfl)) fun hok => ?_
  have hp : Try.f11.params.toList = [] := by kernel_rfl
  rw [hp] at hok
  have hus : us = [] := hok.1
  subst hus
  refine .eq (awake_tree _) ?_
  refine ⟨⟨by show 0 ≤ _; omega, (fun s hs => by cases hs), (fun s hs => by cases hs)⟩, ?_⟩
  show [[U.b _]] = [[U.b true]]
  rw [show (metaX (U.i 0) (U.i 0) (U.s ⟨#[]⟩) (U.l []) (U.l []) (U.l []) (U.l [])).length = 13 from by kernel_rfl]
  rfl
end Go.Mat

namespace Go.Mat
open Go Go.Den Go.Proofs
noncomputable def eqs1 (t : TypeId) : Option (List IntKind) := bif Nat.beq t 72 then some [.i64, .i64] else eqs0 t
def intsE : List U → List U → Bool
  | [], [] => true
  | x :: r, y :: s => (x.int == y.int) && intsE r s
  | _, _ => false
def spanE (x y : U) : Bool := (e0 x).int == (e0 y).int && ((e1 x).int == (e1 y).int && true)
def spansE : List U → List U → Bool
  | [], [] => true
  | x :: r, y :: s => spanE x y && spansE r s
  | _, _ => false
def entE (x y : U) : Bool := (e0 x).int == (e0 y).int && ((e1 x).int == (e1 y).int && ((e2 x).int == (e2 y).int && ((e3 x).int == (e3 y).int && ((e4 x).int == (e4 y).int && true))))
def entsE : List U → List U → Bool
  | [], [] => true
  | x :: r, y :: s => entE x y && entsE r s
  | _, _ => false
def tabE : List U → List U → Bool
  | [], [] => true
  | x :: r, y :: s => entsE x.list y.list && tabE r s
  | _, _ => false
def mapE (x y : U) : Bool := ((e0 x).str.toList == (e0 y).str.toList) && ((e1 x).bool == (e1 y).bool) && spansE (e2 x).list (e2 y).list
def mapsE : List U → List U → Bool
  | [], [] => true
  | x :: r, y :: s => mapE x y && mapsE r s
  | _, _ => false
def lists2 (f : List U → List U → Bool) : List (List U) → List (List U) := fun us => [[.b (f (nth (.i 0) (nth [] us 0) 0).list (nth (.i 0) (nth [] us 1) 0).list)]]
noncomputable def intsLoop : LoopF := fun _ svs _ k => match svs with
  | [.val (.int .i64) i, .val (.sl false [.int .i64]) a, .val (.sl false [.int .i64]) b] =>
    (a.list.length = b.list.length ∧ 0 ≤ i.int ∧ i.int ≤ a.list.length) ∧
    (bif intsE (a.list.drop i.int.toNat) (b.list.drop i.int.toNat) then k (.exit 0) ⟨[(4, .unk)], []⟩ else k .ret ⟨[(4, vb (.b false))], []⟩)
  | _ => False
noncomputable def intsC : Ctx := mkC PR eqs1 fnsNil trsNil (loopCons 0 [5, 0, 1] [] intsLoop noLoops) (outCons 0 [4] [] noOut) noOut
theorem ints_round (pan : KP) (μ : Mu) (N : Nat) (k : KE) (i a b : U) : (exec (intsC.panics pan) (loopBody Try.f38 0) 0 ⟨[(5, vi i), (0, vl (.int .i64) a), (1, vl (.int .i64) b)], []⟩ (again PR (some ([4], [])) none pan [5, 0, 1] [] intsLoop μ N k)) = (bif decide (i.int < (a.list.length : Int)) then bif decide ((0 : Int) ≤ i.int ∧ i.int < (a.list.length : Int)) then bif decide ((0 : Int) ≤ i.int ∧ i.int < (b.list.length : Int)) then bif U.int (nth (U.i (0 : Int)) a.list (Int.toNat i.int)) != U.int (nth (U.i (0 : Int)) b.list (Int.toNat i.int)) then k Ex.ret (St.mk [(nat_lit 4, .val .bool (U.b false))] []) else bif Nat.blt (μ [.val (.int IntKind.i64) (U.i (IntKind.wrap .i64 (i.int + (1 : Int)))), .val (.sl false [.int .i64]) a, .val (.sl false [.int .i64]) b] []) N then (a.list.length = b.list.length ∧ (0 : Int) ≤ IntKind.wrap .i64 (i.int + (1 : Int)) ∧ IntKind.wrap .i64 (i.int + (1 : Int)) ≤ (a.list.length : Int)) ∧ bif intsE (List.drop (Int.toNat (IntKind.wrap .i64 (i.int + (1 : Int)))) a.list) (List.drop (Int.toNat (IntKind.wrap .i64 (i.int + (1 : Int)))) b.list) then k (Ex.exit (nat_lit 0)) (St.mk [(nat_lit 4, .unk)] []) else k Ex.ret (St.mk [(nat_lit 4, .val .bool (U.b false))] []) else False else False else False else k (Ex.exit (nat_lit 0)) (St.mk [(nat_lit 4, .unk)] [])) := by kernel_rfl
theorem ints_tree (R : RF) (a b : U) : (run intsC Try.f38 [[a], [b]] R) = (bif (↑(List.length (U.list a)) : Int) != (↑(List.length (U.list b)) : Int) then R [[U.b false]] else (List.length (U.list a) = List.length (U.list b) ∧ (0 : Int) ≤ (0 : Int) ∧ (0 : Int) ≤ (↑(List.length
  (U.list a)) : Int)) ∧ bif intsE (List.drop (Int.toNat (0 : Int)) (U.list a)) (List.drop (Int.toNat (0 : Int)) (U.list b)) then R [[U.b true]] else R [[U.b false]]) := by kernel_rfl
noncomputable def spsLoop : LoopF := fun _ svs _ k => match svs with
  | [.val (.int .i64) i, .val (.sl true ca) a, .val (.sl true cb) b] =>
    (ca = SpC ∧ cb = SpC ∧ a.list.length = b.list.length ∧ 0 ≤ i.int ∧ i.int ≤ a.list.length) ∧
    (bif spansE (a.list.drop i.int.toNat) (b.list.drop i.int.toNat) then k (.exit 0) ⟨[(4, .unk)], []⟩ else k .ret ⟨[(4, vb (.b false))], []⟩)
  | _ => False
noncomputable def spsC : Ctx := mkC PR eqs1 fnsNil trsNil (loopCons 0 [5, 0, 1] [] spsLoop noLoops) (outCons 0 [4] [] noOut) noOut
theorem sps_round (pan : KP) (μ : Mu) (N : Nat) (k : KE) (i a b : U) : (exec (spsC.panics pan) (loopBody Try.f56 0) 0 ⟨[(5, vi i), (0, vt SpC a), (1, vt SpC b)], []⟩ (again PR (some ([4], [])) none pan [5, 0, 1] [] spsLoop μ N k)) = (bif decide (i.int < (a.list.length : Int)) then bif decide ((0 : Int) ≤ i.int ∧ i.int < (a.list.length : Int)) then bif decide ((0 : Int) ≤ i.int ∧ i.int < (b.list.length : Int)) then bif !(U.int (nth (U.i (0 : Int)) (U.list (nth (U.i (0 : Int)) a.list (Int.toNat i.int))) (0 : Nat)) == U.int (nth (U.i (0 : Int)) (U.list (nth (U.i (0 : Int)) b.list (Int.toNat i.int))) (0 : Nat)) && (U.int (nth (U.i (0 : Int)) (List.tail (U.list (nth (U.i (0 : Int)) a.list (Int.toNat i.int)))) (0 : Nat)) == U.int (nth (U.i (0 : Int)) (List.tail (U.list (nth (U.i (0 : Int)) b.list (Int.toNat i.int)))) (0 : Nat)) && true)) then k Ex.ret (St.mk [(nat_lit 4, .val .bool (U.b false))] []) else bif Nat.blt (μ [.val (.int IntKind.i64) (U.i (IntKind.wrap .i64 (i.int + (1 : Int)))), .val (.sl true [Ct.int IntKind.i64, Ct.int IntKind.i64]) a, SV.val (Ct.sl true [Ct.int IntKind.i64, Ct.int IntKind.i64]) b] []) N then ([Ct.int IntKind.i64, Ct.int IntKind.i64] = [.int .i64, .int .i64] ∧ [Ct.int IntKind.i64, Ct.int IntKind.i64] = [.int .i64, .int .i64] ∧ a.list.length = b.list.length ∧ (0 : Int) ≤ IntKind.wrap .i64 (i.int + (1 : Int)) ∧ IntKind.wrap .i64 (i.int + (1 : Int)) ≤ (a.list.length : Int)) ∧ bif spansE (List.drop (Int.toNat (IntKind.wrap .i64 (i.int + (1 : Int)))) a.list) (List.drop (Int.toNat (IntKind.wrap .i64 (i.int + (1 : Int)))) b.list) then k (Ex.exit (nat_lit 0)) (St.mk [(nat_lit 4, .unk)] []) else k Ex.ret (St.mk [(nat_lit 4, .val .bool (U.b false))] []) else False else False else False else k (Ex.exit (nat_lit 0)) (St.mk [(nat_lit 4, .unk)] [])) := by kernel_rfl
theorem sps_tree (R : RF) (a b : U) : (run spsC Try.f56 [[a], [b]] R) = (bif (↑(List.length (U.list a)) : Int) != (↑(List.length (U.list b)) : Int) then R [[U.b false]] else ([Ct.int IntKind.i64, Ct.int IntKind.i64] = [Ct.int IntKind.i64, Ct.int IntKind.i64] ∧ [Ct.int IntKind.i64,
  Ct.int IntKind.i64] = [Ct.int IntKind.i64, Ct.int IntKind.i64] ∧ List.length (U.list a) = List.length (U.list b) ∧ (0 : Int) ≤ (0 : Int) ∧ (0 : Int) ≤ (↑(List.length (U.list a)) : Int)) ∧ bif spansE (List.drop
  (Int.toNat (0 : Int)) (U.list a)) (List.drop (Int.toNat (0 : Int)) (U.list b)) then R [[U.b true]] else R [[U.b false]]) := by kernel_rfl
noncomputable def mpsLoop : LoopF := fun _ svs _ k => match svs with
  | [.val (.int .i64) i, .val (.sl true ca) a, .val (.sl true cb) b] =>
    (ca = BC ∧ cb = BC ∧ a.list.length = b.list.length ∧ 0 ≤ i.int ∧ i.int ≤ a.list.length) ∧
    (bif mapsE (a.list.drop i.int.toNat) (b.list.drop i.int.toNat) then k (.exit 0) ⟨[(4, .unk)], []⟩ else k .ret ⟨[(4, vb (.b false))], []⟩)
  | _ => False
noncomputable def mpsC : Ctx := mkC PR eqs1 (fnsCons 56 (lists2 spansE) fnsNil) trsNil (loopCons 0 [5, 0, 1] [] mpsLoop noLoops) (outCons 0 [4] [] noOut) noOut
theorem mps_round (pan : KP) (μ : Mu) (N : Nat) (k : KE) (i a b : U) : (exec (mpsC.panics pan) (loopBody Try.f37 0) 0 ⟨[(5, vi i), (0, vt BC a), (1, vt BC b)], []⟩ (again PR (some ([4], [])) none pan [5, 0, 1] [] mpsLoop μ N k)) = (bif decide (i.int < (a.list.length : Int)) then bif decide ((0 : Int) ≤ i.int ∧ i.int < (a.list.length : Int)) then bif decide ((0 : Int) ≤ i.int ∧ i.int < (b.list.length : Int)) then bif !ByteArray.toList (U.str (nth (U.i (0 : Int)) (List.drop (0 : Nat) (U.list (nth (U.i (0 : Int)) a.list (Int.toNat i.int)))) (0 : Nat))) == ByteArray.toList (U.str (nth (U.i (0 : Int)) (List.drop (0 : Nat) (U.list (nth (U.i (0 : Int)) b.list (Int.toNat i.int)))) (0 : Nat))) then k Ex.ret (St.mk [(nat_lit 4, .val .bool (U.b false))] []) else bif decide ((0 : Int) ≤ i.int ∧ i.int < (a.list.length : Int)) then bif decide ((0 : Int) ≤ i.int ∧ i.int < (b.list.length : Int)) then bif !U.bool (nth (U.i (0 : Int)) (List.drop (1 : Nat) (U.list (nth (U.i (0 : Int)) a.list (Int.toNat i.int)))) (0 : Nat)) == U.bool (nth (U.i (0 : Int)) (List.drop (1 : Nat) (U.list (nth (U.i (0 : Int)) b.list (Int.toNat i.int)))) (0 : Nat)) then k Ex.ret (St.mk [(nat_lit 4, .val .bool (U.b false))] []) else bif decide ((0 : Int) ≤ i.int ∧ i.int < (a.list.length : Int)) then bif decide ((0 : Int) ≤ i.int ∧ i.int < (b.list.length : Int)) then bif !spansE (U.list (nth (U.i (0 : Int)) (List.drop (2 : Nat) (U.list (nth (U.i (0 : Int)) a.list (Int.toNat i.int)))) (0 : Nat))) (U.list (nth (U.i (0 : Int)) (List.drop (2 : Nat) (U.list (nth (U.i (0 : Int)) b.list (Int.toNat i.int)))) (0 : Nat))) then k Ex.ret (St.mk [(nat_lit 4, .val .bool (U.b false))] []) else bif Nat.blt (μ [.val (.int IntKind.i64) (U.i (IntKind.wrap .i64 (i.int + (1 : Int)))), .val (.sl true [Ct.str, Ct.bool, Ct.sl true [Ct.int IntKind.i64, Ct.int IntKind.i64]]) a, SV.val (Ct.sl true [Ct.str, Ct.bool, Ct.sl true [Ct.int IntKind.i64, Ct.int IntKind.i64]]) b] []) N then ([Ct.str, Ct.bool, Ct.sl true [Ct.int IntKind.i64, Ct.int IntKind.i64]] = [.str, Ct.bool, Ct.sl true [.int .i64, .int .i64]] ∧ [Ct.str, Ct.bool, Ct.sl true [Ct.int IntKind.i64, Ct.int IntKind.i64]] = [.str, Ct.bool, Ct.sl true [.int .i64, .int .i64]] ∧ a.list.length = b.list.length ∧ (0 : Int) ≤ IntKind.wrap .i64 (i.int + (1 : Int)) ∧ IntKind.wrap .i64 (i.int + (1 : Int)) ≤ (a.list.length : Int)) ∧ bif mapsE (List.drop (Int.toNat (IntKind.wrap .i64 (i.int + (1 : Int)))) a.list) (List.drop (Int.toNat (IntKind.wrap .i64 (i.int + (1 : Int)))) b.list) then k (Ex.exit (nat_lit 0)) (St.mk [(nat_lit 4, .unk)] []) else k Ex.ret (St.mk [(nat_lit 4, .val .bool (U.b false))] []) else False else False else False else False else False else False else False else k (Ex.exit (nat_lit 0)) (St.mk [(nat_lit 4, .unk)] [])) := by kernel_rfl
theorem mps_tree (R : RF) (a b : U) : (run mpsC Try.f37 [[a], [b]] R) = (bif (↑(List.length (U.list a)) : Int) != (↑(List.length (U.list b)) : Int) then R [[U.b false]] else ([Ct.str, Ct.bool, Ct.sl true [Ct.int IntKind.i64, Ct.int IntKind.i64]] = [Ct.str, Ct.bool, Ct.sl true
  [Ct.int IntKind.i64, Ct.int IntKind.i64]] ∧ [Ct.str, Ct.bool, Ct.sl true [Ct.int IntKind.i64, Ct.int IntKind.i64]] = [Ct.str, Ct.bool, Ct.sl true [Ct.int IntKind.i64, Ct.int IntKind.i64]] ∧ List.length
  (U.list a) = List.length (U.list b) ∧ (0 : Int) ≤ (0 : Int) ∧ (0 : Int) ≤ (↑(List.length (U.list a)) : Int)) ∧ bif mapsE (List.drop (Int.toNat (0 : Int)) (U.list a)) (List.drop (Int.toNat (0 : Int)) (U.list
  b)) then R [[U.b true]] else R [[U.b false]]) := by kernel_rfl
noncomputable def tabELoop2 : LoopF := fun _ svs os k => match svs, os with
  | [.val (.int .i64) j, .val (.int .i64) i, .ptr p o, .ptr p' o'], [.box [.val (.sl false [.sl true ca]) a], .box [.val (.sl false [.sl true cb]) b]] =>
    (p = 256 ∧ o = 0 ∧ p' = 384 ∧ o' = 0 ∧ ca = EC ∧ cb = EC ∧ 0 ≤ i.int ∧ i.int < a.list.length ∧ i.int < b.list.length ∧ (U.at a.list i.int.toNat).list.length = (U.at b.list i.int.toNat).list.length ∧ 0 ≤ j.int ∧ j.int ≤ (U.at a.list i.int.toNat).list.length) ∧
    (bif entsE ((U.at a.list i.int.toNat).list.drop j.int.toNat) ((U.at b.list i.int.toNat).list.drop j.int.toNat) then k (.exit 2) ⟨[(5, vi i), (2, .ptr 256 0), (3, .ptr 384 0)], [(256, .box [vl (.sl true EC) a]), (384, .box [vl (.sl true EC) b])]⟩ else k .ret ⟨[(4, vb (.b false))], []⟩)
  | _, _ => False
noncomputable def tabELoop0 : LoopF := fun _ svs os k => match svs, os with
  | [.val (.int .i64) i, .ptr p o, .ptr p' o'], [.box [.val (.sl false [.sl true ca]) a], .box [.val (.sl false [.sl true cb]) b]] =>
    (p = 256 ∧ o = 0 ∧ p' = 384 ∧ o' = 0 ∧ ca = EC ∧ cb = EC ∧ a.list.length = b.list.length ∧ 0 ≤ i.int ∧ i.int ≤ a.list.length) ∧
    (bif tabE (a.list.drop i.int.toNat) (b.list.drop i.int.toNat) then k (.exit 0) ⟨[(4, .unk)], []⟩ else k .ret ⟨[(4, vb (.b false))], []⟩)
  | _, _ => False
noncomputable def tabEC : Ctx := mkC PR eqs1 fnsNil trsNil (loopCons 2 [6, 5, 2, 3] [256, 384] tabELoop2 (loopCons 0 [5, 2, 3] [256, 384] tabELoop0 noLoops)) (outCons 2 [5, 2, 3] [256, 384] (outCons 0 [4] [] (outCons 1048578 [4] [] noOut))) noOut
theorem tabE_round2 (pan : KP) (μ : Mu) (N : Nat) (k : KE) (j i a b : U) : (exec (tabEC.panics pan) (loopBody Try.f36 1) 2 ⟨[(6, vi j), (5, vi i), (2, .ptr 256 0), (3, .ptr 384 0)], [(256, .box [vl (.sl true EC) a]), (384, .box [vl (.sl true EC) b])]⟩ (again PR (some ([5, 2, 3], [256, 384])) (some ([4], [])) pan [6, 5, 2, 3] [256, 384] tabELoop2 μ N k)) = (bif decide ((0 : Int) ≤ i.int ∧ i.int < (a.list.length : Int)) then bif decide (j.int < (↑(List.length (U.list (nth (U.i (0 : Int)) a.list (Int.toNat i.int)))) : Int)) then bif decide ((0 : Int) ≤ i.int ∧ i.int < (a.list.length : Int)) then bif decide ((0 : Int) ≤ j.int ∧ j.int < (↑(List.length (U.list (nth (U.i (0 : Int)) a.list (Int.toNat i.int)))) : Int)) then bif decide ((0 : Int) ≤ i.int ∧ i.int < (b.list.length : Int)) then bif decide ((0 : Int) ≤ j.int ∧ j.int < (↑(List.length (U.list (nth (U.i (0 : Int)) b.list (Int.toNat i.int)))) : Int)) then bif !(U.int (nth (U.i (0 : Int)) (U.list (nth (U.i (0 : Int)) (U.list (nth (U.i (0 : Int)) a.list (Int.toNat i.int))) (Int.toNat j.int))) (0 : Nat)) == U.int (nth (U.i (0 : Int)) (U.list (nth (U.i (0 : Int)) (U.list (nth (U.i (0 : Int)) b.list (Int.toNat i.int))) (Int.toNat j.int))) (0 : Nat)) && (U.int (nth (U.i (0 : Int)) (List.tail (U.list (nth (U.i (0 : Int)) (U.list (nth (U.i (0 : Int)) a.list (Int.toNat i.int))) (Int.toNat j.int)))) (0 : Nat)) == U.int (nth (U.i (0 : Int)) (List.tail (U.list (nth (U.i (0 : Int)) (U.list (nth (U.i (0 : Int)) b.list (Int.toNat i.int))) (Int.toNat j.int)))) (0 : Nat)) && (U.int (nth (U.i (0 : Int)) (List.tail (List.tail (U.list (nth (U.i (0 : Int)) (U.list (nth (U.i (0 : Int)) a.list (Int.toNat i.int))) (Int.toNat j.int))))) (0 : Nat)) == U.int (nth (U.i (0 : Int)) (List.tail (List.tail (U.list (nth (U.i (0 : Int)) (U.list (nth (U.i (0 : Int)) b.list (Int.toNat i.int))) (Int.toNat j.int))))) (0 : Nat)) && (U.int (nth (U.i (0 : Int)) (List.tail (List.tail (List.tail (U.list (nth (U.i (0 : Int)) (U.list (nth (U.i (0 : Int)) a.list (Int.toNat i.int))) (Int.toNat j.int)))))) (0 : Nat)) == U.int (nth (U.i (0 : Int)) (List.tail (List.tail (List.tail (U.list (nth (U.i (0 : Int)) (U.list (nth (U.i (0 : Int)) b.list (Int.toNat i.int))) (Int.toNat j.int)))))) (0 : Nat)) && (U.int (nth (U.i (0 : Int)) (List.tail (List.tail (List.tail (List.tail (U.list (nth (U.i (0 : Int)) (U.list (nth (U.i (0 : Int)) a.list (Int.toNat i.int))) (Int.toNat j.int))))))) (0 : Nat)) == U.int (nth (U.i (0 : Int)) (List.tail (List.tail (List.tail (List.tail (U.list (nth (U.i (0 : Int)) (U.list (nth (U.i (0 : Int)) b.list (Int.toNat i.int))) (Int.toNat j.int))))))) (0 : Nat)) && true))))) then k Ex.ret (St.mk [(nat_lit 4, .val .bool (U.b false))] []) else bif Nat.blt (μ [.val (.int IntKind.i64) (U.i (IntKind.wrap .i64 (j.int + (1 : Int)))), .val (.int IntKind.i64) i, .ptr (nat_lit 256) (nat_lit 0), .ptr (nat_lit 384) (nat_lit 0)] [.box [.val (.sl false [.sl true [.int .i64, .int .i64, .int .i64, .int .i64, .int .u32]]) a], .box [.val (.sl false [.sl true [.int .i64, .int .i64, .int .i64, .int .i64, .int .u32]]) b]]) N then (nat_lit 256 = nat_lit 256 ∧ nat_lit 0 = nat_lit 0 ∧ nat_lit 384 = nat_lit 384 ∧ nat_lit 0 = nat_lit 0 ∧ [Ct.int IntKind.i64, Ct.int IntKind.i64, Ct.int IntKind.i64, Ct.int IntKind.i64, Ct.int IntKind.u32] = [.int .i64, .int .i64, .int .i64, .int .i64, .int .u32] ∧ [Ct.int IntKind.i64, Ct.int IntKind.i64, Ct.int IntKind.i64, Ct.int IntKind.i64, Ct.int IntKind.u32] = [.int .i64, .int .i64, .int .i64, .int .i64, .int .u32] ∧ (0 : Int) ≤ i.int ∧ i.int < (a.list.length : Int) ∧ i.int < (b.list.length : Int) ∧ List.length (U.list (nth (U.i (0 : Int)) a.list (Int.toNat i.int))) = List.length (U.list (nth (U.i (0 : Int)) b.list (Int.toNat i.int))) ∧ (0 : Int) ≤ IntKind.wrap .i64 (j.int + (1 : Int)) ∧ IntKind.wrap .i64 (j.int + (1 : Int)) ≤ (↑(List.length (U.list (nth (U.i (0 : Int)) a.list (Int.toNat i.int)))) : Int)) ∧ bif entsE (List.drop (Int.toNat (IntKind.wrap .i64 (j.int + (1 : Int)))) (U.list (nth (U.i (0 : Int)) a.list (Int.toNat i.int)))) (List.drop (Int.toNat (IntKind.wrap .i64 (j.int + (1 : Int)))) (U.list (nth (U.i (0 : Int)) b.list (Int.toNat i.int)))) then k (Ex.exit (nat_lit 2)) (St.mk [(nat_lit 5, .val (.int IntKind.i64) i), (nat_lit 2, .ptr (nat_lit 256) (nat_lit 0)), (nat_lit 3, .ptr (nat_lit 384) (nat_lit 0))] [(nat_lit 256, .box [.val (.sl false [.sl true [.int .i64, .int .i64, .int .i64, .int .i64, .int .u32]]) a]), (nat_lit 384, .box [.val (.sl false [.sl true [.int .i64, .int .i64, .int .i64, .int .i64, .int .u32]]) b])]) else k Ex.ret (St.mk [(nat_lit 4, .val .bool (U.b false))] []) else False else False else False else False else False else k (Ex.exit (nat_lit 2)) (St.mk [(nat_lit 5, .val (.int IntKind.i64) i), (nat_lit 2, .ptr (nat_lit 256) (nat_lit 0)), (nat_lit 3, .ptr (nat_lit 384) (nat_lit 0))] [(nat_lit 256, .box [.val (.sl false [.sl true [.int .i64, .int .i64, .int .i64, .int .i64, .int .u32]]) a]), (nat_lit 384, .box [.val (.sl false [.sl true [.int .i64, .int .i64, .int .i64, .int .i64, .int .u32]]) b])]) else False) := by kernel_rfl
theorem tabE_round0 (pan : KP) (μ : Mu) (N : Nat) (k : KE) (i a b : U) : (exec (tabEC.panics pan) (loopBody Try.f36 0) 0 ⟨[(5, vi i), (2, .ptr 256 0), (3, .ptr 384 0)], [(256, .box [vl (.sl true EC) a]), (384, .box [vl (.sl true EC) b])]⟩ (again PR (some ([4], [])) none pan [5, 2, 3] [256, 384] tabELoop0 μ N k)) = (bif decide (i.int < (a.list.length : Int)) then bif decide ((0 : Int) ≤ i.int ∧ i.int < (a.list.length : Int)) then bif decide ((0 : Int) ≤ i.int ∧ i.int < (b.list.length : Int)) then bif (↑(List.length (U.list (nth (U.i (0 : Int)) a.list (Int.toNat i.int)))) : Int) != (↑(List.length (U.list (nth (U.i (0 : Int)) b.list (Int.toNat i.int)))) : Int) then k Ex.ret (St.mk [(nat_lit 4, .val .bool (U.b false))] []) else (nat_lit 256 = nat_lit 256 ∧ nat_lit 0 = nat_lit 0 ∧ nat_lit 384 = nat_lit 384 ∧ nat_lit 0 = nat_lit 0 ∧ [Ct.int IntKind.i64, Ct.int IntKind.i64, Ct.int IntKind.i64, Ct.int IntKind.i64, Ct.int IntKind.u32] = [.int .i64, .int .i64, .int .i64, .int .i64, .int .u32] ∧ [Ct.int IntKind.i64, Ct.int IntKind.i64, Ct.int IntKind.i64, Ct.int IntKind.i64, Ct.int IntKind.u32] = [.int .i64, .int .i64, .int .i64, .int .i64, .int .u32] ∧ (0 : Int) ≤ i.int ∧ i.int < (a.list.length : Int) ∧ i.int < (b.list.length : Int) ∧ List.length (U.list (nth (U.i (0 : Int)) a.list (Int.toNat i.int))) = List.length (U.list (nth (U.i (0 : Int)) b.list (Int.toNat i.int))) ∧ (0 : Int) ≤ (0 : Int) ∧ (0 : Int) ≤ (↑(List.length (U.list (nth (U.i (0 : Int)) a.list (Int.toNat i.int)))) : Int)) ∧ bif entsE (List.drop (Int.toNat (0 : Int)) (U.list (nth (U.i (0 : Int)) a.list (Int.toNat i.int)))) (List.drop (Int.toNat (0 : Int)) (U.list (nth (U.i (0 : Int)) b.list (Int.toNat i.int)))) then bif Nat.blt (μ [.val (.int IntKind.i64) (U.i (IntKind.wrap .i64 (i.int + (1 : Int)))), .ptr (nat_lit 256) (nat_lit 0), .ptr (nat_lit 384) (nat_lit 0)] [.box [.val (.sl false [.sl true [.int .i64, .int .i64, .int .i64, .int .i64, .int .u32]]) a], .box [.val (.sl false [.sl true [.int .i64, .int .i64, .int .i64, .int .i64, .int .u32]]) b]]) N then (nat_lit 256 = nat_lit 256 ∧ nat_lit 0 = nat_lit 0 ∧ nat_lit 384 = nat_lit 384 ∧ nat_lit 0 = nat_lit 0 ∧ [Ct.int IntKind.i64, Ct.int IntKind.i64, Ct.int IntKind.i64, Ct.int IntKind.i64, Ct.int IntKind.u32] = [.int .i64, .int .i64, .int .i64, .int .i64, .int .u32] ∧ [Ct.int IntKind.i64, Ct.int IntKind.i64, Ct.int IntKind.i64, Ct.int IntKind.i64, Ct.int IntKind.u32] = [.int .i64, .int .i64, .int .i64, .int .i64, .int .u32] ∧ a.list.length = b.list.length ∧ (0 : Int) ≤ IntKind.wrap .i64 (i.int + (1 : Int)) ∧ IntKind.wrap .i64 (i.int + (1 : Int)) ≤ (a.list.length : Int)) ∧ bif tabE (List.drop (Int.toNat (IntKind.wrap .i64 (i.int + (1 : Int)))) a.list) (List.drop (Int.toNat (IntKind.wrap .i64 (i.int + (1 : Int)))) b.list) then k (Ex.exit (nat_lit 0)) (St.mk [(nat_lit 4, .unk)] []) else k Ex.ret (St.mk [(nat_lit 4, .val .bool (U.b false))] []) else False else k Ex.ret (St.mk [(nat_lit 4, .val .bool (U.b false))] []) else False else False else k (Ex.exit (nat_lit 0)) (St.mk [(nat_lit 4, .unk)] [])) := by kernel_rfl
theorem tabE_tree (R : RF) (a b : U) : (run tabEC Try.f36 [[a], [b]] R) = (bif (↑(List.length (U.list a)) : Int) != (↑(List.length (U.list b)) : Int) then R [[U.b false]] else (nat_lit 256 = nat_lit 256 ∧ nat_lit 0 = nat_lit 0 ∧ nat_lit 384 = nat_lit 384 ∧ nat_lit 0 = nat_lit
  0 ∧ [Ct.int IntKind.i64, Ct.int IntKind.i64, Ct.int IntKind.i64, Ct.int IntKind.i64, Ct.int IntKind.u32] = [Ct.int IntKind.i64, Ct.int IntKind.i64, Ct.int IntKind.i64, Ct.int IntKind.i64, Ct.int IntKind.u32]
  ∧ [Ct.int IntKind.i64, Ct.int IntKind.i64, Ct.int IntKind.i64, Ct.int IntKind.i64, Ct.int IntKind.u32] = [Ct.int IntKind.i64, Ct.int IntKind.i64, Ct.int IntKind.i64, Ct.int IntKind.i64, Ct.int IntKind.u32]
  ∧ List.length (U.list a) = List.length (U.list b) ∧ (0 : Int) ≤ (0 : Int) ∧ (0 : Int) ≤ (↑(List.length (U.list a)) : Int)) ∧ bif tabE (List.drop (Int.toNat (0 : Int)) (U.list a)) (List.drop (Int.toNat
  (0 : Int)) (U.list b)) then R [[U.b true]] else R [[U.b false]]) := by kernel_rfl
end Go.Mat

namespace Go.Mat
open Go Go.Den Go.Proofs
theorem eqs1_ok : ∀ t ks, eqs1 t = some ks → EqOk PR t ks := by
  intro t ks h
  unfold eqs1 at h
  cases hb : Nat.beq t 72 with
  | true =>
    rw [hb] at h
    have := Nat.eq_of_beq_eq_true hb
    subst this
    injection h with h
    subst h
    exact eq_ok (by kernel_rfl)
  | false => rw [hb] at h; exact eqs0_ok t ks h
theorem intsE_len : ∀ {a b : List U}, intsE a b = true → a.length = b.length
  | [], [], _ => rfl
  | [], _ :: _, h => by cases h
  | _ :: _, [], h => by cases h
  | x :: r, y :: s, h => by
    rw [intsE, Bool.and_eq_true] at h
    rw [List.length_cons, List.length_cons, intsE_len h.2]
theorem intsE_ne {a b : List U} (h : a.length ≠ b.length) : intsE a b = false := Bool.eq_false_iff.2 fun h' => h (intsE_len h')
theorem spansE_len : ∀ {a b : List U}, spansE a b = true → a.length = b.length
  | [], [], _ => rfl
  | [], _ :: _, h => by cases h
  | _ :: _, [], h => by cases h
  | x :: r, y :: s, h => by
    rw [spansE, Bool.and_eq_true] at h
    rw [List.length_cons, List.length_cons, spansE_len h.2]
theorem spansE_ne {a b : List U} (h : a.length ≠ b.length) : spansE a b = false := Bool.eq_false_iff.2 fun h' => h (spansE_len h')
theorem mapsE_len : ∀ {a b : List U}, mapsE a b = true → a.length = b.length
  | [], [], _ => rfl
  | [], _ :: _, h => by cases h
  | _ :: _, [], h => by cases h
  | x :: r, y :: s, h => by
    rw [mapsE, Bool.and_eq_true] at h
    rw [List.length_cons, List.length_cons, mapsE_len h.2]
theorem mapsE_ne {a b : List U} (h : a.length ≠ b.length) : mapsE a b = false := Bool.eq_false_iff.2 fun h' => h (mapsE_len h')
theorem tabE_len : ∀ {a b : List U}, tabE a b = true → a.length = b.length
  | [], [], _ => rfl
  | [], _ :: _, h => by cases h
  | _ :: _, [], h => by cases h
  | x :: r, y :: s, h => by
    rw [tabE, Bool.and_eq_true] at h
    rw [List.length_cons, List.length_cons, tabE_len h.2]
theorem tabE_ne {a b : List U} (h : a.length ≠ b.length) : tabE a b = false := Bool.eq_false_iff.2 fun h' => h (tabE_len h')
theorem entsE_len : ∀ {a b : List U}, entsE a b = true → a.length = b.length
  | [], [], _ => rfl
  | [], _ :: _, h => by cases h
  | _ :: _, [], h => by cases h
  | x :: r, y :: s, h => by
    rw [entsE, Bool.and_eq_true] at h
    rw [List.length_cons, List.length_cons, entsE_len h.2]
theorem entsE_ne {a b : List U} (h : a.length ≠ b.length) : entsE a b = false := Bool.eq_false_iff.2 fun h' => h (entsE_len h')
theorem ints_loop : LoopOk intsC 0 (loopBody Try.f38 0) := by
  refine loopOk_of (F := intsLoop) (ts := [5, 0, 1]) (os := []) rfl (fun svs _ => match svs with | .val _ i :: .val _ a :: _ => ((a.list.length : Int) - i.int).toNat | _ => 0) ?_
  intro pan svs os k ho1 ho2 h
  unfold intsLoop at h
  split at h
  · rename_i i a b
    obtain ⟨⟨hl, h0, hi⟩, hk⟩ := h
    have hL : a.list.length ≤ maxLen := ho1.2.1.1
    unfold maxLen at hL
    refine .eq (ints_round pan _ _ k i a b) ?_
    refine bd (fun hlt => dt ⟨h0, by omega⟩ (dt ⟨h0, by omega⟩ ?_)) (fun hlt => ?_)
    · rw [drop_at (by omega), drop_at (L := b.list) (by omega), intsE] at hk
      simp only [U.at] at hk
      have hw : IntKind.wrap .i64 (i.int + 1) = i.int + 1 := i64_in (by omega) (by omega)
      have hc : (i.int + 1).toNat = i.int.toNat + 1 := by omega
      have hlt' : ((a.list.length : Int) - (i.int + 1)).toNat < ((a.list.length : Int) - i.int).toNat := by omega
      simp only [nth_tail, nth_drop, Nat.zero_add, Nat.add_zero, Nat.reduceAdd, hw, hc]
      refine bi (fun h1 => ?_) (fun h1 => ?_)
      · rw [nt h1, Bool.false_and] at hk; exact hk
      · rw [nf h1, Bool.true_and] at hk
        exact blt hlt' ⟨⟨hl, by omega, by omega⟩, hk⟩
    · rw [List.drop_of_length_le (by omega), List.drop_of_length_le (by omega), intsE] at hk
      exact hk
  · exact h.elim
theorem sps_loop : LoopOk spsC 0 (loopBody Try.f56 0) := by
  refine loopOk_of (F := spsLoop) (ts := [5, 0, 1]) (os := []) rfl (fun svs _ => match svs with | .val _ i :: .val _ a :: _ => ((a.list.length : Int) - i.int).toNat | _ => 0) ?_
  intro pan svs os k ho1 ho2 h
  unfold spsLoop at h
  split at h
  · rename_i i ca a cb b
    obtain ⟨⟨rfl, rfl, hl, h0, hi⟩, hk⟩ := h
    have hL : a.list.length ≤ maxLen := ho1.2.1.1
    unfold maxLen at hL
    refine .eq (sps_round pan _ _ k i a b) ?_
    refine bd (fun hlt => dt ⟨h0, by omega⟩ (dt ⟨h0, by omega⟩ ?_)) (fun hlt => ?_)
    · rw [drop_at (by omega), drop_at (L := b.list) (by omega), spansE] at hk
      simp only [U.at, spanE, e0, e1] at hk
      have hw : IntKind.wrap .i64 (i.int + 1) = i.int + 1 := i64_in (by omega) (by omega)
      have hc : (i.int + 1).toNat = i.int.toNat + 1 := by omega
      have hlt' : ((a.list.length : Int) - (i.int + 1)).toNat < ((a.list.length : Int) - i.int).toNat := by omega
      simp only [nth_tail, nth_drop, Nat.zero_add, Nat.add_zero, Nat.reduceAdd, hw, hc]
      refine bi (fun h1 => ?_) (fun h1 => ?_)
      · rw [nt h1, Bool.false_and] at hk; exact hk
      · rw [nf h1, Bool.true_and] at hk
        exact blt hlt' ⟨⟨by trivial, by trivial, hl, by omega, by omega⟩, hk⟩
    · rw [List.drop_of_length_le (by omega), List.drop_of_length_le (by omega), spansE] at hk
      exact hk
  · exact h.elim
theorem mps_loop : LoopOk mpsC 0 (loopBody Try.f37 0) := by
  refine loopOk_of (F := mpsLoop) (ts := [5, 0, 1]) (os := []) rfl (fun svs _ => match svs with | .val _ i :: .val _ a :: _ => ((a.list.length : Int) - i.int).toNat | _ => 0) ?_
  intro pan svs os k ho1 ho2 h
  unfold mpsLoop at h
  split at h
  · rename_i i ca a cb b
    obtain ⟨⟨rfl, rfl, hl, h0, hi⟩, hk⟩ := h
    have hL : a.list.length ≤ maxLen := ho1.2.1.1
    unfold maxLen at hL
    refine .eq (mps_round pan _ _ k i a b) ?_
    refine bd (fun hlt => dt ⟨h0, by omega⟩ (dt ⟨h0, by omega⟩ ?_)) (fun hlt => ?_)
    · rw [drop_at (by omega), drop_at (L := b.list) (by omega), mapsE] at hk
      simp only [U.at, mapE, e0, e1, e2] at hk
      have hw : IntKind.wrap .i64 (i.int + 1) = i.int + 1 := i64_in (by omega) (by omega)
      have hc : (i.int + 1).toNat = i.int.toNat + 1 := by omega
      have hlt' : ((a.list.length : Int) - (i.int + 1)).toNat < ((a.list.length : Int) - i.int).toNat := by omega
      simp only [nth_tail, nth_drop, Nat.zero_add, Nat.add_zero, Nat.reduceAdd, hw, hc]
      refine bi (fun h1 => ?_) (fun h1 => dt ⟨h0, by omega⟩ (dt ⟨h0, by omega⟩ (bi (fun h2 => ?_) (fun h2 => dt ⟨h0, by omega⟩ (dt ⟨h0, by omega⟩ (bi (fun h3 => ?_) (fun h3 => ?_)))))))
      · rw [nt h1, Bool.false_and, Bool.false_and, Bool.false_and] at hk; exact hk
      · rw [nf h1, nt h2, Bool.true_and, Bool.false_and, Bool.false_and] at hk; exact hk
      · rw [nf h1, nf h2, nt h3, Bool.true_and, Bool.true_and, Bool.false_and] at hk; exact hk
      · rw [nf h1, nf h2, nf h3, Bool.true_and, Bool.true_and, Bool.true_and] at hk
        exact blt hlt' ⟨⟨by trivial, by trivial, hl, by omega, by omega⟩, hk⟩
    · rw [List.drop_of_length_le (by omega), List.drop_of_length_le (by omega), mapsE] at hk
      exact hk
  · exact h.elim
theorem ints_ok : SpecF PR 38 (lists2 intsE) := fun fn us hfn => by
  have hf : PR.funcs[(38 : Nat)]? = some Try.f38 := by kernel_rfl
  rw [hf] at hfn; cases hfn
  refine fn_okH (C := intsC) (mkC_ok eqs1_ok mixed_ok .nil .nil) hf (by kernel_rfl) (loops_one (by kernel_rfl) ints_loop) fun hok => ?_
  have hp : Try.f38.params.toList = [27, 27] := by kernel_rfl
  rw [hp] at hok
  obtain ⟨a, b, hus⟩ : ∃ a b, us = [[a], [b]] := by
    obtain ⟨u, u2, rfl, h1, h2⟩ := shape2 (by kernel_rfl : Cs PR 27 = some (false, [.sl false [.int .i64]])) (by kernel_rfl : Cs PR 27 = some (false, [.sl false [.int .i64]])) hok.1
    obtain ⟨a, rfl⟩ := len1 h1
    obtain ⟨b, rfl⟩ := len1 h2
    exact ⟨a, b, rfl⟩
  subst hus
  refine .eq (ints_tree _ a b) ?_
  unfold lists2
  simp only [nth_zero, nth_succ, Int.toNat_zero, List.drop_zero]
  refine bi (fun h => ?_) (fun h => ⟨⟨?_, by omega, by omega⟩, bi (fun h1 => by rw [h1]) (fun h1 => by rw [h1])⟩)
  · have h := nt h
    rw [intsE_ne (by intro h2; rw [h2] at h; simp at h)]
  · have h := nf h
    simp only [beq_iff_eq] at h
    omega
theorem sps_ok : SpecF PR 56 (lists2 spansE) := fun fn us hfn => by
  have hf : PR.funcs[(56 : Nat)]? = some Try.f56 := by kernel_rfl
  rw [hf] at hfn; cases hfn
  refine fn_okH (C := spsC) (mkC_ok eqs1_ok mixed_ok .nil .nil) hf (by kernel_rfl) (loops_one (by kernel_rfl) sps_loop) fun hok => ?_
  have hp : Try.f56.params.toList = [42, 42] := by kernel_rfl
  rw [hp] at hok
  obtain ⟨a, b, hus⟩ : ∃ a b, us = [[a], [b]] := by
    obtain ⟨u, u2, rfl, h1, h2⟩ := shape2 (by kernel_rfl : Cs PR 42 = some (false, [.sl true [.int .i64, .int .i64]])) (by kernel_rfl : Cs PR 42 = some (false, [.sl true [.int .i64, .int .i64]])) hok.1
    obtain ⟨a, rfl⟩ := len1 h1
    obtain ⟨b, rfl⟩ := len1 h2
    exact ⟨a, b, rfl⟩
  subst hus
  refine .eq (sps_tree _ a b) ?_
  unfold lists2
  simp only [nth_zero, nth_succ, Int.toNat_zero, List.drop_zero]
  refine bi (fun h => ?_) (fun h => ⟨⟨by trivial, by trivial, ?_, by omega, by omega⟩, bi (fun h1 => by rw [h1]) (fun h1 => by rw [h1])⟩)
  · have h := nt h
    rw [spansE_ne (by intro h2; rw [h2] at h; simp at h)]
  · have h := nf h
    simp only [beq_iff_eq] at h
    omega
theorem mps_ok : SpecF PR 37 (lists2 mapsE) := fun fn us hfn => by
  have hf : PR.funcs[(37 : Nat)]? = some Try.f37 := by kernel_rfl
  rw [hf] at hfn; cases hfn
  refine fn_okH (C := mpsC) (mkC_ok eqs1_ok mixed_ok (.cons sps_ok .nil) .nil) hf (by kernel_rfl) (loops_one (by kernel_rfl) mps_loop) fun hok => ?_
  have hp : Try.f37.params.toList = [26, 26] := by kernel_rfl
  rw [hp] at hok
  obtain ⟨a, b, hus⟩ : ∃ a b, us = [[a], [b]] := by
    obtain ⟨u, u2, rfl, h1, h2⟩ := shape2 (by kernel_rfl : Cs PR 26 = some (false, [.sl true BC])) (by kernel_rfl : Cs PR 26 = some (false, [.sl true BC])) hok.1
    obtain ⟨a, rfl⟩ := len1 h1
    obtain ⟨b, rfl⟩ := len1 h2
    exact ⟨a, b, rfl⟩
  subst hus
  refine .eq (mps_tree _ a b) ?_
  unfold lists2
  simp only [nth_zero, nth_succ, Int.toNat_zero, List.drop_zero]
  refine bi (fun h => ?_) (fun h => ⟨⟨by trivial, by trivial, ?_, by omega, by omega⟩, bi (fun h1 => by rw [h1]) (fun h1 => by rw [h1])⟩)
  · have h := nt h
    rw [mapsE_ne (by intro h2; rw [h2] at h; simp at h)]
  · have h := nf h
    simp only [beq_iff_eq] at h
    omega
theorem tabE_loop2 : LoopOk tabEC 2 (loopBody Try.f36 1) := by
  refine loopOk_of (F := tabELoop2) (ts := [6, 5, 2, 3]) (os := [256, 384]) rfl (fun svs os => match svs, os with | .val _ j :: .val _ i :: _, .box [.val _ a] :: _ => (((U.at a.list i.int.toNat).list.length : Int) - j.int).toNat | _, _ => 0) ?_
  intro pan svs os k ho1 ho2 h
  unfold tabELoop2 at h
  split at h
  · rename_i j i p o p' o' ca a cb b
    obtain ⟨⟨rfl, rfl, rfl, rfl, rfl, rfl, hi0, hia, hib, hl, h0, hj⟩, hk⟩ := h
    have ha : okC (.sl false [.sl true EC]) a := ho2.1.1
    have hL : (U.at a.list i.int.toNat).list.length ≤ maxLen := by
      have h1 := (ha.2 i.int.toNat (by omega)).1
      exact h1.1
    unfold maxLen at hL
    refine .eq (tabE_round2 pan _ _ k j i a b) ?_
    simp only [U.at] at hl hj hL hk
    refine dt ⟨hi0, hia⟩ (bd (fun hlt => dt ⟨hi0, hia⟩ (dt ⟨h0, hlt⟩ (dt ⟨hi0, hib⟩ (dt ⟨h0, by omega⟩ ?_)))) (fun hlt => ?_))
    · rw [drop_at (by omega), drop_at (L := (nth (U.i 0) b.list i.int.toNat).list) (by omega), entsE] at hk
      simp only [U.at, entE, e0, e1, e2, e3, e4] at hk
      have hw : IntKind.wrap .i64 (j.int + 1) = j.int + 1 := i64_in (by omega) (by omega)
      have hc : (j.int + 1).toNat = j.int.toNat + 1 := by omega
      have hlt' : (((nth (U.i 0) a.list i.int.toNat).list.length : Int) - (j.int + 1)).toNat < (((nth (U.i 0) a.list i.int.toNat).list.length : Int) - j.int).toNat := by omega
      simp only [nth_tail, nth_drop, Nat.zero_add, Nat.add_zero, Nat.reduceAdd, hw, hc]
      refine bi (fun h1 => ?_) (fun h1 => ?_)
      · rw [nt h1, Bool.false_and] at hk; exact hk
      · rw [nf h1, Bool.true_and] at hk
        exact blt hlt' ⟨⟨by trivial, by trivial, by trivial, by trivial, by trivial, by trivial, hi0, hia, hib, hl, by omega, by omega⟩, hk⟩
    · rw [List.drop_of_length_le (by omega), List.drop_of_length_le (by omega), entsE] at hk
      exact hk
  · exact h.elim
theorem tabE_loop0 : LoopOk tabEC 0 (loopBody Try.f36 0) := by
  refine loopOk_of (F := tabELoop0) (ts := [5, 2, 3]) (os := [256, 384]) rfl (fun svs os => match svs, os with | .val _ i :: _, .box [.val _ a] :: _ => ((a.list.length : Int) - i.int).toNat | _, _ => 0) ?_
  intro pan svs os k ho1 ho2 h
  unfold tabELoop0 at h
  split at h
  · rename_i i p o p' o' ca a cb b
    obtain ⟨⟨rfl, rfl, rfl, rfl, rfl, rfl, hl, h0, hi⟩, hk⟩ := h
    have hL : a.list.length ≤ maxLen := ho2.1.1.1
    unfold maxLen at hL
    refine .eq (tabE_round0 pan _ _ k i a b) ?_
    refine bd (fun hlt => dt ⟨h0, by omega⟩ (dt ⟨h0, by omega⟩ ?_)) (fun hlt => ?_)
    · rw [drop_at (by omega), drop_at (L := b.list) (by omega), tabE] at hk
      simp only [U.at] at hk
      have hw : IntKind.wrap .i64 (i.int + 1) = i.int + 1 := i64_in (by omega) (by omega)
      have hc : (i.int + 1).toNat = i.int.toNat + 1 := by omega
      have hlt' : ((a.list.length : Int) - (i.int + 1)).toNat < ((a.list.length : Int) - i.int).toNat := by omega
      simp only [hw, hc, Int.toNat_zero, List.drop_zero]
      refine bi (fun h1 => ?_) (fun h1 => ?_)
      · have h1 := nt h1
        rw [entsE_ne (by intro h2; rw [h2] at h1; simp at h1), Bool.false_and] at hk
        exact hk
      · have h1 := nf h1
        simp only [beq_iff_eq] at h1
        refine ⟨⟨by trivial, by trivial, by trivial, by trivial, by trivial, by trivial, h0, by omega, by omega, by omega, by omega, by omega⟩, bi (fun h2 => ?_) (fun h2 => ?_)⟩
        · rw [h2, Bool.true_and] at hk
          exact blt hlt' ⟨⟨by trivial, by trivial, by trivial, by trivial, by trivial, by trivial, hl, by omega, by omega⟩, hk⟩
        · rw [h2, Bool.false_and] at hk
          exact hk
    · rw [List.drop_of_length_le (by omega), List.drop_of_length_le (by omega), tabE] at hk
      exact hk
  · exact h.elim
theorem tabE_ok : SpecF PR 36 (lists2 tabE) := fun fn us hfn => by
  have hf : PR.funcs[(36 : Nat)]? = some Try.f36 := by kernel_rfl
  rw [hf] at hfn; cases hfn
  refine fn_okH (C := tabEC) (mkC_ok eqs1_ok mixed_ok .nil .nil) hf (by kernel_rfl) (loops_two (by kernel_rfl) tabE_loop0 tabE_loop2) fun hok => ?_
  have hp : Try.f36.params.toList = [24, 24] := by kernel_rfl
  rw [hp] at hok
  obtain ⟨a, b, hus⟩ : ∃ a b, us = [[a], [b]] := by
    obtain ⟨u, u2, rfl, h1, h2⟩ := shape2 (by kernel_rfl : Cs PR 24 = some (true, [.sl false [.sl true [.int .i64, .int .i64, .int .i64, .int .i64, .int .u32]]])) (by kernel_rfl : Cs PR 24 = some (true, [.sl false [.sl true [.int .i64, .int .i64, .int .i64, .int .i64, .int .u32]]])) hok.1
    obtain ⟨a, rfl⟩ := len1 h1
    obtain ⟨b, rfl⟩ := len1 h2
    exact ⟨a, b, rfl⟩
  subst hus
  refine .eq (tabE_tree _ a b) ?_
  unfold lists2
  simp only [nth_zero, nth_succ, Int.toNat_zero, List.drop_zero]
  refine bi (fun h => ?_) (fun h => ⟨⟨by trivial, by trivial, by trivial, by trivial, by trivial, by trivial, ?_, by omega, by omega⟩, bi (fun h1 => by rw [h1]) (fun h1 => by rw [h1])⟩)
  · have h := nt h
    rw [tabE_ne (by intro h2; rw [h2] at h; simp at h)]
  · have h := nf h
    simp only [beq_iff_eq] at h
    omega
end Go.Mat

namespace Go.Mat
open Go Go.Den Go.Proofs
def shotE (x y : U) : Bool := ((e0 x).str.toList == (e0 y).str.toList) && ((e1 x).int == (e1 y).int) && tabE (e2 x).list (e2 y).list
def shotsE : List U → List U → Bool
  | [], [] => true
  | x :: r, y :: s => shotE x y && shotsE r s
  | _, _ => false
def metaEq (c sz bk T S M Q c' sz' bk' T' S' M' Q' : U) : Bool := (c.int == c'.int) && (sz.int == sz'.int) && (bk.str.toList == bk'.str.toList) && tabE T.list T'.list && mapsE M.list M'.list && intsE Q.list Q'.list && shotsE S.list S'.list
def sameS : List (List U) → List (List U) := fun us => [[.b (metaEq (nth (.i 0) (nth [] us 0) 0) (nth (.i 0) (nth [] us 0) 1) (nth (.i 0) (nth [] us 0) 2) (nth (.i 0) (nth [] us 0) 3) (nth (.i 0) (nth [] us 0) 4) (nth (.i 0) (nth [] us 0) 5) (nth (.i 0) (nth [] us 0) 6)
  (nth (.i 0) (nth [] us 1) 0) (nth (.i 0) (nth [] us 1) 1) (nth (.i 0) (nth [] us 1) 2) (nth (.i 0) (nth [] us 1) 3) (nth (.i 0) (nth [] us 1) 4) (nth (.i 0) (nth [] us 1) 5) (nth (.i 0) (nth [] us 1) 6))]]
noncomputable def sameLoop : LoopF := fun _ svs os k => match svs with
  | [.val (.int .i64) i, .ptr p o, .ptr p' o'] => match os with
    | [.box [.val (.int .i64) _, .val (.int .i64) _, .val .str _, .val (.sl false [.sl true x1]) _, .val (.sl true x2) S, .val (.sl true x3) _, .val (.sl false [.int .i64]) _], .box [.val (.int .i64) _, .val (.int .i64) _, .val .str _, .val (.sl false [.sl true y1]) _, .val (.sl true y2) S', .val (.sl true y3) _, .val (.sl false [.int .i64]) _]] =>
      ((p = 256 ∧ o = 0 ∧ p' = 384 ∧ o' = 0) ∧ (x1 = EC ∧ x2 = SC ∧ x3 = BC) ∧ (y1 = EC ∧ y2 = SC ∧ y3 = BC) ∧ S.list.length = S'.list.length ∧ 0 ≤ i.int ∧ i.int ≤ S.list.length) ∧
      (bif shotsE (S.list.drop i.int.toNat) (S'.list.drop i.int.toNat) then k (.exit 0) ⟨[(4, .unk)], []⟩ else k .ret ⟨[(4, vb (.b false))], []⟩)
    | _ => False
  | _ => False
noncomputable def sameC : Ctx := mkC PR eqs1 (fnsCons 36 (lists2 tabE) (fnsCons 37 (lists2 mapsE) (fnsCons 38 (lists2 intsE) fnsNil))) trsNil (loopCons 0 [5, 2, 3] [256, 384] sameLoop noLoops) (outCons 0 [4] [] noOut) noOut
theorem same_round (pan : KP) (μ : Mu) (N : Nat) (k : KE) (i c sz bk T S M Q c' sz' bk' T' S' M' Q' : U) : (exec (sameC.panics pan) (loopBody Try.f17 0) 0 ⟨[(5, vi i), (2, .ptr 256 0), (3, .ptr 384 0)], [(256, .box (mCells c sz bk T S M Q)), (384, .box (mCells c' sz' bk' T' S' M' Q'))]⟩ (again PR (some ([4], [])) none pan [5, 2, 3] [256, 384] sameLoop μ N k)) = (bif decide (i.int < (S.list.length : Int)) then Alt (bif decide ((0 : Int) ≤ i.int ∧ i.int < (S.list.length : Int)) then Alt (bif decide ((0 : Int) ≤ i.int ∧ i.int < (S'.list.length : Int)) then (fun T => Alt T T) (bif !ByteArray.toList (U.str (nth (U.i (0 : Int)) (U.list (nth (U.i (0 : Int)) S.list (Int.toNat i.int))) (0 : Nat))) == ByteArray.toList (U.str (nth (U.i (0 : Int)) (U.list (nth (U.i (0 : Int)) S'.list (Int.toNat i.int))) (0 : Nat))) then k Ex.ret (St.mk [(nat_lit 4, .val .bool (U.b false))] []) else bif U.int (nth (U.i (0 : Int)) (List.tail (U.list (nth (U.i (0 : Int)) S.list (Int.toNat i.int)))) (0 : Nat)) != U.int (nth (U.i (0 : Int)) (List.tail (U.list (nth (U.i (0 : Int)) S'.list (Int.toNat i.int)))) (0 : Nat)) then k Ex.ret (St.mk [(nat_lit 4, .val .bool (U.b false))] []) else bif !tabE (U.list (nth (U.i (0 : Int)) (List.tail (List.tail (U.list (nth (U.i (0 : Int)) S.list (Int.toNat i.int))))) (0 : Nat))) (U.list (nth (U.i (0 : Int)) (List.tail (List.tail (U.list (nth (U.i (0 : Int)) S'.list (Int.toNat i.int))))) (0 : Nat))) then k Ex.ret (St.mk [(nat_lit 4, .val .bool (U.b false))] []) else bif Nat.blt (μ [.val (.int IntKind.i64) (U.i (IntKind.wrap .i64 (i.int + (1 : Int)))), .ptr (nat_lit 256) (nat_lit 0), .ptr (nat_lit 384) (nat_lit 0)] [.box [.val (.int IntKind.i64) c, .val (.int IntKind.i64) sz, .val .str bk, .val (.sl false [.sl true [.int .i64, .int .i64, .int .i64, .int .i64, .int .u32]]) T, .val (.sl true [.str, .int .i64, Ct.sl false [.sl true [.int .i64, .int .i64, .int .i64, .int .i64, .int .u32]]]) S, .val (.sl true [.str, Ct.bool, Ct.sl true [.int .i64, .int .i64]]) M, .val (.sl false [.int .i64]) Q], .box [.val (.int IntKind.i64) c', .val (.int IntKind.i64) sz', .val .str bk', .val (.sl false [.sl true [.int .i64, .int .i64, .int .i64, .int .i64, .int .u32]]) T', .val (.sl true [.str, .int .i64, Ct.sl false [.sl true [.int .i64, .int .i64, .int .i64, .int .i64, .int .u32]]]) S', .val (.sl true [.str, Ct.bool, Ct.sl true [.int .i64, .int .i64]]) M', .val (.sl false [.int .i64]) Q']]) N then ((nat_lit 256 = nat_lit 256 ∧ nat_lit 0 = nat_lit 0 ∧ nat_lit 384 = nat_lit 384 ∧ nat_lit 0 = nat_lit 0) ∧ ([Ct.int IntKind.i64, Ct.int IntKind.i64, Ct.int IntKind.i64, Ct.int IntKind.i64, Ct.int IntKind.u32] = [.int .i64, .int .i64, .int .i64, .int .i64, .int .u32] ∧ [Ct.str, Ct.int IntKind.i64, Ct.sl false [Ct.sl true [Ct.int IntKind.i64, Ct.int IntKind.i64, Ct.int IntKind.i64, Ct.int IntKind.i64, Ct.int IntKind.u32]]] = [.str, .int .i64, Ct.sl false [.sl true [.int .i64, .int .i64, .int .i64, .int .i64, .int .u32]]] ∧ [Ct.str, Ct.bool, Ct.sl true [Ct.int IntKind.i64, Ct.int IntKind.i64]] = [.str, Ct.bool, Ct.sl true [.int .i64, .int .i64]]) ∧ ([Ct.int IntKind.i64, Ct.int IntKind.i64, Ct.int IntKind.i64, Ct.int IntKind.i64, Ct.int IntKind.u32] = [.int .i64, .int .i64, .int .i64, .int .i64, .int .u32] ∧ [Ct.str, Ct.int IntKind.i64, Ct.sl false [Ct.sl true [Ct.int IntKind.i64, Ct.int IntKind.i64, Ct.int IntKind.i64, Ct.int IntKind.i64, Ct.int IntKind.u32]]] = [.str, .int .i64, Ct.sl false [.sl true [.int .i64, .int .i64, .int .i64, .int .i64, .int .u32]]] ∧ [Ct.str, Ct.bool, Ct.sl true [Ct.int IntKind.i64, Ct.int IntKind.i64]] = [.str, Ct.bool, Ct.sl true [.int .i64, .int .i64]]) ∧ S.list.length = S'.list.length ∧ (0 : Int) ≤ IntKind.wrap .i64 (i.int + (1 : Int)) ∧ IntKind.wrap .i64 (i.int + (1 : Int)) ≤ (S.list.length : Int)) ∧ bif shotsE (List.drop (Int.toNat (IntKind.wrap .i64 (i.int + (1 : Int)))) S.list) (List.drop (Int.toNat (IntKind.wrap .i64 (i.int + (1 : Int)))) S'.list) then k (Ex.exit (nat_lit 0)) (St.mk [(nat_lit 4, .unk)] []) else k Ex.ret (St.mk [(nat_lit 4, .val .bool (U.b false))] []) else False) else False) ((fun T => Alt (Alt T (Alt T T)) (Alt T (Alt T T))) (bif decide ((0 : Int) ≤ i.int ∧ i.int < (S'.list.length : Int)) then bif !ByteArray.toList (U.str (nth (U.i (0 : Int)) (U.list (nth (U.i (0 : Int)) S.list (Int.toNat i.int))) (0 : Nat))) == ByteArray.toList (U.str (nth (U.i (0 : Int)) (U.list (nth (U.i (0 : Int)) S'.list (Int.toNat i.int))) (0 : Nat))) then k Ex.ret (St.mk [(nat_lit 4, .val .bool (U.b false))] []) else bif U.int (nth (U.i (0 : Int)) (List.tail (U.list (nth (U.i (0 : Int)) S.list (Int.toNat i.int)))) (0 : Nat)) != U.int (nth (U.i (0 : Int)) (List.tail (U.list (nth (U.i (0 : Int)) S'.list (Int.toNat i.int)))) (0 : Nat)) then k Ex.ret (St.mk [(nat_lit 4, .val .bool (U.b false))] []) else bif !tabE (U.list (nth (U.i (0 : Int)) (List.tail (List.tail (U.list (nth (U.i (0 : Int)) S.list (Int.toNat i.int))))) (0 : Nat))) (U.list (nth (U.i (0 : Int)) (List.tail (List.tail (U.list (nth (U.i (0 : Int)) S'.list (Int.toNat i.int))))) (0 : Nat))) then k Ex.ret (St.mk [(nat_lit 4, .val .bool (U.b false))] []) else bif Nat.blt (μ [.val (.int IntKind.i64) (U.i (IntKind.wrap .i64 (i.int + (1 : Int)))), .ptr (nat_lit 256) (nat_lit 0), .ptr (nat_lit 384) (nat_lit 0)] [.box [.val (.int IntKind.i64) c, .val (.int IntKind.i64) sz, .val .str bk, .val (.sl false [.sl true [.int .i64, .int .i64, .int .i64, .int .i64, .int .u32]]) T, .val (.sl true [.str, .int .i64, Ct.sl false [.sl true [.int .i64, .int .i64, .int .i64, .int .i64, .int .u32]]]) S, .val (.sl true [.str, Ct.bool, Ct.sl true [.int .i64, .int .i64]]) M, .val (.sl false [.int .i64]) Q], .box [.val (.int IntKind.i64) c', .val (.int IntKind.i64) sz', .val .str bk', .val (.sl false [.sl true [.int .i64, .int .i64, .int .i64, .int .i64, .int .u32]]) T', .val (.sl true [.str, .int .i64, Ct.sl false [.sl true [.int .i64, .int .i64, .int .i64, .int .i64, .int .u32]]]) S', .val (.sl true [.str, Ct.bool, Ct.sl true [.int .i64, .int .i64]]) M', .val (.sl false [.int .i64]) Q']]) N then ((nat_lit 256 = nat_lit 256 ∧ nat_lit 0 = nat_lit 0 ∧ nat_lit 384 = nat_lit 384 ∧ nat_lit 0 = nat_lit 0) ∧ ([Ct.int IntKind.i64, Ct.int IntKind.i64, Ct.int IntKind.i64, Ct.int IntKind.i64, Ct.int IntKind.u32] = [.int .i64, .int .i64, .int .i64, .int .i64, .int .u32] ∧ [Ct.str, Ct.int IntKind.i64, Ct.sl false [Ct.sl true [Ct.int IntKind.i64, Ct.int IntKind.i64, Ct.int IntKind.i64, Ct.int IntKind.i64, Ct.int IntKind.u32]]] = [.str, .int .i64, Ct.sl false [.sl true [.int .i64, .int .i64, .int .i64, .int .i64, .int .u32]]] ∧ [Ct.str, Ct.bool, Ct.sl true [Ct.int IntKind.i64, Ct.int IntKind.i64]] = [.str, Ct.bool, Ct.sl true [.int .i64, .int .i64]]) ∧ ([Ct.int IntKind.i64, Ct.int IntKind.i64, Ct.int IntKind.i64, Ct.int IntKind.i64, Ct.int IntKind.u32] = [.int .i64, .int .i64, .int .i64, .int .i64, .int .u32] ∧ [Ct.str, Ct.int IntKind.i64, Ct.sl false [Ct.sl true [Ct.int IntKind.i64, Ct.int IntKind.i64, Ct.int IntKind.i64, Ct.int IntKind.i64, Ct.int IntKind.u32]]] = [.str, .int .i64, Ct.sl false [.sl true [.int .i64, .int .i64, .int .i64, .int .i64, .int .u32]]] ∧ [Ct.str, Ct.bool, Ct.sl true [Ct.int IntKind.i64, Ct.int IntKind.i64]] = [.str, Ct.bool, Ct.sl true [.int .i64, .int .i64]]) ∧ S.list.length = S'.list.length ∧ (0 : Int) ≤ IntKind.wrap .i64 (i.int + (1 : Int)) ∧ IntKind.wrap .i64 (i.int + (1 : Int)) ≤ (S.list.length : Int)) ∧ bif shotsE (List.drop (Int.toNat (IntKind.wrap .i64 (i.int + (1 : Int)))) S.list) (List.drop (Int.toNat (IntKind.wrap .i64 (i.int + (1 : Int)))) S'.list) then k (Ex.exit (nat_lit 0)) (St.mk [(nat_lit 4, .unk)] []) else k Ex.ret (St.mk [(nat_lit 4, .val .bool (U.b false))] []) else False else False)) else False) (Alt (bif decide ((0 : Int) ≤ i.int ∧ i.int < (S'.list.length : Int)) then Alt (bif decide ((0 : Int) ≤ i.int ∧ i.int < (S.list.length : Int)) then (fun T => Alt T T) (bif !ByteArray.toList (U.str (nth (U.i (0 : Int)) (U.list (nth (U.i (0 : Int)) S.list (Int.toNat i.int))) (0 : Nat))) == ByteArray.toList (U.str (nth (U.i (0 : Int)) (U.list (nth (U.i (0 : Int)) S'.list (Int.toNat i.int))) (0 : Nat))) then k Ex.ret (St.mk [(nat_lit 4, .val .bool (U.b false))] []) else bif U.int (nth (U.i (0 : Int)) (List.tail (U.list (nth (U.i (0 : Int)) S.list (Int.toNat i.int)))) (0 : Nat)) != U.int (nth (U.i (0 : Int)) (List.tail (U.list (nth (U.i (0 : Int)) S'.list (Int.toNat i.int)))) (0 : Nat)) then k Ex.ret (St.mk [(nat_lit 4, .val .bool (U.b false))] []) else bif !tabE (U.list (nth (U.i (0 : Int)) (List.tail (List.tail (U.list (nth (U.i (0 : Int)) S.list (Int.toNat i.int))))) (0 : Nat))) (U.list (nth (U.i (0 : Int)) (List.tail (List.tail (U.list (nth (U.i (0 : Int)) S'.list (Int.toNat i.int))))) (0 : Nat))) then k Ex.ret (St.mk [(nat_lit 4, .val .bool (U.b false))] []) else bif Nat.blt (μ [.val (.int IntKind.i64) (U.i (IntKind.wrap .i64 (i.int + (1 : Int)))), .ptr (nat_lit 256) (nat_lit 0), .ptr (nat_lit 384) (nat_lit 0)] [.box [.val (.int IntKind.i64) c, .val (.int IntKind.i64) sz, .val .str bk, .val (.sl false [.sl true [.int .i64, .int .i64, .int .i64, .int .i64, .int .u32]]) T, .val (.sl true [.str, .int .i64, Ct.sl false [.sl true [.int .i64, .int .i64, .int .i64, .int .i64, .int .u32]]]) S, .val (.sl true [.str, Ct.bool, Ct.sl true [.int .i64, .int .i64]]) M, .val (.sl false [.int .i64]) Q], .box [.val (.int IntKind.i64) c', .val (.int IntKind.i64) sz', .val .str bk', .val (.sl false [.sl true [.int .i64, .int .i64, .int .i64, .int .i64, .int .u32]]) T', .val (.sl true [.str, .int .i64, Ct.sl false [.sl true [.int .i64, .int .i64, .int .i64, .int .i64, .int .u32]]]) S', .val (.sl true [.str, Ct.bool, Ct.sl true [.int .i64, .int .i64]]) M', .val (.sl false [.int .i64]) Q']]) N then ((nat_lit 256 = nat_lit 256 ∧ nat_lit 0 = nat_lit 0 ∧ nat_lit 384 = nat_lit 384 ∧ nat_lit 0 = nat_lit 0) ∧ ([Ct.int IntKind.i64, Ct.int IntKind.i64, Ct.int IntKind.i64, Ct.int IntKind.i64, Ct.int IntKind.u32] = [.int .i64, .int .i64, .int .i64, .int .i64, .int .u32] ∧ [Ct.str, Ct.int IntKind.i64, Ct.sl false [Ct.sl true [Ct.int IntKind.i64, Ct.int IntKind.i64, Ct.int IntKind.i64, Ct.int IntKind.i64, Ct.int IntKind.u32]]] = [.str, .int .i64, Ct.sl false [.sl true [.int .i64, .int .i64, .int .i64, .int .i64, .int .u32]]] ∧ [Ct.str, Ct.bool, Ct.sl true [Ct.int IntKind.i64, Ct.int IntKind.i64]] = [.str, Ct.bool, Ct.sl true [.int .i64, .int .i64]]) ∧ ([Ct.int IntKind.i64, Ct.int IntKind.i64, Ct.int IntKind.i64, Ct.int IntKind.i64, Ct.int IntKind.u32] = [.int .i64, .int .i64, .int .i64, .int .i64, .int .u32] ∧ [Ct.str, Ct.int IntKind.i64, Ct.sl false [Ct.sl true [Ct.int IntKind.i64, Ct.int IntKind.i64, Ct.int IntKind.i64, Ct.int IntKind.i64, Ct.int IntKind.u32]]] = [.str, .int .i64, Ct.sl false [.sl true [.int .i64, .int .i64, .int .i64, .int .i64, .int .u32]]] ∧ [Ct.str, Ct.bool, Ct.sl true [Ct.int IntKind.i64, Ct.int IntKind.i64]] = [.str, Ct.bool, Ct.sl true [.int .i64, .int .i64]]) ∧ S.list.length = S'.list.length ∧ (0 : Int) ≤ IntKind.wrap .i64 (i.int + (1 : Int)) ∧ IntKind.wrap .i64 (i.int + (1 : Int)) ≤ (S.list.length : Int)) ∧ bif shotsE (List.drop (Int.toNat (IntKind.wrap .i64 (i.int + (1 : Int)))) S.list) (List.drop (Int.toNat (IntKind.wrap .i64 (i.int + (1 : Int)))) S'.list) then k (Ex.exit (nat_lit 0)) (St.mk [(nat_lit 4, .unk)] []) else k Ex.ret (St.mk [(nat_lit 4, .val .bool (U.b false))] []) else False) else False) ((fun T => Alt (Alt T T) (Alt T T)) (bif decide ((0 : Int) ≤ i.int ∧ i.int < (S.list.length : Int)) then bif !ByteArray.toList (U.str (nth (U.i (0 : Int)) (U.list (nth (U.i (0 : Int)) S.list (Int.toNat i.int))) (0 : Nat))) == ByteArray.toList (U.str (nth (U.i (0 : Int)) (U.list (nth (U.i (0 : Int)) S'.list (Int.toNat i.int))) (0 : Nat))) then k Ex.ret (St.mk [(nat_lit 4, .val .bool (U.b false))] []) else bif U.int (nth (U.i (0 : Int)) (List.tail (U.list (nth (U.i (0 : Int)) S.list (Int.toNat i.int)))) (0 : Nat)) != U.int (nth (U.i (0 : Int)) (List.tail (U.list (nth (U.i (0 : Int)) S'.list (Int.toNat i.int)))) (0 : Nat)) then k Ex.ret (St.mk [(nat_lit 4, .val .bool (U.b false))] []) else bif !tabE (U.list (nth (U.i (0 : Int)) (List.tail (List.tail (U.list (nth (U.i (0 : Int)) S.list (Int.toNat i.int))))) (0 : Nat))) (U.list (nth (U.i (0 : Int)) (List.tail (List.tail (U.list (nth (U.i (0 : Int)) S'.list (Int.toNat i.int))))) (0 : Nat))) then k Ex.ret (St.mk [(nat_lit 4, .val .bool (U.b false))] []) else bif Nat.blt (μ [.val (.int IntKind.i64) (U.i (IntKind.wrap .i64 (i.int + (1 : Int)))), .ptr (nat_lit 256) (nat_lit 0), .ptr (nat_lit 384) (nat_lit 0)] [.box [.val (.int IntKind.i64) c, .val (.int IntKind.i64) sz, .val .str bk, .val (.sl false [.sl true [.int .i64, .int .i64, .int .i64, .int .i64, .int .u32]]) T, .val (.sl true [.str, .int .i64, Ct.sl false [.sl true [.int .i64, .int .i64, .int .i64, .int .i64, .int .u32]]]) S, .val (.sl true [.str, Ct.bool, Ct.sl true [.int .i64, .int .i64]]) M, .val (.sl false [.int .i64]) Q], .box [.val (.int IntKind.i64) c', .val (.int IntKind.i64) sz', .val .str bk', .val (.sl false [.sl true [.int .i64, .int .i64, .int .i64, .int .i64, .int .u32]]) T', .val (.sl true [.str, .int .i64, Ct.sl false [.sl true [.int .i64, .int .i64, .int .i64, .int .i64, .int .u32]]]) S', .val (.sl true [.str, Ct.bool, Ct.sl true [.int .i64, .int .i64]]) M', .val (.sl false [.int .i64]) Q']]) N then ((nat_lit 256 = nat_lit 256 ∧ nat_lit 0 = nat_lit 0 ∧ nat_lit 384 = nat_lit 384 ∧ nat_lit 0 = nat_lit 0) ∧ ([Ct.int IntKind.i64, Ct.int IntKind.i64, Ct.int IntKind.i64, Ct.int IntKind.i64, Ct.int IntKind.u32] = [.int .i64, .int .i64, .int .i64, .int .i64, .int .u32] ∧ [Ct.str, Ct.int IntKind.i64, Ct.sl false [Ct.sl true [Ct.int IntKind.i64, Ct.int IntKind.i64, Ct.int IntKind.i64, Ct.int IntKind.i64, Ct.int IntKind.u32]]] = [.str, .int .i64, Ct.sl false [.sl true [.int .i64, .int .i64, .int .i64, .int .i64, .int .u32]]] ∧ [Ct.str, Ct.bool, Ct.sl true [Ct.int IntKind.i64, Ct.int IntKind.i64]] = [.str, Ct.bool, Ct.sl true [.int .i64, .int .i64]]) ∧ ([Ct.int IntKind.i64, Ct.int IntKind.i64, Ct.int IntKind.i64, Ct.int IntKind.i64, Ct.int IntKind.u32] = [.int .i64, .int .i64, .int .i64, .int .i64, .int .u32] ∧ [Ct.str, Ct.int IntKind.i64, Ct.sl false [Ct.sl true [Ct.int IntKind.i64, Ct.int IntKind.i64, Ct.int IntKind.i64, Ct.int IntKind.i64, Ct.int IntKind.u32]]] = [.str, .int .i64, Ct.sl false [.sl true [.int .i64, .int .i64, .int .i64, .int .i64, .int .u32]]] ∧ [Ct.str, Ct.bool, Ct.sl true [Ct.int IntKind.i64, Ct.int IntKind.i64]] = [.str, Ct.bool, Ct.sl true [.int .i64, .int .i64]]) ∧ S.list.length = S'.list.length ∧ (0 : Int) ≤ IntKind.wrap .i64 (i.int + (1 : Int)) ∧ IntKind.wrap .i64 (i.int + (1 : Int)) ≤ (S.list.length : Int)) ∧ bif shotsE (List.drop (Int.toNat (IntKind.wrap .i64 (i.int + (1 : Int)))) S.list) (List.drop (Int.toNat (IntKind.wrap .i64 (i.int + (1 : Int)))) S'.list) then k (Ex.exit (nat_lit 0)) (St.mk [(nat_lit 4, .unk)] []) else k Ex.ret (St.mk [(nat_lit 4, .val .bool (U.b false))] []) else False else False)) else False) (Alt (Alt (bif decide ((0 : Int) ≤ i.int ∧ i.int < (S.list.length : Int)) then (fun T => Alt T (Alt T T)) (bif decide ((0 : Int) ≤ i.int ∧ i.int < (S'.list.length : Int)) then bif !ByteArray.toList (U.str (nth (U.i (0 : Int)) (U.list (nth (U.i (0 : Int)) S.list (Int.toNat i.int))) (0 : Nat))) == ByteArray.toList (U.str (nth (U.i (0 : Int)) (U.list (nth (U.i (0 : Int)) S'.list (Int.toNat i.int))) (0 : Nat))) then k Ex.ret (St.mk [(nat_lit 4, .val .bool (U.b false))] []) else bif U.int (nth (U.i (0 : Int)) (List.tail (U.list (nth (U.i (0 : Int)) S.list (Int.toNat i.int)))) (0 : Nat)) != U.int (nth (U.i (0 : Int)) (List.tail (U.list (nth (U.i (0 : Int)) S'.list (Int.toNat i.int)))) (0 : Nat)) then k Ex.ret (St.mk [(nat_lit 4, .val .bool (U.b false))] []) else bif !tabE (U.list (nth (U.i (0 : Int)) (List.tail (List.tail (U.list (nth (U.i (0 : Int)) S.list (Int.toNat i.int))))) (0 : Nat))) (U.list (nth (U.i (0 : Int)) (List.tail (List.tail (U.list (nth (U.i (0 : Int)) S'.list (Int.toNat i.int))))) (0 : Nat))) then k Ex.ret (St.mk [(nat_lit 4, .val .bool (U.b false))] []) else bif Nat.blt (μ [.val (.int IntKind.i64) (U.i (IntKind.wrap .i64 (i.int + (1 : Int)))), .ptr (nat_lit 256) (nat_lit 0), .ptr (nat_lit 384) (nat_lit 0)] [.box [.val (.int IntKind.i64) c, .val (.int IntKind.i64) sz, .val .str bk, .val (.sl false [.sl true [.int .i64, .int .i64, .int .i64, .int .i64, .int .u32]]) T, .val (.sl true [.str, .int .i64, Ct.sl false [.sl true [.int .i64, .int .i64, .int .i64, .int .i64, .int .u32]]]) S, .val (.sl true [.str, Ct.bool, Ct.sl true [.int .i64, .int .i64]]) M, .val (.sl false [.int .i64]) Q], .box [.val (.int IntKind.i64) c', .val (.int IntKind.i64) sz', .val .str bk', .val (.sl false [.sl true [.int .i64, .int .i64, .int .i64, .int .i64, .int .u32]]) T', .val (.sl true [.str, .int .i64, Ct.sl false [.sl true [.int .i64, .int .i64, .int .i64, .int .i64, .int .u32]]]) S', .val (.sl true [.str, Ct.bool, Ct.sl true [.int .i64, .int .i64]]) M', .val (.sl false [.int .i64]) Q']]) N then ((nat_lit 256 = nat_lit 256 ∧ nat_lit 0 = nat_lit 0 ∧ nat_lit 384 = nat_lit 384 ∧ nat_lit 0 = nat_lit 0) ∧ ([Ct.int IntKind.i64, Ct.int IntKind.i64, Ct.int IntKind.i64, Ct.int IntKind.i64, Ct.int IntKind.u32] = [.int .i64, .int .i64, .int .i64, .int .i64, .int .u32] ∧ [Ct.str, Ct.int IntKind.i64, Ct.sl false [Ct.sl true [Ct.int IntKind.i64, Ct.int IntKind.i64, Ct.int IntKind.i64, Ct.int IntKind.i64, Ct.int IntKind.u32]]] = [.str, .int .i64, Ct.sl false [.sl true [.int .i64, .int .i64, .int .i64, .int .i64, .int .u32]]] ∧ [Ct.str, Ct.bool, Ct.sl true [Ct.int IntKind.i64, Ct.int IntKind.i64]] = [.str, Ct.bool, Ct.sl true [.int .i64, .int .i64]]) ∧ ([Ct.int IntKind.i64, Ct.int IntKind.i64, Ct.int IntKind.i64, Ct.int IntKind.i64, Ct.int IntKind.u32] = [.int .i64, .int .i64, .int .i64, .int .i64, .int .u32] ∧ [Ct.str, Ct.int IntKind.i64, Ct.sl false [Ct.sl true [Ct.int IntKind.i64, Ct.int IntKind.i64, Ct.int IntKind.i64, Ct.int IntKind.i64, Ct.int IntKind.u32]]] = [.str, .int .i64, Ct.sl false [.sl true [.int .i64, .int .i64, .int .i64, .int .i64, .int .u32]]] ∧ [Ct.str, Ct.bool, Ct.sl true [Ct.int IntKind.i64, Ct.int IntKind.i64]] = [.str, Ct.bool, Ct.sl true [.int .i64, .int .i64]]) ∧ S.list.length = S'.list.length ∧ (0 : Int) ≤ IntKind.wrap .i64 (i.int + (1 : Int)) ∧ IntKind.wrap .i64 (i.int + (1 : Int)) ≤ (S.list.length : Int)) ∧ bif shotsE (List.drop (Int.toNat (IntKind.wrap .i64 (i.int + (1 : Int)))) S.list) (List.drop (Int.toNat (IntKind.wrap .i64 (i.int + (1 : Int)))) S'.list) then k (Ex.exit (nat_lit 0)) (St.mk [(nat_lit 4, .unk)] []) else k Ex.ret (St.mk [(nat_lit 4, .val .bool (U.b false))] []) else False else False) else False) (Alt (bif decide ((0 : Int) ≤ i.int ∧ i.int < (S'.list.length : Int)) then (fun T => Alt T T) (bif decide ((0 : Int) ≤ i.int ∧ i.int < (S.list.length : Int)) then bif !ByteArray.toList (U.str (nth (U.i (0 : Int)) (U.list (nth (U.i (0 : Int)) S.list (Int.toNat i.int))) (0 : Nat))) == ByteArray.toList (U.str (nth (U.i (0 : Int)) (U.list (nth (U.i (0 : Int)) S'.list (Int.toNat i.int))) (0 : Nat))) then k Ex.ret (St.mk [(nat_lit 4, .val .bool (U.b false))] []) else bif U.int (nth (U.i (0 : Int)) (List.tail (U.list (nth (U.i (0 : Int)) S.list (Int.toNat i.int)))) (0 : Nat)) != U.int (nth (U.i (0 : Int)) (List.tail (U.list (nth (U.i (0 : Int)) S'.list (Int.toNat i.int)))) (0 : Nat)) then k Ex.ret (St.mk [(nat_lit 4, .val .bool (U.b false))] []) else bif !tabE (U.list (nth (U.i (0 : Int)) (List.tail (List.tail (U.list (nth (U.i (0 : Int)) S.list (Int.toNat i.int))))) (0 : Nat))) (U.list (nth (U.i (0 : Int)) (List.tail (List.tail (U.list (nth (U.i (0 : Int)) S'.list (Int.toNat i.int))))) (0 : Nat))) then k Ex.ret (St.mk [(nat_lit 4, .val .bool (U.b false))] []) else bif Nat.blt (μ [.val (.int IntKind.i64) (U.i (IntKind.wrap .i64 (i.int + (1 : Int)))), .ptr (nat_lit 256) (nat_lit 0), .ptr (nat_lit 384) (nat_lit 0)] [.box [.val (.int IntKind.i64) c, .val (.int IntKind.i64) sz, .val .str bk, .val (.sl false [.sl true [.int .i64, .int .i64, .int .i64, .int .i64, .int .u32]]) T, .val (.sl true [.str, .int .i64, Ct.sl false [.sl true [.int .i64, .int .i64, .int .i64, .int .i64, .int .u32]]]) S, .val (.sl true [.str, Ct.bool, Ct.sl true [.int .i64, .int .i64]]) M, .val (.sl false [.int .i64]) Q], .box [.val (.int IntKind.i64) c', .val (.int IntKind.i64) sz', .val .str bk', .val (.sl false [.sl true [.int .i64, .int .i64, .int .i64, .int .i64, .int .u32]]) T', .val (.sl true [.str, .int .i64, Ct.sl false [.sl true [.int .i64, .int .i64, .int .i64, .int .i64, .int .u32]]]) S', .val (.sl true [.str, Ct.bool, Ct.sl true [.int .i64, .int .i64]]) M', .val (.sl false [.int .i64]) Q']]) N then ((nat_lit 256 = nat_lit 256 ∧ nat_lit 0 = nat_lit 0 ∧ nat_lit 384 = nat_lit 384 ∧ nat_lit 0 = nat_lit 0) ∧ ([Ct.int IntKind.i64, Ct.int IntKind.i64, Ct.int IntKind.i64, Ct.int IntKind.i64, Ct.int IntKind.u32] = [.int .i64, .int .i64, .int .i64, .int .i64, .int .u32] ∧ [Ct.str, Ct.int IntKind.i64, Ct.sl false [Ct.sl true [Ct.int IntKind.i64, Ct.int IntKind.i64, Ct.int IntKind.i64, Ct.int IntKind.i64, Ct.int IntKind.u32]]] = [.str, .int .i64, Ct.sl false [.sl true [.int .i64, .int .i64, .int .i64, .int .i64, .int .u32]]] ∧ [Ct.str, Ct.bool, Ct.sl true [Ct.int IntKind.i64, Ct.int IntKind.i64]] = [.str, Ct.bool, Ct.sl true [.int .i64, .int .i64]]) ∧ ([Ct.int IntKind.i64, Ct.int IntKind.i64, Ct.int IntKind.i64, Ct.int IntKind.i64, Ct.int IntKind.u32] = [.int .i64, .int .i64, .int .i64, .int .i64, .int .u32] ∧ [Ct.str, Ct.int IntKind.i64, Ct.sl false [Ct.sl true [Ct.int IntKind.i64, Ct.int IntKind.i64, Ct.int IntKind.i64, Ct.int IntKind.i64, Ct.int IntKind.u32]]] = [.str, .int .i64, Ct.sl false [.sl true [.int .i64, .int .i64, .int .i64, .int .i64, .int .u32]]] ∧ [Ct.str, Ct.bool, Ct.sl true [Ct.int IntKind.i64, Ct.int IntKind.i64]] = [.str, Ct.bool, Ct.sl true [.int .i64, .int .i64]]) ∧ S.list.length = S'.list.length ∧ (0 : Int) ≤ IntKind.wrap .i64 (i.int + (1 : Int)) ∧ IntKind.wrap .i64 (i.int + (1 : Int)) ≤ (S.list.length : Int)) ∧ bif shotsE (List.drop (Int.toNat (IntKind.wrap .i64 (i.int + (1 : Int)))) S.list) (List.drop (Int.toNat (IntKind.wrap .i64 (i.int + (1 : Int)))) S'.list) then k (Ex.exit (nat_lit 0)) (St.mk [(nat_lit 4, .unk)] []) else k Ex.ret (St.mk [(nat_lit 4, .val .bool (U.b false))] []) else False else False) else False) (Alt (bif decide ((0 : Int) ≤ i.int ∧ i.int < (S.list.length : Int)) then (fun T => Alt T T) (bif decide ((0 : Int) ≤ i.int ∧ i.int < (S'.list.length : Int)) then bif !ByteArray.toList (U.str (nth (U.i (0 : Int)) (U.list (nth (U.i (0 : Int)) S.list (Int.toNat i.int))) (0 : Nat))) == ByteArray.toList (U.str (nth (U.i (0 : Int)) (U.list (nth (U.i (0 : Int)) S'.list (Int.toNat i.int))) (0 : Nat))) then k Ex.ret (St.mk [(nat_lit 4, .val .bool (U.b false))] []) else bif U.int (nth (U.i (0 : Int)) (List.tail (U.list (nth (U.i (0 : Int)) S.list (Int.toNat i.int)))) (0 : Nat)) != U.int (nth (U.i (0 : Int)) (List.tail (U.list (nth (U.i (0 : Int)) S'.list (Int.toNat i.int)))) (0 : Nat)) then k Ex.ret (St.mk [(nat_lit 4, .val .bool (U.b false))] []) else bif !tabE (U.list (nth (U.i (0 : Int)) (List.tail (List.tail (U.list (nth (U.i (0 : Int)) S.list (Int.toNat i.int))))) (0 : Nat))) (U.list (nth (U.i (0 : Int)) (List.tail (List.tail (U.list (nth (U.i (0 : Int)) S'.list (Int.toNat i.int))))) (0 : Nat))) then k Ex.ret (St.mk [(nat_lit 4, .val .bool (U.b false))] []) else bif Nat.blt (μ [.val (.int IntKind.i64) (U.i (IntKind.wrap .i64 (i.int + (1 : Int)))), .ptr (nat_lit 256) (nat_lit 0), .ptr (nat_lit 384) (nat_lit 0)] [.box [.val (.int IntKind.i64) c, .val (.int IntKind.i64) sz, .val .str bk, .val (.sl false [.sl true [.int .i64, .int .i64, .int .i64, .int .i64, .int .u32]]) T, .val (.sl true [.str, .int .i64, Ct.sl false [.sl true [.int .i64, .int .i64, .int .i64, .int .i64, .int .u32]]]) S, .val (.sl true [.str, Ct.bool, Ct.sl true [.int .i64, .int .i64]]) M, .val (.sl false [.int .i64]) Q], .box [.val (.int IntKind.i64) c', .val (.int IntKind.i64) sz', .val .str bk', .val (.sl false [.sl true [.int .i64, .int .i64, .int .i64, .int .i64, .int .u32]]) T', .val (.sl true [.str, .int .i64, Ct.sl false [.sl true [.int .i64, .int .i64, .int .i64, .int .i64, .int .u32]]]) S', .val (.sl true [.str, Ct.bool, Ct.sl true [.int .i64, .int .i64]]) M', .val (.sl false [.int .i64]) Q']]) N then ((nat_lit 256 = nat_lit 256 ∧ nat_lit 0 = nat_lit 0 ∧ nat_lit 384 = nat_lit 384 ∧ nat_lit 0 = nat_lit 0) ∧ ([Ct.int IntKind.i64, Ct.int IntKind.i64, Ct.int IntKind.i64, Ct.int IntKind.i64, Ct.int IntKind.u32] = [.int .i64, .int .i64, .int .i64, .int .i64, .int .u32] ∧ [Ct.str, Ct.int IntKind.i64, Ct.sl false [Ct.sl true [Ct.int IntKind.i64, Ct.int IntKind.i64, Ct.int IntKind.i64, Ct.int IntKind.i64, Ct.int IntKind.u32]]] = [.str, .int .i64, Ct.sl false [.sl true [.int .i64, .int .i64, .int .i64, .int .i64, .int .u32]]] ∧ [Ct.str, Ct.bool, Ct.sl true [Ct.int IntKind.i64, Ct.int IntKind.i64]] = [.str, Ct.bool, Ct.sl true [.int .i64, .int .i64]]) ∧ ([Ct.int IntKind.i64, Ct.int IntKind.i64, Ct.int IntKind.i64, Ct.int IntKind.i64, Ct.int IntKind.u32] = [.int .i64, .int .i64, .int .i64, .int .i64, .int .u32] ∧ [Ct.str, Ct.int IntKind.i64, Ct.sl false [Ct.sl true [Ct.int IntKind.i64, Ct.int IntKind.i64, Ct.int IntKind.i64, Ct.int IntKind.i64, Ct.int IntKind.u32]]] = [.str, .int .i64, Ct.sl false [.sl true [.int .i64, .int .i64, .int .i64, .int .i64, .int .u32]]] ∧ [Ct.str, Ct.bool, Ct.sl true [Ct.int IntKind.i64, Ct.int IntKind.i64]] = [.str, Ct.bool, Ct.sl true [.int .i64, .int .i64]]) ∧ S.list.length = S'.list.length ∧ (0 : Int) ≤ IntKind.wrap .i64 (i.int + (1 : Int)) ∧ IntKind.wrap .i64 (i.int + (1 : Int)) ≤ (S.list.length : Int)) ∧ bif shotsE (List.drop (Int.toNat (IntKind.wrap .i64 (i.int + (1 : Int)))) S.list) (List.drop (Int.toNat (IntKind.wrap .i64 (i.int + (1 : Int)))) S'.list) then k (Ex.exit (nat_lit 0)) (St.mk [(nat_lit 4, .unk)] []) else k Ex.ret (St.mk [(nat_lit 4, .val .bool (U.b false))] []) else False else False) else False) (bif decide ((0 : Int) ≤ i.int ∧ i.int < (S'.list.length : Int)) then bif decide ((0 : Int) ≤ i.int ∧ i.int < (S.list.length : Int)) then bif !ByteArray.toList (U.str (nth (U.i (0 : Int)) (U.list (nth (U.i (0 : Int)) S.list (Int.toNat i.int))) (0 : Nat))) == ByteArray.toList (U.str (nth (U.i (0 : Int)) (U.list (nth (U.i (0 : Int)) S'.list (Int.toNat i.int))) (0 : Nat))) then k Ex.ret (St.mk [(nat_lit 4, .val .bool (U.b false))] []) else bif U.int (nth (U.i (0 : Int)) (List.tail (U.list (nth (U.i (0 : Int)) S.list (Int.toNat i.int)))) (0 : Nat)) != U.int (nth (U.i (0 : Int)) (List.tail (U.list (nth (U.i (0 : Int)) S'.list (Int.toNat i.int)))) (0 : Nat)) then k Ex.ret (St.mk [(nat_lit 4, .val .bool (U.b false))] []) else bif !tabE (U.list (nth (U.i (0 : Int)) (List.tail (List.tail (U.list (nth (U.i (0 : Int)) S.list (Int.toNat i.int))))) (0 : Nat))) (U.list (nth (U.i (0 : Int)) (List.tail (List.tail (U.list (nth (U.i (0 : Int)) S'.list (Int.toNat i.int))))) (0 : Nat))) then k Ex.ret (St.mk [(nat_lit 4, .val .bool (U.b false))] []) else bif Nat.blt (μ [.val (.int IntKind.i64) (U.i (IntKind.wrap .i64 (i.int + (1 : Int)))), .ptr (nat_lit 256) (nat_lit 0), .ptr (nat_lit 384) (nat_lit 0)] [.box [.val (.int IntKind.i64) c, .val (.int IntKind.i64) sz, .val .str bk, .val (.sl false [.sl true [.int .i64, .int .i64, .int .i64, .int .i64, .int .u32]]) T, .val (.sl true [.str, .int .i64, Ct.sl false [.sl true [.int .i64, .int .i64, .int .i64, .int .i64, .int .u32]]]) S, .val (.sl true [.str, Ct.bool, Ct.sl true [.int .i64, .int .i64]]) M, .val (.sl false [.int .i64]) Q], .box [.val (.int IntKind.i64) c', .val (.int IntKind.i64) sz', .val .str bk', .val (.sl false [.sl true [.int .i64, .int .i64, .int .i64, .int .i64, .int .u32]]) T', .val (.sl true [.str, .int .i64, Ct.sl false [.sl true [.int .i64, .int .i64, .int .i64, .int .i64, .int .u32]]]) S', .val (.sl true [.str, Ct.bool, Ct.sl true [.int .i64, .int .i64]]) M', .val (.sl false [.int .i64]) Q']]) N then ((nat_lit 256 = nat_lit 256 ∧ nat_lit 0 = nat_lit 0 ∧ nat_lit 384 = nat_lit 384 ∧ nat_lit 0 = nat_lit 0) ∧ ([Ct.int IntKind.i64, Ct.int IntKind.i64, Ct.int IntKind.i64, Ct.int IntKind.i64, Ct.int IntKind.u32] = [.int .i64, .int .i64, .int .i64, .int .i64, .int .u32] ∧ [Ct.str, Ct.int IntKind.i64, Ct.sl false [Ct.sl true [Ct.int IntKind.i64, Ct.int IntKind.i64, Ct.int IntKind.i64, Ct.int IntKind.i64, Ct.int IntKind.u32]]] = [.str, .int .i64, Ct.sl false [.sl true [.int .i64, .int .i64, .int .i64, .int .i64, .int .u32]]] ∧ [Ct.str, Ct.bool, Ct.sl true [Ct.int IntKind.i64, Ct.int IntKind.i64]] = [.str, Ct.bool, Ct.sl true [.int .i64, .int .i64]]) ∧ ([Ct.int IntKind.i64, Ct.int IntKind.i64, Ct.int IntKind.i64, Ct.int IntKind.i64, Ct.int IntKind.u32] = [.int .i64, .int .i64, .int .i64, .int .i64, .int .u32] ∧ [Ct.str, Ct.int IntKind.i64, Ct.sl false [Ct.sl true [Ct.int IntKind.i64, Ct.int IntKind.i64, Ct.int IntKind.i64, Ct.int IntKind.i64, Ct.int IntKind.u32]]] = [.str, .int .i64, Ct.sl false [.sl true [.int .i64, .int .i64, .int .i64, .int .i64, .int .u32]]] ∧ [Ct.str, Ct.bool, Ct.sl true [Ct.int IntKind.i64, Ct.int IntKind.i64]] = [.str, Ct.bool, Ct.sl true [.int .i64, .int .i64]]) ∧ S.list.length = S'.list.length ∧ (0 : Int) ≤ IntKind.wrap .i64 (i.int + (1 : Int)) ∧ IntKind.wrap .i64 (i.int + (1 : Int)) ≤ (S.list.length : Int)) ∧ bif shotsE (List.drop (Int.toNat (IntKind.wrap .i64 (i.int + (1 : Int)))) S.list) (List.drop (Int.toNat (IntKind.wrap .i64 (i.int + (1 : Int)))) S'.list) then k (Ex.exit (nat_lit 0)) (St.mk [(nat_lit 4, .unk)] []) else k Ex.ret (St.mk [(nat_lit 4, .val .bool (U.b false))] []) else False else False else False)))) (Alt (bif decide ((0 : Int) ≤ i.int ∧ i.int < (S.list.length : Int)) then (fun T => Alt T (Alt T T)) (bif decide ((0 : Int) ≤ i.int ∧ i.int < (S'.list.length : Int)) then bif !ByteArray.toList (U.str (nth (U.i (0 : Int)) (U.list (nth (U.i (0 : Int)) S.list (Int.toNat i.int))) (0 : Nat))) == ByteArray.toList (U.str (nth (U.i (0 : Int)) (U.list (nth (U.i (0 : Int)) S'.list (Int.toNat i.int))) (0 : Nat))) then k Ex.ret (St.mk [(nat_lit 4, .val .bool (U.b false))] []) else bif U.int (nth (U.i (0 : Int)) (List.tail (U.list (nth (U.i (0 : Int)) S.list (Int.toNat i.int)))) (0 : Nat)) != U.int (nth (U.i (0 : Int)) (List.tail (U.list (nth (U.i (0 : Int)) S'.list (Int.toNat i.int)))) (0 : Nat)) then k Ex.ret (St.mk [(nat_lit 4, .val .bool (U.b false))] []) else bif !tabE (U.list (nth (U.i (0 : Int)) (List.tail (List.tail (U.list (nth (U.i (0 : Int)) S.list (Int.toNat i.int))))) (0 : Nat))) (U.list (nth (U.i (0 : Int)) (List.tail (List.tail (U.list (nth (U.i (0 : Int)) S'.list (Int.toNat i.int))))) (0 : Nat))) then k Ex.ret (St.mk [(nat_lit 4, .val .bool (U.b false))] []) else bif Nat.blt (μ [.val (.int IntKind.i64) (U.i (IntKind.wrap .i64 (i.int + (1 : Int)))), .ptr (nat_lit 256) (nat_lit 0), .ptr (nat_lit 384) (nat_lit 0)] [.box [.val (.int IntKind.i64) c, .val (.int IntKind.i64) sz, .val .str bk, .val (.sl false [.sl true [.int .i64, .int .i64, .int .i64, .int .i64, .int .u32]]) T, .val (.sl true [.str, .int .i64, Ct.sl false [.sl true [.int .i64, .int .i64, .int .i64, .int .i64, .int .u32]]]) S, .val (.sl true [.str, Ct.bool, Ct.sl true [.int .i64, .int .i64]]) M, .val (.sl false [.int .i64]) Q], .box [.val (.int IntKind.i64) c', .val (.int IntKind.i64) sz', .val .str bk', .val (.sl false [.sl true [.int .i64, .int .i64, .int .i64, .int .i64, .int .u32]]) T', .val (.sl true [.str, .int .i64, Ct.sl false [.sl true [.int .i64, .int .i64, .int .i64, .int .i64, .int .u32]]]) S', .val (.sl true [.str, Ct.bool, Ct.sl true [.int .i64, .int .i64]]) M', .val (.sl false [.int .i64]) Q']]) N then ((nat_lit 256 = nat_lit 256 ∧ nat_lit 0 = nat_lit 0 ∧ nat_lit 384 = nat_lit 384 ∧ nat_lit 0 = nat_lit 0) ∧ ([Ct.int IntKind.i64, Ct.int IntKind.i64, Ct.int IntKind.i64, Ct.int IntKind.i64, Ct.int IntKind.u32] = [.int .i64, .int .i64, .int .i64, .int .i64, .int .u32] ∧ [Ct.str, Ct.int IntKind.i64, Ct.sl false [Ct.sl true [Ct.int IntKind.i64, Ct.int IntKind.i64, Ct.int IntKind.i64, Ct.int IntKind.i64, Ct.int IntKind.u32]]] = [.str, .int .i64, Ct.sl false [.sl true [.int .i64, .int .i64, .int .i64, .int .i64, .int .u32]]] ∧ [Ct.str, Ct.bool, Ct.sl true [Ct.int IntKind.i64, Ct.int IntKind.i64]] = [.str, Ct.bool, Ct.sl true [.int .i64, .int .i64]]) ∧ ([Ct.int IntKind.i64, Ct.int IntKind.i64, Ct.int IntKind.i64, Ct.int IntKind.i64, Ct.int IntKind.u32] = [.int .i64, .int .i64, .int .i64, .int .i64, .int .u32] ∧ [Ct.str, Ct.int IntKind.i64, Ct.sl false [Ct.sl true [Ct.int IntKind.i64, Ct.int IntKind.i64, Ct.int IntKind.i64, Ct.int IntKind.i64, Ct.int IntKind.u32]]] = [.str, .int .i64, Ct.sl false [.sl true [.int .i64, .int .i64, .int .i64, .int .i64, .int .u32]]] ∧ [Ct.str, Ct.bool, Ct.sl true [Ct.int IntKind.i64, Ct.int IntKind.i64]] = [.str, Ct.bool, Ct.sl true [.int .i64, .int .i64]]) ∧ S.list.length = S'.list.length ∧ (0 : Int) ≤ IntKind.wrap .i64 (i.int + (1 : Int)) ∧ IntKind.wrap .i64 (i.int + (1 : Int)) ≤ (S.list.length : Int)) ∧ bif shotsE (List.drop (Int.toNat (IntKind.wrap .i64 (i.int + (1 : Int)))) S.list) (List.drop (Int.toNat (IntKind.wrap .i64 (i.int + (1 : Int)))) S'.list) then k (Ex.exit (nat_lit 0)) (St.mk [(nat_lit 4, .unk)] []) else k Ex.ret (St.mk [(nat_lit 4, .val .bool (U.b false))] []) else False else False) else False) (Alt (bif decide ((0 : Int) ≤ i.int ∧ i.int < (S'.list.length : Int)) then (fun T => Alt T T) (bif decide ((0 : Int) ≤ i.int ∧ i.int < (S.list.length : Int)) then bif !ByteArray.toList (U.str (nth (U.i (0 : Int)) (U.list (nth (U.i (0 : Int)) S.list (Int.toNat i.int))) (0 : Nat))) == ByteArray.toList (U.str (nth (U.i (0 : Int)) (U.list (nth (U.i (0 : Int)) S'.list (Int.toNat i.int))) (0 : Nat))) then k Ex.ret (St.mk [(nat_lit 4, .val .bool (U.b false))] []) else bif U.int (nth (U.i (0 : Int)) (List.tail (U.list (nth (U.i (0 : Int)) S.list (Int.toNat i.int)))) (0 : Nat)) != U.int (nth (U.i (0 : Int)) (List.tail (U.list (nth (U.i (0 : Int)) S'.list (Int.toNat i.int)))) (0 : Nat)) then k Ex.ret (St.mk [(nat_lit 4, .val .bool (U.b false))] []) else bif !tabE (U.list (nth (U.i (0 : Int)) (List.tail (List.tail (U.list (nth (U.i (0 : Int)) S.list (Int.toNat i.int))))) (0 : Nat))) (U.list (nth (U.i (0 : Int)) (List.tail (List.tail (U.list (nth (U.i (0 : Int)) S'.list (Int.toNat i.int))))) (0 : Nat))) then k Ex.ret (St.mk [(nat_lit 4, .val .bool (U.b false))] []) else bif Nat.blt (μ [.val (.int IntKind.i64) (U.i (IntKind.wrap .i64 (i.int + (1 : Int)))), .ptr (nat_lit 256) (nat_lit 0), .ptr (nat_lit 384) (nat_lit 0)] [.box [.val (.int IntKind.i64) c, .val (.int IntKind.i64) sz, .val .str bk, .val (.sl false [.sl true [.int .i64, .int .i64, .int .i64, .int .i64, .int .u32]]) T, .val (.sl true [.str, .int .i64, Ct.sl false [.sl true [.int .i64, .int .i64, .int .i64, .int .i64, .int .u32]]]) S, .val (.sl true [.str, Ct.bool, Ct.sl true [.int .i64, .int .i64]]) M, .val (.sl false [.int .i64]) Q], .box [.val (.int IntKind.i64) c', .val (.int IntKind.i64) sz', .val .str bk', .val (.sl false [.sl true [.int .i64, .int .i64, .int .i64, .int .i64, .int .u32]]) T', .val (.sl true [.str, .int .i64, Ct.sl false [.sl true [.int .i64, .int .i64, .int .i64, .int .i64, .int .u32]]]) S', .val (.sl true [.str, Ct.bool, Ct.sl true [.int .i64, .int .i64]]) M', .val (.sl false [.int .i64]) Q']]) N then ((nat_lit 256 = nat_lit 256 ∧ nat_lit 0 = nat_lit 0 ∧ nat_lit 384 = nat_lit 384 ∧ nat_lit 0 = nat_lit 0) ∧ ([Ct.int IntKind.i64, Ct.int IntKind.i64, Ct.int IntKind.i64, Ct.int IntKind.i64, Ct.int IntKind.u32] = [.int .i64, .int .i64, .int .i64, .int .i64, .int .u32] ∧ [Ct.str, Ct.int IntKind.i64, Ct.sl false [Ct.sl true [Ct.int IntKind.i64, Ct.int IntKind.i64, Ct.int IntKind.i64, Ct.int IntKind.i64, Ct.int IntKind.u32]]] = [.str, .int .i64, Ct.sl false [.sl true [.int .i64, .int .i64, .int .i64, .int .i64, .int .u32]]] ∧ [Ct.str, Ct.bool, Ct.sl true [Ct.int IntKind.i64, Ct.int IntKind.i64]] = [.str, Ct.bool, Ct.sl true [.int .i64, .int .i64]]) ∧ ([Ct.int IntKind.i64, Ct.int IntKind.i64, Ct.int IntKind.i64, Ct.int IntKind.i64, Ct.int IntKind.u32] = [.int .i64, .int .i64, .int .i64, .int .i64, .int .u32] ∧ [Ct.str, Ct.int IntKind.i64, Ct.sl false [Ct.sl true [Ct.int IntKind.i64, Ct.int IntKind.i64, Ct.int IntKind.i64, Ct.int IntKind.i64, Ct.int IntKind.u32]]] = [.str, .int .i64, Ct.sl false [.sl true [.int .i64, .int .i64, .int .i64, .int .i64, .int .u32]]] ∧ [Ct.str, Ct.bool, Ct.sl true [Ct.int IntKind.i64, Ct.int IntKind.i64]] = [.str, Ct.bool, Ct.sl true [.int .i64, .int .i64]]) ∧ S.list.length = S'.list.length ∧ (0 : Int) ≤ IntKind.wrap .i64 (i.int + (1 : Int)) ∧ IntKind.wrap .i64 (i.int + (1 : Int)) ≤ (S.list.length : Int)) ∧ bif shotsE (List.drop (Int.toNat (IntKind.wrap .i64 (i.int + (1 : Int)))) S.list) (List.drop (Int.toNat (IntKind.wrap .i64 (i.int + (1 : Int)))) S'.list) then k (Ex.exit (nat_lit 0)) (St.mk [(nat_lit 4, .unk)] []) else k Ex.ret (St.mk [(nat_lit 4, .val .bool (U.b false))] []) else False else False) else False) (Alt (bif decide ((0 : Int) ≤ i.int ∧ i.int < (S.list.length : Int)) then (fun T => Alt T T) (bif decide ((0 : Int) ≤ i.int ∧ i.int < (S'.list.length : Int)) then bif !ByteArray.toList (U.str (nth (U.i (0 : Int)) (U.list (nth (U.i (0 : Int)) S.list (Int.toNat i.int))) (0 : Nat))) == ByteArray.toList (U.str (nth (U.i (0 : Int)) (U.list (nth (U.i (0 : Int)) S'.list (Int.toNat i.int))) (0 : Nat))) then k Ex.ret (St.mk [(nat_lit 4, .val .bool (U.b false))] []) else bif U.int (nth (U.i (0 : Int)) (List.tail (U.list (nth (U.i (0 : Int)) S.list (Int.toNat i.int)))) (0 : Nat)) != U.int (nth (U.i (0 : Int)) (List.tail (U.list (nth (U.i (0 : Int)) S'.list (Int.toNat i.int)))) (0 : Nat)) then k Ex.ret (St.mk [(nat_lit 4, .val .bool (U.b false))] []) else bif !tabE (U.list (nth (U.i (0 : Int)) (List.tail (List.tail (U.list (nth (U.i (0 : Int)) S.list (Int.toNat i.int))))) (0 : Nat))) (U.list (nth (U.i (0 : Int)) (List.tail (List.tail (U.list (nth (U.i (0 : Int)) S'.list (Int.toNat i.int))))) (0 : Nat))) then k Ex.ret (St.mk [(nat_lit 4, .val .bool (U.b false))] []) else bif Nat.blt (μ [.val (.int IntKind.i64) (U.i (IntKind.wrap .i64 (i.int + (1 : Int)))), .ptr (nat_lit 256) (nat_lit 0), .ptr (nat_lit 384) (nat_lit 0)] [.box [.val (.int IntKind.i64) c, .val (.int IntKind.i64) sz, .val .str bk, .val (.sl false [.sl true [.int .i64, .int .i64, .int .i64, .int .i64, .int .u32]]) T, .val (.sl true [.str, .int .i64, Ct.sl false [.sl true [.int .i64, .int .i64, .int .i64, .int .i64, .int .u32]]]) S, .val (.sl true [.str, Ct.bool, Ct.sl true [.int .i64, .int .i64]]) M, .val (.sl false [.int .i64]) Q], .box [.val (.int IntKind.i64) c', .val (.int IntKind.i64) sz', .val .str bk', .val (.sl false [.sl true [.int .i64, .int .i64, .int .i64, .int .i64, .int .u32]]) T', .val (.sl true [.str, .int .i64, Ct.sl false [.sl true [.int .i64, .int .i64, .int .i64, .int .i64, .int .u32]]]) S', .val (.sl true [.str, Ct.bool, Ct.sl true [.int .i64, .int .i64]]) M', .val (.sl false [.int .i64]) Q']]) N then ((nat_lit 256 = nat_lit 256 ∧ nat_lit 0 = nat_lit 0 ∧ nat_lit 384 = nat_lit 384 ∧ nat_lit 0 = nat_lit 0) ∧ ([Ct.int IntKind.i64, Ct.int IntKind.i64, Ct.int IntKind.i64, Ct.int IntKind.i64, Ct.int IntKind.u32] = [.int .i64, .int .i64, .int .i64, .int .i64, .int .u32] ∧ [Ct.str, Ct.int IntKind.i64, Ct.sl false [Ct.sl true [Ct.int IntKind.i64, Ct.int IntKind.i64, Ct.int IntKind.i64, Ct.int IntKind.i64, Ct.int IntKind.u32]]] = [.str, .int .i64, Ct.sl false [.sl true [.int .i64, .int .i64, .int .i64, .int .i64, .int .u32]]] ∧ [Ct.str, Ct.bool, Ct.sl true [Ct.int IntKind.i64, Ct.int IntKind.i64]] = [.str, Ct.bool, Ct.sl true [.int .i64, .int .i64]]) ∧ ([Ct.int IntKind.i64, Ct.int IntKind.i64, Ct.int IntKind.i64, Ct.int IntKind.i64, Ct.int IntKind.u32] = [.int .i64, .int .i64, .int .i64, .int .i64, .int .u32] ∧ [Ct.str, Ct.int IntKind.i64, Ct.sl false [Ct.sl true [Ct.int IntKind.i64, Ct.int IntKind.i64, Ct.int IntKind.i64, Ct.int IntKind.i64, Ct.int IntKind.u32]]] = [.str, .int .i64, Ct.sl false [.sl true [.int .i64, .int .i64, .int .i64, .int .i64, .int .u32]]] ∧ [Ct.str, Ct.bool, Ct.sl true [Ct.int IntKind.i64, Ct.int IntKind.i64]] = [.str, Ct.bool, Ct.sl true [.int .i64, .int .i64]]) ∧ S.list.length = S'.list.length ∧ (0 : Int) ≤ IntKind.wrap .i64 (i.int + (1 : Int)) ∧ IntKind.wrap .i64 (i.int + (1 : Int)) ≤ (S.list.length : Int)) ∧ bif shotsE (List.drop (Int.toNat (IntKind.wrap .i64 (i.int + (1 : Int)))) S.list) (List.drop (Int.toNat (IntKind.wrap .i64 (i.int + (1 : Int)))) S'.list) then k (Ex.exit (nat_lit 0)) (St.mk [(nat_lit 4, .unk)] []) else k Ex.ret (St.mk [(nat_lit 4, .val .bool (U.b false))] []) else False else False) else False) (bif decide ((0 : Int) ≤ i.int ∧ i.int < (S'.list.length : Int)) then bif decide ((0 : Int) ≤ i.int ∧ i.int < (S.list.length : Int)) then bif !ByteArray.toList (U.str (nth (U.i (0 : Int)) (U.list (nth (U.i (0 : Int)) S.list (Int.toNat i.int))) (0 : Nat))) == ByteArray.toList (U.str (nth (U.i (0 : Int)) (U.list (nth (U.i (0 : Int)) S'.list (Int.toNat i.int))) (0 : Nat))) then k Ex.ret (St.mk [(nat_lit 4, .val .bool (U.b false))] []) else bif U.int (nth (U.i (0 : Int)) (List.tail (U.list (nth (U.i (0 : Int)) S.list (Int.toNat i.int)))) (0 : Nat)) != U.int (nth (U.i (0 : Int)) (List.tail (U.list (nth (U.i (0 : Int)) S'.list (Int.toNat i.int)))) (0 : Nat)) then k Ex.ret (St.mk [(nat_lit 4, .val .bool (U.b false))] []) else bif !tabE (U.list (nth (U.i (0 : Int)) (List.tail (List.tail (U.list (nth (U.i (0 : Int)) S.list (Int.toNat i.int))))) (0 : Nat))) (U.list (nth (U.i (0 : Int)) (List.tail (List.tail (U.list (nth (U.i (0 : Int)) S'.list (Int.toNat i.int))))) (0 : Nat))) then k Ex.ret (St.mk [(nat_lit 4, .val .bool (U.b false))] []) else bif Nat.blt (μ [.val (.int IntKind.i64) (U.i (IntKind.wrap .i64 (i.int + (1 : Int)))), .ptr (nat_lit 256) (nat_lit 0), .ptr (nat_lit 384) (nat_lit 0)] [.box [.val (.int IntKind.i64) c, .val (.int IntKind.i64) sz, .val .str bk, .val (.sl false [.sl true [.int .i64, .int .i64, .int .i64, .int .i64, .int .u32]]) T, .val (.sl true [.str, .int .i64, Ct.sl false [.sl true [.int .i64, .int .i64, .int .i64, .int .i64, .int .u32]]]) S, .val (.sl true [.str, Ct.bool, Ct.sl true [.int .i64, .int .i64]]) M, .val (.sl false [.int .i64]) Q], .box [.val (.int IntKind.i64) c', .val (.int IntKind.i64) sz', .val .str bk', .val (.sl false [.sl true [.int .i64, .int .i64, .int .i64, .int .i64, .int .u32]]) T', .val (.sl true [.str, .int .i64, Ct.sl false [.sl true [.int .i64, .int .i64, .int .i64, .int .i64, .int .u32]]]) S', .val (.sl true [.str, Ct.bool, Ct.sl true [.int .i64, .int .i64]]) M', .val (.sl false [.int .i64]) Q']]) N then ((nat_lit 256 = nat_lit 256 ∧ nat_lit 0 = nat_lit 0 ∧ nat_lit 384 = nat_lit 384 ∧ nat_lit 0 = nat_lit 0) ∧ ([Ct.int IntKind.i64, Ct.int IntKind.i64, Ct.int IntKind.i64, Ct.int IntKind.i64, Ct.int IntKind.u32] = [.int .i64, .int .i64, .int .i64, .int .i64, .int .u32] ∧ [Ct.str, Ct.int IntKind.i64, Ct.sl false [Ct.sl true [Ct.int IntKind.i64, Ct.int IntKind.i64, Ct.int IntKind.i64, Ct.int IntKind.i64, Ct.int IntKind.u32]]] = [.str, .int .i64, Ct.sl false [.sl true [.int .i64, .int .i64, .int .i64, .int .i64, .int .u32]]] ∧ [Ct.str, Ct.bool, Ct.sl true [Ct.int IntKind.i64, Ct.int IntKind.i64]] = [.str, Ct.bool, Ct.sl true [.int .i64, .int .i64]]) ∧ ([Ct.int IntKind.i64, Ct.int IntKind.i64, Ct.int IntKind.i64, Ct.int IntKind.i64, Ct.int IntKind.u32] = [.int .i64, .int .i64, .int .i64, .int .i64, .int .u32] ∧ [Ct.str, Ct.int IntKind.i64, Ct.sl false [Ct.sl true [Ct.int IntKind.i64, Ct.int IntKind.i64, Ct.int IntKind.i64, Ct.int IntKind.i64, Ct.int IntKind.u32]]] = [.str, .int .i64, Ct.sl false [.sl true [.int .i64, .int .i64, .int .i64, .int .i64, .int .u32]]] ∧ [Ct.str, Ct.bool, Ct.sl true [Ct.int IntKind.i64, Ct.int IntKind.i64]] = [.str, Ct.bool, Ct.sl true [.int .i64, .int .i64]]) ∧ S.list.length = S'.list.length ∧ (0 : Int) ≤ IntKind.wrap .i64 (i.int + (1 : Int)) ∧ IntKind.wrap .i64 (i.int + (1 : Int)) ≤ (S.list.length : Int)) ∧ bif shotsE (List.drop (Int.toNat (IntKind.wrap .i64 (i.int + (1 : Int)))) S.list) (List.drop (Int.toNat (IntKind.wrap .i64 (i.int + (1 : Int)))) S'.list) then k (Ex.exit (nat_lit 0)) (St.mk [(nat_lit 4, .unk)] []) else k Ex.ret (St.mk [(nat_lit 4, .val .bool (U.b false))] []) else False else False else False)))))) else k (Ex.exit (nat_lit 0)) (St.mk [(nat_lit 4, .unk)] [])) := by kernel_rfl
theorem same_tree (R : RF) (c sz bk T S M Q c' sz' bk' T' S' M' Q' : U) : (run sameC Try.f17 [[c, sz, bk, T, S, M, Q], [c', sz', bk', T', S', M', Q']] R) = (bif c.int != c'.int then R [[U.b false]] else bif sz.int != sz'.int then R [[U.b false]] else bif !ByteArray.toList bk.str == ByteArray.toList bk'.str then R [[U.b false]] else bif (S.list.length : Int) != (S'.list.length : Int) then R [[U.b false]] else bif !tabE T.list T'.list then R [[U.b false]] else bif !mapsE M.list M'.list then R [[U.b false]] else bif !intsE Q.list Q'.list then R [[U.b false]] else ((nat_lit 256 = nat_lit 256 ∧ nat_lit 0 = nat_lit 0 ∧ nat_lit 384 = nat_lit 384 ∧ nat_lit 0 = nat_lit 0) ∧ ([Ct.int IntKind.i64, Ct.int IntKind.i64, Ct.int IntKind.i64, Ct.int IntKind.i64, Ct.int IntKind.u32] = [.int .i64, .int .i64, .int .i64, .int .i64, .int .u32] ∧ [Ct.str, Ct.int IntKind.i64, Ct.sl false [Ct.sl true [Ct.int IntKind.i64, Ct.int IntKind.i64, Ct.int IntKind.i64, Ct.int IntKind.i64, Ct.int IntKind.u32]]] = [.str, .int .i64, Ct.sl false [.sl true [.int .i64, .int .i64, .int .i64, .int .i64, .int .u32]]] ∧ [Ct.str, Ct.bool, Ct.sl true [Ct.int IntKind.i64, Ct.int IntKind.i64]] = [.str, Ct.bool, Ct.sl true [.int .i64, .int .i64]]) ∧ ([Ct.int IntKind.i64, Ct.int IntKind.i64, Ct.int IntKind.i64, Ct.int IntKind.i64, Ct.int IntKind.u32] = [.int .i64, .int .i64, .int .i64, .int .i64, .int .u32] ∧ [Ct.str, Ct.int IntKind.i64, Ct.sl false [Ct.sl true [Ct.int IntKind.i64, Ct.int IntKind.i64, Ct.int IntKind.i64, Ct.int IntKind.i64, Ct.int IntKind.u32]]] = [.str, .int .i64, Ct.sl false [.sl true [.int .i64, .int .i64, .int .i64, .int .i64, .int .u32]]] ∧ [Ct.str, Ct.bool, Ct.sl true [Ct.int IntKind.i64, Ct.int IntKind.i64]] = [.str, Ct.bool, Ct.sl true [.int .i64, .int .i64]]) ∧ S.list.length = S'.list.length ∧ (0 : Int) ≤ (0 : Int) ∧ (0 : Int) ≤ (S.list.length : Int)) ∧ bif shotsE (List.drop (Int.toNat (0 : Int)) S.list) (List.drop (Int.toNat (0 : Int)) S'.list) then R [[U.b true]] else R [[U.b false]]) := by kernel_rfl
end Go.Mat

namespace Go.Mat
open Go Go.Den Go.Proofs
theorem shotsE_len : ∀ {a b : List U}, shotsE a b = true → a.length = b.length
  | [], [], _ => rfl
  | [], _ :: _, h => by cases h
  | _ :: _, [], h => by cases h
  | x :: r, y :: s, h => by
    rw [shotsE, Bool.and_eq_true] at h
    rw [List.length_cons, List.length_cons, shotsE_len h.2]
theorem shotsE_ne {a b : List U} (h : a.length ≠ b.length) : shotsE a b = false := Bool.eq_false_iff.2 fun h' => h (shotsE_len h')
theorem same_loop : LoopOk sameC 0 (loopBody Try.f17 0) := by
  refine loopOk_of (F := sameLoop) (ts := [5, 2, 3]) (os := [256, 384]) rfl (fun svs os => match svs, os with | .val _ i :: _, .box [_, _, _, _, .val _ S, _, _] :: _ => ((S.list.length : Int) - i.int).toNat | _, _ => 0) ?_
  intro pan svs os k ho1 ho2 h
  unfold sameLoop at h
  split at h
  · rename_i i p o p' o'
    split at h
    · rename_i c sz bk x1 T x2 S x3 M Q c' sz' bk' y1 T' y2 S' y3 M' Q'
      obtain ⟨⟨⟨rfl, rfl, rfl, rfl⟩, ⟨rfl, rfl, rfl⟩, ⟨rfl, rfl, rfl⟩, hl, h0, hi⟩, hk⟩ := h
      have hL : S.list.length ≤ maxLen := ho2.1.2.2.2.2.1.1
      unfold maxLen at hL
      refine .eq (same_round pan _ _ k i c sz bk T S M Q c' sz' bk' T' S' M' Q') ?_
      refine bd (fun hlt => ?_) (fun hlt => ?_)
      · rw [drop_at (by omega), drop_at (L := S'.list) (by omega), shotsE] at hk
        simp only [U.at, shotE, e0, e1, e2] at hk
        have hw : IntKind.wrap .i64 (i.int + 1) = i.int + 1 := i64_in (by omega) (by omega)
        have hc : (i.int + 1).toNat = i.int.toNat + 1 := by omega
        have hlt' : ((S.list.length : Int) - (i.int + 1)).toNat < ((S.list.length : Int) - i.int).toNat := by omega
        have hb1 : decide (0 ≤ i.int ∧ i.int < (S.list.length : Int)) = true := decide_eq_true ⟨h0, hlt⟩
        have hb2 : decide (0 ≤ i.int ∧ i.int < (S'.list.length : Int)) = true := decide_eq_true ⟨h0, by omega⟩
        simp only [hb1, hb2, cond_true, Alt_self, nth_tail, nth_drop, Nat.zero_add, Nat.add_zero, Nat.reduceAdd, hw, hc]
        refine bi (fun h1 => ?_) (fun h1 => bi (fun h2 => ?_) (fun h2 => bi (fun h3 => ?_) (fun h3 => ?_)))
        · rw [nt h1, Bool.false_and, Bool.false_and, Bool.false_and] at hk; exact hk
        · rw [nf h1, nt h2, Bool.true_and, Bool.false_and, Bool.false_and] at hk; exact hk
        · rw [nf h1, nf h2, nt h3, Bool.true_and, Bool.true_and, Bool.false_and] at hk; exact hk
        · rw [nf h1, nf h2, nf h3, Bool.true_and, Bool.true_and, Bool.true_and] at hk
          exact blt hlt' ⟨⟨⟨by trivial, by trivial, by trivial, by trivial⟩, ⟨by trivial, by trivial, by trivial⟩, ⟨by trivial, by trivial, by trivial⟩, hl, by omega, by omega⟩, hk⟩
      · rw [List.drop_of_length_le (by omega), List.drop_of_length_le (by omega), shotsE] at hk
        exact hk
    · exact h.elim
  · exact h.elim
theorem same_ok : SpecF PR 17 sameS := fun fn us hfn => by
  have hf : PR.funcs[(17 : Nat)]? = some Try.f17 := by kernel_rfl
  rw [hf] at hfn; cases hfn
  refine fn_okH (C := sameC) (mkC_ok eqs1_ok mixed_ok (.cons tabE_ok (.cons mps_ok (.cons ints_ok .nil))) .nil) hf (by kernel_rfl) (loops_one (by kernel_rfl) same_loop) fun hok => ?_
  have hp : Try.f17.params.toList = [29, 29] := by kernel_rfl
  rw [hp] at hok
  obtain ⟨c, sz, bk, T, S, M, Q, c', sz', bk', T', S', M', Q', hus⟩ : ∃ c sz bk T S M Q c' sz' bk' T' S' M' Q', us = [[c, sz, bk, T, S, M, Q], [c', sz', bk', T', S', M', Q']] := by
    obtain ⟨u, u2, rfl, h1, h2⟩ := shape2 (by kernel_rfl : Cs PR 29 = some (true, [.int .i64, .int .i64, .str, .sl false [.sl true EC], .sl true SC, .sl true BC, .sl false [.int .i64]])) (by kernel_rfl : Cs PR 29 = some (true, [.int .i64, .int .i64, .str, .sl false [.sl true EC], .sl true SC, .sl true BC, .sl false [.int .i64]])) hok.1
    obtain ⟨c, sz, bk, T, S, M, Q, rfl⟩ := len7 h1
    obtain ⟨c', sz', bk', T', S', M', Q', rfl⟩ := len7 h2
    exact ⟨c, sz, bk, T, S, M, Q, c', sz', bk', T', S', M', Q', rfl⟩
  subst hus
  refine .eq (same_tree _ c sz bk T S M Q c' sz' bk' T' S' M' Q') ?_
  have hS : sameS [[c, sz, bk, T, S, M, Q], [c', sz', bk', T', S', M', Q']] = [[.b (metaEq c sz bk T S M Q c' sz' bk' T' S' M' Q')]] := rfl
  rw [hS]
  unfold metaEq
  simp only [Int.toNat_zero, List.drop_zero]
  refine bi (fun h => by rw [nt h]; rfl) (fun h1 => bi (fun h => by rw [nf h1, nt h]; rfl) (fun h2 => bi (fun h => by rw [nf h1, nf h2, nt h]; rfl) (fun h3 => bi (fun h => ?_) (fun h4 => ?_))))
  · have h := nt h
    rw [shotsE_ne (by intro h2; rw [h2] at h; simp at h), Bool.and_false]
  have h4 := nf h4
  simp only [beq_iff_eq] at h4
  refine bi (fun h => by rw [nf h1, nf h2, nf h3, nt h]; rfl) (fun h5 => bi (fun h => by rw [nf h1, nf h2, nf h3, nf h5, nt h]; rfl) (fun h6 => bi (fun h => by rw [nf h1, nf h2, nf h3, nf h5, nf h6, nt h]; rfl) (fun h7 => ⟨⟨⟨by trivial, by trivial, by trivial, by trivial⟩, ⟨by trivial, by trivial, by trivial⟩, ⟨by trivial, by trivial, by trivial⟩, by omega, by omega, by omega⟩, ?_⟩)))
  rw [nf h1, nf h2, nf h3, nf h5, nf h6, nf h7]
  exact bi (fun h => by rw [h]; rfl) (fun h => by rw [h]; rfl)
end Go.Mat

namespace Go.Mat
open Go Go.Den Go.Proofs
theorem intsE_iff : ∀ {a b : List U}, intsE a b = true ↔ a.map U.int = b.map U.int
  | [], [] => by simp [intsE]
  | [], _ :: _ => by simp [intsE]
  | _ :: _, [] => by simp [intsE]
  | x :: r, y :: s => by
    rw [intsE, Bool.and_eq_true, intsE_iff, List.map_cons, List.map_cons, List.cons.injEq, beq_iff_eq]
def isByte (u : U) : Prop := ∃ n : Nat, n < 256 ∧ u = .i n
structure allBytes (l : List U) : Prop where
  all : ∀ u ∈ l, isByte u
theorem allBytes.app {l m : List U} (h : allBytes l) (k : allBytes m) : allBytes (l ++ m) := ⟨fun u hu => (List.mem_append.1 hu).elim (h.all u) (k.all u)⟩
theorem allBytes.nil : allBytes [] := ⟨fun u hu => by cases hu⟩
end Go.Mat

namespace Go.Mat
open Go Go.Den Go.Proofs
def thereR (b : List U) (at_ n : Int) : Bool := decide (0 ≤ at_) && decide (at_ ≤ b.length) && decide (n ≤ b.length - at_)
def sub (b : List U) (at_ n : Int) : List U := (b.take (at_ + n).toNat).drop at_.toNat
def thereP : List (List U) → Prop := fun us => 0 ≤ (nth (.i 0) (nth [] us 2) 0).int ∧ (nth (.i 0) (nth [] us 2) 0).int ≤ 1099511627776 ∧ (nth (.i 0) (nth [] us 0) 0).list.length ≤ 1099511627776
def thereS : List (List U) → List (List U) := fun us => [[.l (bif thereR (nth (.i 0) (nth [] us 0) 0).list (nth (.i 0) (nth [] us 1) 0).int (nth (.i 0) (nth [] us 2) 0).int then sub (nth (.i 0) (nth [] us 0) 0).list (nth (.i 0) (nth [] us 1) 0).int (nth (.i 0) (nth [] us 2) 0).int else [])],
  [.b (thereR (nth (.i 0) (nth [] us 0) 0).list (nth (.i 0) (nth [] us 1) 0).int (nth (.i 0) (nth [] us 2) 0).int)]]
theorem there_tree (R : RF) (b a n : U) : (run K0 Try.f80 [[b], [a], [n]] R) = (bif decide (U.int a < (0 : Int)) then R [[U.l []], [U.b false]] else bif decide (U.int a > (↑(List.length (U.list b)) : Int)) then R [[U.l []], [U.b false]] else bif decide (U.int n > IntKind.wrap IntKind.i64
  ((↑(List.length (U.list b)) : Int) - U.int a)) then R [[U.l []], [U.b false]] else bif decide ((0 : Int) ≤ U.int a ∧ U.int a ≤ IntKind.wrap IntKind.i64 (U.int a + U.int n) ∧ IntKind.wrap IntKind.i64 (U.int
  a + U.int n) ≤ IntKind.wrap IntKind.i64 (U.int a + U.int n) ∧ IntKind.wrap IntKind.i64 (U.int a + U.int n) ≤ (↑(List.length (U.list b)) : Int)) && true then R [[U.l (List.drop (Int.toNat (U.int a)) (List.take
  (Int.toNat (IntKind.wrap IntKind.i64 (U.int a + U.int n))) (U.list b)))], [U.b true]] else False) := by kernel_rfl
def leV : List U → Int
  | [] => 0
  | u :: r => u.int + 256 * leV r
def byteOk (b : List U) : Prop := ∀ u ∈ b, 0 ≤ u.int ∧ u.int ≤ 255
def getN (b : List U) (at_ n : Int) : Int := bif thereR b at_ n then leV (sub b at_ n) else 0
def getE (b : List U) (at_ n : Int) : Int := bif thereR b at_ n then 0 else 6
def getP : List (List U) → Prop := fun us => 1 ≤ (nth (.i 0) (nth [] us 2) 0).int ∧ (nth (.i 0) (nth [] us 2) 0).int ≤ 4 ∧ (nth (.i 0) (nth [] us 3) 0).bool = false ∧ (nth (.i 0) (nth [] us 0) 0).list.length ≤ 1099511627776
def getS : List (List U) → List (List U) := fun us => [[.i (getN (nth (.i 0) (nth [] us 0) 0).list (nth (.i 0) (nth [] us 1) 0).int (nth (.i 0) (nth [] us 2) 0).int)], [.i (getE (nth (.i 0) (nth [] us 0) 0).list (nth (.i 0) (nth [] us 1) 0).int (nth (.i 0) (nth [] us 2) 0).int)]]
noncomputable def getLoop : LoopF := fun _ svs _ k => match svs with
  | .val (.int .i64) i :: .val (.int .i64) m :: .val (.int .u64) v :: rest => match rest with
    | [.val (.sl false [.int .u8]) l, .val (.int .i64) n, .val .bool g] =>
      (n = m ∧ g.bool = false ∧ byteOk l.list ∧ (l.list.length : Int) = m.int ∧ m.int ≤ 4 ∧ 0 ≤ i.int ∧ i.int ≤ m.int ∧ v = .i v.int ∧ 0 ≤ v.int ∧ v.int < 256 ^ i.int.toNat) ∧
      k (.exit 0) ⟨[(12, vu (.i (v.int * 256 ^ (m.int - i.int).toNat + leV (l.list.take (m.int - i.int).toNat))))], []⟩
    | _ => False
  | _ => False
noncomputable def getC : Ctx := mkC PR eqs0 (fnsConsP 80 thereP thereS fnsNil) trsNil (loopCons 0 [31, 30, 12, 10, 2, 3] [] getLoop noLoops) (outCons 0 [12] [] noOut) noOut
theorem get_round (pan : KP) (μ : Mu) (N : Nat) (k : KE) (i n v l g : U) : (exec (getC.panics pan) (loopBody Try.f72 0) 0 ⟨[(31, vi i), (30, vi n), (12, vu v), (10, vl (.int .u8) l), (2, vi n), (3, vb g)], []⟩ (again PR (some ([12], [])) none pan [31, 30, 12, 10, 2, 3] [] getLoop μ N k)) = (bif decide (i.int < n.int) then bif g.bool then bif decide ((0 : Int) ≤ i.int ∧ i.int < (l.list.length : Int)) then bif Nat.blt (μ [.val (.int IntKind.i64) (U.i (IntKind.wrap .i64 (i.int + (1 : Int)))), .val (.int IntKind.i64) n, .val (.int IntKind.u64) (U.i (IntKind.wrap .u64 (↑(BitVec.toNat (BitVec.ofInt (IntKind.bits IntKind.u64) (IntKind.wrap .u64 (v.int * (2 : Int) ^ min (Int.toNat (8 : Int)) (IntKind.bits IntKind.u64))) ||| BitVec.ofInt (IntKind.bits IntKind.u64) (IntKind.wrap .u64 (U.int (nth (U.i (0 : Int)) l.list (Int.toNat i.int)))))) : Int))), .val (.sl false [.int .u8]) l, .val (.int IntKind.i64) n, .val .bool g] []) N then (n = n ∧ g.bool = false ∧ byteOk l.list ∧ (l.list.length : Int) = n.int ∧ n.int ≤ (4 : Int) ∧ (0 : Int) ≤ IntKind.wrap .i64 (i.int + (1 : Int)) ∧ IntKind.wrap .i64 (i.int + (1 : Int)) ≤ n.int ∧ U.i (IntKind.wrap .u64 (↑(BitVec.toNat (BitVec.ofInt (IntKind.bits IntKind.u64) (IntKind.wrap .u64 (v.int * (2 : Int) ^ min (Int.toNat (8 : Int)) (IntKind.bits IntKind.u64))) ||| BitVec.ofInt (IntKind.bits IntKind.u64) (IntKind.wrap .u64 (U.int (nth (U.i (0 : Int)) l.list (Int.toNat i.int)))))) : Int)) = U.i (IntKind.wrap .u64 (↑(BitVec.toNat (BitVec.ofInt (IntKind.bits IntKind.u64) (IntKind.wrap .u64 (v.int * (2 : Int) ^ min (Int.toNat (8 : Int)) (IntKind.bits IntKind.u64))) ||| BitVec.ofInt (IntKind.bits IntKind.u64) (IntKind.wrap .u64 (U.int (nth (U.i (0 : Int)) l.list (Int.toNat i.int)))))) : Int)) ∧ (0 : Int) ≤ IntKind.wrap .u64 (↑(BitVec.toNat (BitVec.ofInt (IntKind.bits IntKind.u64) (IntKind.wrap .u64 (v.int * (2 : Int) ^ min (Int.toNat (8 : Int)) (IntKind.bits IntKind.u64))) ||| BitVec.ofInt (IntKind.bits IntKind.u64) (IntKind.wrap .u64 (U.int (nth (U.i (0 : Int)) l.list (Int.toNat i.int)))))) : Int) ∧ IntKind.wrap .u64 (↑(BitVec.toNat (BitVec.ofInt (IntKind.bits IntKind.u64) (IntKind.wrap .u64 (v.int * (2 : Int) ^ min (Int.toNat (8 : Int)) (IntKind.bits IntKind.u64))) ||| BitVec.ofInt (IntKind.bits IntKind.u64) (IntKind.wrap .u64 (U.int (nth (U.i (0 : Int)) l.list (Int.toNat i.int)))))) : Int) < (256 : Int) ^ Int.toNat (IntKind.wrap .i64 (i.int + (1 : Int)))) ∧ k (Ex.exit (nat_lit 0)) (St.mk [(nat_lit 12, .val (.int IntKind.u64) (U.i (IntKind.wrap .u64 (↑(BitVec.toNat (BitVec.ofInt (IntKind.bits IntKind.u64) (IntKind.wrap .u64 (v.int * (2 : Int) ^ min (Int.toNat (8 : Int)) (IntKind.bits IntKind.u64))) ||| BitVec.ofInt (IntKind.bits IntKind.u64) (IntKind.wrap .u64 (U.int (nth (U.i (0 : Int)) l.list (Int.toNat i.int)))))) : Int) * (256 : Int) ^ Int.toNat (n.int - IntKind.wrap .i64 (i.int + (1 : Int))) + leV (List.take (Int.toNat (n.int - IntKind.wrap .i64 (i.int + (1 : Int)))) l.list))))] []) else False else False else bif decide ((0 : Int) ≤ IntKind.wrap .i64 (IntKind.wrap .i64 (n.int - (1 : Int)) - i.int) ∧ IntKind.wrap .i64 (IntKind.wrap .i64 (n.int - (1 : Int)) - i.int) < (l.list.length : Int)) then bif Nat.blt (μ [.val (.int IntKind.i64) (U.i (IntKind.wrap .i64 (i.int + (1 : Int)))), .val (.int IntKind.i64) n, .val (.int IntKind.u64) (U.i (IntKind.wrap .u64 (↑(BitVec.toNat (BitVec.ofInt (IntKind.bits IntKind.u64) (IntKind.wrap .u64 (v.int * (2 : Int) ^ min (Int.toNat (8 : Int)) (IntKind.bits IntKind.u64))) ||| BitVec.ofInt (IntKind.bits IntKind.u64) (IntKind.wrap .u64 (U.int (nth (U.i (0 : Int)) l.list (Int.toNat (IntKind.wrap .i64 (IntKind.wrap .i64 (n.int - (1 : Int)) - i.int)))))))) : Int))), .val (.sl false [.int .u8]) l, .val (.int IntKind.i64) n, .val .bool g] []) N then (n = n ∧ g.bool = false ∧ byteOk l.list ∧ (l.list.length : Int) = n.int ∧ n.int ≤ (4 : Int) ∧ (0 : Int) ≤ IntKind.wrap .i64 (i.int + (1 : Int)) ∧ IntKind.wrap .i64 (i.int + (1 : Int)) ≤ n.int ∧ U.i (IntKind.wrap .u64 (↑(BitVec.toNat (BitVec.ofInt (IntKind.bits IntKind.u64) (IntKind.wrap .u64 (v.int * (2 : Int) ^ min (Int.toNat (8 : Int)) (IntKind.bits IntKind.u64))) ||| BitVec.ofInt (IntKind.bits IntKind.u64) (IntKind.wrap .u64 (U.int (nth (U.i (0 : Int)) l.list (Int.toNat (IntKind.wrap .i64 (IntKind.wrap .i64 (n.int - (1 : Int)) - i.int)))))))) : Int)) = U.i (IntKind.wrap .u64 (↑(BitVec.toNat (BitVec.ofInt (IntKind.bits IntKind.u64) (IntKind.wrap .u64 (v.int * (2 : Int) ^ min (Int.toNat (8 : Int)) (IntKind.bits IntKind.u64))) ||| BitVec.ofInt (IntKind.bits IntKind.u64) (IntKind.wrap .u64 (U.int (nth (U.i (0 : Int)) l.list (Int.toNat (IntKind.wrap .i64 (IntKind.wrap .i64 (n.int - (1 : Int)) - i.int)))))))) : Int)) ∧ (0 : Int) ≤ IntKind.wrap .u64 (↑(BitVec.toNat (BitVec.ofInt (IntKind.bits IntKind.u64) (IntKind.wrap .u64 (v.int * (2 : Int) ^ min (Int.toNat (8 : Int)) (IntKind.bits IntKind.u64))) ||| BitVec.ofInt (IntKind.bits IntKind.u64) (IntKind.wrap .u64 (U.int (nth (U.i (0 : Int)) l.list (Int.toNat (IntKind.wrap .i64 (IntKind.wrap .i64 (n.int - (1 : Int)) - i.int)))))))) : Int) ∧ IntKind.wrap .u64 (↑(BitVec.toNat (BitVec.ofInt (IntKind.bits IntKind.u64) (IntKind.wrap .u64 (v.int * (2 : Int) ^ min (Int.toNat (8 : Int)) (IntKind.bits IntKind.u64))) ||| BitVec.ofInt (IntKind.bits IntKind.u64) (IntKind.wrap .u64 (U.int (nth (U.i (0 : Int)) l.list (Int.toNat (IntKind.wrap .i64 (IntKind.wrap .i64 (n.int - (1 : Int)) - i.int)))))))) : Int) < (256 : Int) ^ Int.toNat (IntKind.wrap .i64 (i.int + (1 : Int)))) ∧ k (Ex.exit (nat_lit 0)) (St.mk [(nat_lit 12, .val (.int IntKind.u64) (U.i (IntKind.wrap .u64 (↑(BitVec.toNat (BitVec.ofInt (IntKind.bits IntKind.u64) (IntKind.wrap .u64 (v.int * (2 : Int) ^ min (Int.toNat (8 : Int)) (IntKind.bits IntKind.u64))) ||| BitVec.ofInt (IntKind.bits IntKind.u64) (IntKind.wrap .u64 (U.int (nth (U.i (0 : Int)) l.list (Int.toNat (IntKind.wrap .i64 (IntKind.wrap .i64 (n.int - (1 : Int)) - i.int)))))))) : Int) * (256 : Int) ^ Int.toNat (n.int - IntKind.wrap .i64 (i.int + (1 : Int))) + leV (List.take (Int.toNat (n.int - IntKind.wrap .i64 (i.int + (1 : Int)))) l.list))))] []) else False else False else k (Ex.exit (nat_lit 0)) (St.mk [(nat_lit 12, .val (.int IntKind.u64) v)] [])) := by kernel_rfl
theorem get_tree (R : RF) (b a n g : U) : (run getC Try.f72 [[b], [a], [n], [g]] R) = (bif decide (U.int n < (1 : Int)) then R [[U.i (0 : Int)], [U.i (1 : Int)]] else bif decide (U.int n > (8 : Int)) then R [[U.i (0 : Int)], [U.i (1 : Int)]] else thereP [[b], [a], [n]] ∧ bif !thereR (U.list
  b) (U.int a) (U.int n) then R [[U.i (0 : Int)], [U.i (6 : Int)]] else (n = n ∧ U.bool g = false ∧ byteOk (bif thereR (U.list b) (U.int a) (U.int n) then sub (U.list b) (U.int a) (U.int n) else []) ∧ (↑(List.length
  (bif thereR (U.list b) (U.int a) (U.int n) then sub (U.list b) (U.int a) (U.int n) else [])) : Int) = U.int n ∧ U.int n ≤ (4 : Int) ∧ (0 : Int) ≤ (0 : Int) ∧ (0 : Int) ≤ U.int n ∧ U.i (0 : Int) = U.i (0
  : Int) ∧ (0 : Int) ≤ (0 : Int) ∧ (0 : Int) < (256 : Int) ^ Int.toNat (0 : Int)) ∧ R [[U.i ((0 : Int) * (256 : Int) ^ Int.toNat (U.int n - (0 : Int)) + leV (List.take (Int.toNat (U.int n - (0 : Int))) (bif
  thereR (U.list b) (U.int a) (U.int n) then sub (U.list b) (U.int a) (U.int n) else [])))], [U.i (0 : Int)]]) := by kernel_rfl
noncomputable def rgetLoop : LoopF := fun _ svs _ k => match svs with
  | .val (.int .i64) i :: .val (.int .u64) v :: rest => match rest with
    | [.val (.sl false [.int .u8]) b, .val (.int .i64) a, .val (.int .i64) n, .val .bool g] =>
      (g.bool = false ∧ byteOk b.list ∧ 0 ≤ a.int ∧ a.int + n.int ≤ b.list.length ∧ b.list.length ≤ 1099511627776 ∧ n.int ≤ 4 ∧ 0 ≤ i.int ∧ i.int ≤ n.int ∧ v = .i v.int ∧ 0 ≤ v.int ∧ v.int < 256 ^ i.int.toNat) ∧
      k (.exit 0) ⟨[(10, vu (.i (v.int * 256 ^ (n.int - i.int).toNat + leV ((b.list.drop a.int.toNat).take (n.int - i.int).toNat))))], []⟩
    | _ => False
  | _ => False
noncomputable def rgetC : Ctx := mkC PR eqs0 fnsNil trsNil (loopCons 0 [11, 10, 0, 1, 2, 3] [] rgetLoop noLoops) (outCons 0 [10] [] noOut) noOut
theorem rget_round (pan : KP) (μ : Mu) (N : Nat) (k : KE) (i v b a n g : U) : (exec (rgetC.panics pan) (loopBody Try.f62 0) 0 ⟨[(11, vi i), (10, vu v), (0, vl (.int .u8) b), (1, vi a), (2, vi n), (3, vb g)], []⟩ (again PR (some ([10], [])) none pan [11, 10, 0, 1, 2, 3] [] rgetLoop μ N k)) = (bif decide (i.int < n.int) then bif !g.bool then bif decide ((0 : Int) ≤ IntKind.wrap .i64 (a.int + IntKind.wrap .i64 (IntKind.wrap .i64 (n.int - (1 : Int)) - i.int)) ∧ IntKind.wrap .i64 (a.int + IntKind.wrap .i64 (IntKind.wrap .i64 (n.int - (1 : Int)) - i.int)) < (b.list.length : Int)) then bif Nat.blt (μ [.val (.int IntKind.i64) (U.i (IntKind.wrap .i64 (i.int + (1 : Int)))), .val (.int IntKind.u64) (U.i (IntKind.wrap .u64 (↑(BitVec.toNat (BitVec.ofInt (IntKind.bits IntKind.u64) (IntKind.wrap .u64 (v.int * (2 : Int) ^ min (Int.toNat (8 : Int)) (IntKind.bits IntKind.u64))) ||| BitVec.ofInt (IntKind.bits IntKind.u64) (IntKind.wrap .u64 (U.int (nth (U.i (0 : Int)) b.list (Int.toNat (IntKind.wrap .i64 (a.int + IntKind.wrap .i64 (IntKind.wrap .i64 (n.int - (1 : Int)) - i.int))))))))) : Int))), .val (.sl false [.int .u8]) b, .val (.int IntKind.i64) a, .val (.int IntKind.i64) n, .val .bool g] []) N then (g.bool = false ∧ byteOk b.list ∧ (0 : Int) ≤ a.int ∧ a.int + n.int ≤ (b.list.length : Int) ∧ b.list.length ≤ (1099511627776 : Nat) ∧ n.int ≤ (4 : Int) ∧ (0 : Int) ≤ IntKind.wrap .i64 (i.int + (1 : Int)) ∧ IntKind.wrap .i64 (i.int + (1 : Int)) ≤ n.int ∧ U.i (IntKind.wrap .u64 (↑(BitVec.toNat (BitVec.ofInt (IntKind.bits IntKind.u64) (IntKind.wrap .u64 (v.int * (2 : Int) ^ min (Int.toNat (8 : Int)) (IntKind.bits IntKind.u64))) ||| BitVec.ofInt (IntKind.bits IntKind.u64) (IntKind.wrap .u64 (U.int (nth (U.i (0 : Int)) b.list (Int.toNat (IntKind.wrap .i64 (a.int + IntKind.wrap .i64 (IntKind.wrap .i64 (n.int - (1 : Int)) - i.int))))))))) : Int)) = U.i (IntKind.wrap .u64 (↑(BitVec.toNat (BitVec.ofInt (IntKind.bits IntKind.u64) (IntKind.wrap .u64 (v.int * (2 : Int) ^ min (Int.toNat (8 : Int)) (IntKind.bits IntKind.u64))) ||| BitVec.ofInt (IntKind.bits IntKind.u64) (IntKind.wrap .u64 (U.int (nth (U.i (0 : Int)) b.list (Int.toNat (IntKind.wrap .i64 (a.int + IntKind.wrap .i64 (IntKind.wrap .i64 (n.int - (1 : Int)) - i.int))))))))) : Int)) ∧ (0 : Int) ≤ IntKind.wrap .u64 (↑(BitVec.toNat (BitVec.ofInt (IntKind.bits IntKind.u64) (IntKind.wrap .u64 (v.int * (2 : Int) ^ min (Int.toNat (8 : Int)) (IntKind.bits IntKind.u64))) ||| BitVec.ofInt (IntKind.bits IntKind.u64) (IntKind.wrap .u64 (U.int (nth (U.i (0 : Int)) b.list (Int.toNat (IntKind.wrap .i64 (a.int + IntKind.wrap .i64 (IntKind.wrap .i64 (n.int - (1 : Int)) - i.int))))))))) : Int) ∧ IntKind.wrap .u64 (↑(BitVec.toNat (BitVec.ofInt (IntKind.bits IntKind.u64) (IntKind.wrap .u64 (v.int * (2 : Int) ^ min (Int.toNat (8 : Int)) (IntKind.bits IntKind.u64))) ||| BitVec.ofInt (IntKind.bits IntKind.u64) (IntKind.wrap .u64 (U.int (nth (U.i (0 : Int)) b.list (Int.toNat (IntKind.wrap .i64 (a.int + IntKind.wrap .i64 (IntKind.wrap .i64 (n.int - (1 : Int)) - i.int))))))))) : Int) < (256 : Int) ^ Int.toNat (IntKind.wrap .i64 (i.int + (1 : Int)))) ∧ k (Ex.exit (nat_lit 0)) (St.mk [(nat_lit 10, .val (.int IntKind.u64) (U.i (IntKind.wrap .u64 (↑(BitVec.toNat (BitVec.ofInt (IntKind.bits IntKind.u64) (IntKind.wrap .u64 (v.int * (2 : Int) ^ min (Int.toNat (8 : Int)) (IntKind.bits IntKind.u64))) ||| BitVec.ofInt (IntKind.bits IntKind.u64) (IntKind.wrap .u64 (U.int (nth (U.i (0 : Int)) b.list (Int.toNat (IntKind.wrap .i64 (a.int + IntKind.wrap .i64 (IntKind.wrap .i64 (n.int - (1 : Int)) - i.int))))))))) : Int) * (256 : Int) ^ Int.toNat (n.int - IntKind.wrap .i64 (i.int + (1 : Int))) + leV (List.take (Int.toNat (n.int - IntKind.wrap .i64 (i.int + (1 : Int)))) (List.drop (Int.toNat a.int) b.list)))))] []) else False else False else bif decide ((0 : Int) ≤ IntKind.wrap .i64 (a.int + i.int) ∧ IntKind.wrap .i64 (a.int + i.int) < (b.list.length : Int)) then bif Nat.blt (μ [.val (.int IntKind.i64) (U.i (IntKind.wrap .i64 (i.int + (1 : Int)))), .val (.int IntKind.u64) (U.i (IntKind.wrap .u64 (↑(BitVec.toNat (BitVec.ofInt (IntKind.bits IntKind.u64) (IntKind.wrap .u64 (v.int * (2 : Int) ^ min (Int.toNat (8 : Int)) (IntKind.bits IntKind.u64))) ||| BitVec.ofInt (IntKind.bits IntKind.u64) (IntKind.wrap .u64 (U.int (nth (U.i (0 : Int)) b.list (Int.toNat (IntKind.wrap .i64 (a.int + i.int)))))))) : Int))), .val (.sl false [.int .u8]) b, .val (.int IntKind.i64) a, .val (.int IntKind.i64) n, .val .bool g] []) N then (g.bool = false ∧ byteOk b.list ∧ (0 : Int) ≤ a.int ∧ a.int + n.int ≤ (b.list.length : Int) ∧ b.list.length ≤ (1099511627776 : Nat) ∧ n.int ≤ (4 : Int) ∧ (0 : Int) ≤ IntKind.wrap .i64 (i.int + (1 : Int)) ∧ IntKind.wrap .i64 (i.int + (1 : Int)) ≤ n.int ∧ U.i (IntKind.wrap .u64 (↑(BitVec.toNat (BitVec.ofInt (IntKind.bits IntKind.u64) (IntKind.wrap .u64 (v.int * (2 : Int) ^ min (Int.toNat (8 : Int)) (IntKind.bits IntKind.u64))) ||| BitVec.ofInt (IntKind.bits IntKind.u64) (IntKind.wrap .u64 (U.int (nth (U.i (0 : Int)) b.list (Int.toNat (IntKind.wrap .i64 (a.int + i.int)))))))) : Int)) = U.i (IntKind.wrap .u64 (↑(BitVec.toNat (BitVec.ofInt (IntKind.bits IntKind.u64) (IntKind.wrap .u64 (v.int * (2 : Int) ^ min (Int.toNat (8 : Int)) (IntKind.bits IntKind.u64))) ||| BitVec.ofInt (IntKind.bits IntKind.u64) (IntKind.wrap .u64 (U.int (nth (U.i (0 : Int)) b.list (Int.toNat (IntKind.wrap .i64 (a.int + i.int)))))))) : Int)) ∧ (0 : Int) ≤ IntKind.wrap .u64 (↑(BitVec.toNat (BitVec.ofInt (IntKind.bits IntKind.u64) (IntKind.wrap .u64 (v.int * (2 : Int) ^ min (Int.toNat (8 : Int)) (IntKind.bits IntKind.u64))) ||| BitVec.ofInt (IntKind.bits IntKind.u64) (IntKind.wrap .u64 (U.int (nth (U.i (0 : Int)) b.list (Int.toNat (IntKind.wrap .i64 (a.int + i.int)))))))) : Int) ∧ IntKind.wrap .u64 (↑(BitVec.toNat (BitVec.ofInt (IntKind.bits IntKind.u64) (IntKind.wrap .u64 (v.int * (2 : Int) ^ min (Int.toNat (8 : Int)) (IntKind.bits IntKind.u64))) ||| BitVec.ofInt (IntKind.bits IntKind.u64) (IntKind.wrap .u64 (U.int (nth (U.i (0 : Int)) b.list (Int.toNat (IntKind.wrap .i64 (a.int + i.int)))))))) : Int) < (256 : Int) ^ Int.toNat (IntKind.wrap .i64 (i.int + (1 : Int)))) ∧ k (Ex.exit (nat_lit 0)) (St.mk [(nat_lit 10, .val (.int IntKind.u64) (U.i (IntKind.wrap .u64 (↑(BitVec.toNat (BitVec.ofInt (IntKind.bits IntKind.u64) (IntKind.wrap .u64 (v.int * (2 : Int) ^ min (Int.toNat (8 : Int)) (IntKind.bits IntKind.u64))) ||| BitVec.ofInt (IntKind.bits IntKind.u64) (IntKind.wrap .u64 (U.int (nth (U.i (0 : Int)) b.list (Int.toNat (IntKind.wrap .i64 (a.int + i.int)))))))) : Int) * (256 : Int) ^ Int.toNat (n.int - IntKind.wrap .i64 (i.int + (1 : Int))) + leV (List.take (Int.toNat (n.int - IntKind.wrap .i64 (i.int + (1 : Int)))) (List.drop (Int.toNat a.int) b.list)))))] []) else False else False else k (Ex.exit (nat_lit 0)) (St.mk [(nat_lit 10, .val (.int IntKind.u64) v)] [])) := by kernel_rfl
theorem rget_tree (R : RF) (b a n g : U) : (run rgetC Try.f62 [[b], [a], [n], [g]] R) = (bif decide (U.int n < (1 : Int)) then R [[U.i (0 : Int)], [U.i (1 : Int)]] else bif decide (U.int n > (8 : Int)) then R [[U.i (0 : Int)], [U.i (1 : Int)]] else bif decide (U.int a < (0 : Int)) then R [[U.i
  (0 : Int)], [U.i (6 : Int)]] else bif decide (U.int a > (↑(List.length (U.list b)) : Int)) then R [[U.i (0 : Int)], [U.i (6 : Int)]] else bif decide (IntKind.wrap IntKind.i64 ((↑(List.length (U.list b))
  : Int) - U.int a) < U.int n) then R [[U.i (0 : Int)], [U.i (6 : Int)]] else (U.bool g = false ∧ byteOk (U.list b) ∧ (0 : Int) ≤ U.int a ∧ U.int a + U.int n ≤ (↑(List.length (U.list b)) : Int) ∧ List.length
  (U.list b) ≤ (1099511627776 : Nat) ∧ U.int n ≤ (4 : Int) ∧ (0 : Int) ≤ (0 : Int) ∧ (0 : Int) ≤ U.int n ∧ U.i (0 : Int) = U.i (0 : Int) ∧ (0 : Int) ≤ (0 : Int) ∧ (0 : Int) < (256 : Int) ^ Int.toNat (0 :
  Int)) ∧ R [[U.i ((0 : Int) * (256 : Int) ^ Int.toNat (U.int n - (0 : Int)) + leV (List.take (Int.toNat (U.int n - (0 : Int))) (List.drop (Int.toNat (U.int a)) (U.list b))))], [U.i (0 : Int)]]) := by kernel_rfl
end Go.Mat

namespace Go.Mat
open Go Go.Den Go.Proofs
theorem or_byte {x y : Int} (hx : 0 ≤ x) (hx' : x ≤ 1099511627776) (hy : 0 ≤ y) (hy' : y ≤ 255) :
    IntKind.wrap .u64 (((BitVec.ofInt (IntKind.bits .u64) (IntKind.wrap .u64 (x * 2 ^ min (Int.toNat 8) (IntKind.bits .u64))) ||| BitVec.ofInt (IntKind.bits .u64) (IntKind.wrap .u64 y)).toNat : Nat) : Int) = x * 256 + y := by
  obtain ⟨a, rfl⟩ := Int.eq_ofNat_of_zero_le hx
  obtain ⟨b, rfl⟩ := Int.eq_ofNat_of_zero_le hy
  have e : ((a : Int) * (2 : Int) ^ min (Int.toNat 8) (IntKind.bits .u64)) = ((a <<< 8 : Nat) : Int) := by
    rw [Nat.shiftLeft_eq]; simp [IntKind.bits]
  have ha : a <<< 8 < 18446744073709551616 := by rw [Nat.shiftLeft_eq]; omega
  rw [e, u64_in (x := ((a <<< 8 : Nat) : Int)) (by omega) (by omega), u64_in (x := (b : Int)) (by omega) (by omega)]
  have h1 : (BitVec.ofInt (IntKind.bits .u64) ((a <<< 8 : Nat) : Int) ||| BitVec.ofInt (IntKind.bits .u64) (b : Int)).toNat = a <<< 8 + b := by
    rw [BitVec.toNat_or, BitVec.toNat_ofInt, BitVec.toNat_ofInt]
    have h2 : (((a <<< 8 : Nat) : Int) % ((2 ^ IntKind.bits .u64 : Nat) : Int)).toNat = a <<< 8 := by
      show (((a <<< 8 : Nat) : Int) % 18446744073709551616).toNat = _
      omega
    have h3 : ((b : Int) % ((2 ^ IntKind.bits .u64 : Nat) : Int)).toNat = b := by
      show ((b : Int) % 18446744073709551616).toNat = _
      omega
    rw [h2, h3, Nat.shiftLeft_add_eq_or_of_lt (by omega)]
  rw [h1, u64_in (by omega) (by rw [Nat.shiftLeft_eq]; omega), Nat.shiftLeft_eq]
  omega
theorem p256 {i : Nat} (h : i ≤ 3) : (1 : Int) ≤ 256 ^ i ∧ (256 : Int) ^ i ≤ 16777216 := by
  have : i = 0 ∨ i = 1 ∨ i = 2 ∨ i = 3 := by omega
  rcases this with rfl | rfl | rfl | rfl <;> decide
theorem leV_take : ∀ {l : List U} {m : Nat}, m < l.length → leV (l.take (m + 1)) = leV (l.take m) + (U.at l m).int * 256 ^ m
  | [], _, h => by simp at h
  | u :: r, 0, _ => by simp [leV]
  | u :: r, m + 1, h => by
    rw [List.take_succ_cons, List.take_succ_cons, leV, leV, leV_take (by simpa using h), show U.at (u :: r) (m + 1) = U.at r m from rfl, Int.pow_succ, Int.mul_add, ← Int.add_assoc, Int.mul_comm 256 ((U.at r m).int * 256 ^ m), Int.mul_assoc]
theorem le_step {v y : Int} {l : List U} {m : Nat} (h : m < l.length) (hy : (U.at l m).int = y) : (v * 256 + y) * 256 ^ m + leV (l.take m) = v * 256 ^ (m + 1) + leV (l.take (m + 1)) := by
  rw [leV_take h, hy, Int.pow_succ, Int.add_mul, Int.mul_assoc, Int.mul_comm 256]
  omega
theorem get_loop : LoopOk getC 0 (loopBody Try.f72 0) := by
  refine loopOk_of (F := getLoop) (ts := [31, 30, 12, 10, 2, 3]) (os := []) rfl (fun svs _ => match svs with | .val _ i :: .val _ m :: _ => (m.int - i.int).toNat | _ => 0) ?_
  intro pan svs os k ho1 ho2 h
  unfold getLoop at h
  split at h
  · rename_i i m v rest
    split at h
    · rename_i l n g
      obtain ⟨⟨rfl, hg, hbk, hl, hm4, h0, hi, hvv, hv0, hv⟩, hk⟩ := h
      refine .eq (get_round pan _ _ k i n v l g) ?_
      refine bd (fun hlt => bf hg ?_) (fun hlt => ?_)
      · have hp := p256 (i := i.int.toNat) (by omega)
        have hw : IntKind.wrap .i64 (i.int + 1) = i.int + 1 := i64_in (by omega) (by omega)
        have hw1 : IntKind.wrap .i64 (n.int - 1) = n.int - 1 := i64_in (by omega) (by omega)
        have hw2 : IntKind.wrap .i64 (n.int - 1 - i.int) = n.int - 1 - i.int := i64_in (by omega) (by omega)
        simp only [hw, hw1, hw2]
        have hb := hbk _ (mem_at (L := l.list) (i := (n.int - 1 - i.int).toNat) (by omega))
        simp only [U.at] at hb
        rw [or_byte hv0 (by omega) hb.1 hb.2]
        have hm : (n.int - i.int).toNat = (n.int - 1 - i.int).toNat + 1 := by omega
        have hm' : (n.int - (i.int + 1)).toNat = (n.int - 1 - i.int).toNat := by omega
        have hpw : (i.int + 1).toNat = i.int.toNat + 1 := by omega
        rw [hm, ← le_step (y := (nth (U.i 0) l.list (n.int - 1 - i.int).toNat).int) (by omega) rfl] at hk
        rw [hm', hpw, Int.pow_succ]
        have hlt' : (n.int - (i.int + 1)).toNat < (n.int - i.int).toNat := by omega
        refine dt ⟨by omega, by omega⟩ (blt hlt' ⟨⟨by trivial, hg, hbk, hl, hm4, by omega, by omega, by trivial, by omega, by omega⟩, hk⟩)
      · have hz : (n.int - i.int).toNat = 0 := by omega
        rw [hz] at hk
        simp only [Int.pow_zero, Int.mul_one, List.take_zero, leV, Int.add_zero, ← hvv] at hk
        exact hk
    · exact h.elim
  · exact h.elim
theorem rget_loop : LoopOk rgetC 0 (loopBody Try.f62 0) := by
  refine loopOk_of (F := rgetLoop) (ts := [11, 10, 0, 1, 2, 3]) (os := []) rfl (fun svs _ => match svs with | .val _ i :: _ :: _ :: _ :: .val _ m :: _ => (m.int - i.int).toNat | _ => 0) ?_
  intro pan svs os k ho1 ho2 h
  unfold rgetLoop at h
  split at h
  · rename_i i v rest
    split at h
    · rename_i b a n g
      obtain ⟨⟨hg, hbk, ha0, han, hbl, hm4, h0, hi, hvv, hv0, hv⟩, hk⟩ := h
      refine .eq (rget_round pan _ _ k i v b a n g) ?_
      refine bd (fun hlt => bt (by rw [hg]; rfl) ?_) (fun hlt => ?_)
      · have hp := p256 (i := i.int.toNat) (by omega)
        have hw : IntKind.wrap .i64 (i.int + 1) = i.int + 1 := i64_in (by omega) (by omega)
        have hw1 : IntKind.wrap .i64 (n.int - 1) = n.int - 1 := i64_in (by omega) (by omega)
        have hw2 : IntKind.wrap .i64 (n.int - 1 - i.int) = n.int - 1 - i.int := i64_in (by omega) (by omega)
        have hw3 : IntKind.wrap .i64 (a.int + (n.int - 1 - i.int)) = a.int + (n.int - 1 - i.int) := i64_in (by omega) (by omega)
        simp only [hw, hw1, hw2, hw3]
        have hb := hbk _ (mem_at (L := b.list) (i := (a.int + (n.int - 1 - i.int)).toNat) (by omega))
        simp only [U.at] at hb
        rw [or_byte hv0 (by omega) hb.1 hb.2]
        have hm : (n.int - i.int).toNat = (n.int - 1 - i.int).toNat + 1 := by omega
        have hm' : (n.int - (i.int + 1)).toNat = (n.int - 1 - i.int).toNat := by omega
        have hpw : (i.int + 1).toNat = i.int.toNat + 1 := by omega
        have hat : (U.at (b.list.drop a.int.toNat) (n.int - 1 - i.int).toNat).int = (nth (U.i 0) b.list (a.int + (n.int - 1 - i.int)).toNat).int := by
          simp only [U.at, nth_drop]
          congr 2
          omega
        rw [hm, ← le_step (y := (nth (U.i 0) b.list (a.int + (n.int - 1 - i.int)).toNat).int) (by rw [List.length_drop]; omega) hat] at hk
        rw [hm', hpw, Int.pow_succ]
        have hlt' : (n.int - (i.int + 1)).toNat < (n.int - i.int).toNat := by omega
        refine dt ⟨by omega, by omega⟩ (blt hlt' ⟨⟨hg, hbk, ha0, han, hbl, hm4, by omega, by omega, by trivial, by omega, by omega⟩, hk⟩)
      · have hz : (n.int - i.int).toNat = 0 := by omega
        rw [hz] at hk
        simp only [Int.pow_zero, Int.mul_one, List.take_zero, leV, Int.add_zero, ← hvv] at hk
        exact hk
    · exact h.elim
  · exact h.elim
theorem thereR_iff {b : List U} {a n : Int} : thereR b a n = true ↔ 0 ≤ a ∧ a ≤ b.length ∧ n ≤ b.length - a := by
  unfold thereR
  simp only [Bool.and_eq_true, decide_eq_true_eq, and_assoc]
theorem there_ok : SpecFP PR 80 thereP thereS := fun fn us hfn hpre => by
  have hf : PR.funcs[(80 : Nat)]? = some Try.f80 := by kernel_rfl
  rw [hf] at hfn; cases hfn
  refine fn_okH (C := K0) (mkC_ok eqs0_ok mixed_ok .nil .nil) hf (by kernel_rfl) (loops_none (by kernel_rfl)) fun hok => ?_
  have hp : Try.f80.params.toList = [32, 3, 3] := by kernel_rfl
  rw [hp] at hok
  obtain ⟨b, a, n, hus⟩ : ∃ b a n, us = [[b], [a], [n]] := by
    obtain ⟨u, u2, u3, rfl, h1, h2, h3⟩ := shape3 (by kernel_rfl : Cs PR 32 = some (false, [.sl false [.int .u8]])) (by kernel_rfl : Cs PR 3 = some (false, [.int .i64])) (by kernel_rfl : Cs PR 3 = some (false, [.int .i64])) hok.1
    obtain ⟨b, rfl⟩ := len1 h1
    obtain ⟨a, rfl⟩ := len1 h2
    obtain ⟨n, rfl⟩ := len1 h3
    exact ⟨b, a, n, rfl⟩
  subst hus
  refine .eq (there_tree _ b a n) ?_
  unfold thereP at hpre
  unfold thereS
  simp only [nth_zero, nth_succ] at hpre ⊢
  obtain ⟨hn0, hn1, hb⟩ := hpre
  have bad : ¬ (0 ≤ a.int ∧ a.int ≤ b.list.length ∧ n.int ≤ b.list.length - a.int) → ([[U.l []], [U.b false]] : List (List U)) = [[.l (bif thereR b.list a.int n.int then sub b.list a.int n.int else [])], [.b (thereR b.list a.int n.int)]] := fun h => by
    rw [show thereR b.list a.int n.int = false from Bool.eq_false_iff.2 fun h' => h (thereR_iff.1 h')]; rfl
  refine bd (fun h => bad (by omega)) (fun h1 => bd (fun h => bad (by omega)) (fun h2 => ?_))
  rw [i64_in (x := (b.list.length : Int) - a.int) (by omega) (by omega)]
  refine bd (fun h => bad (by omega)) (fun h3 => ?_)
  rw [i64_in (x := a.int + n.int) (by omega) (by omega)]
  refine broom ⟨by omega, by omega, by omega, by omega⟩ rfl ?_
  rw [show thereR b.list a.int n.int = true from thereR_iff.2 ⟨by omega, by omega, by omega⟩]
  rfl
theorem sub_len {b : List U} {a n : Int} (h : thereR b a n = true) (hn : 0 ≤ n) : ((sub b a n).length : Int) = n := by
  rw [thereR_iff] at h
  unfold sub
  rw [List.length_drop, List.length_take]
  omega
theorem sub_eq {b : List U} {a n : Int} (h : thereR b a n = true) (hn : 0 ≤ n) : sub b a n = (b.drop a.toNat).take n.toNat := by
  rw [thereR_iff] at h
  unfold sub
  rw [List.drop_take]
  congr 1
  omega
theorem sub_bytes {b : List U} (a n : Int) (h : byteOk b) : byteOk (sub b a n) := fun u hu => h u (List.mem_of_mem_take (List.mem_of_mem_drop hu))
theorem bytes_ok {b : U} (h : okC (.sl false [.int .u8]) b) : byteOk b.list := fun u hu => by
  obtain ⟨i, hi, rfl⟩ := List.getElem_of_mem hu
  have h1 := (h.2 i hi).1
  simp only [elemU_false, U.at, nth_zero] at h1
  have e1 : nth (U.i 0) b.list i = b.list[i] := at_getElem _ _ hi
  rw [e1] at h1
  exact h1
theorem get_ok : SpecFP PR 72 getP getS := fun fn us hfn hpre => by
  have hf : PR.funcs[(72 : Nat)]? = some Try.f72 := by kernel_rfl
  rw [hf] at hfn; cases hfn
  refine fn_okH (C := getC) (mkC_ok eqs0_ok mixed_ok (.consP there_ok .nil) .nil) hf (by kernel_rfl) (loops_one (by kernel_rfl) get_loop) fun hok => ?_
  have hp : Try.f72.params.toList = [32, 3, 3, 4] := by kernel_rfl
  rw [hp] at hok
  obtain ⟨b, a, n, g, hus⟩ : ∃ b a n g, us = [[b], [a], [n], [g]] := by
    obtain ⟨u, u2, u3, u4, rfl, h1, h2, h3, h4⟩ := shape4 (by kernel_rfl : Cs PR 32 = some (false, [.sl false [.int .u8]])) (by kernel_rfl : Cs PR 3 = some (false, [.int .i64])) (by kernel_rfl : Cs PR 3 = some (false, [.int .i64])) (by kernel_rfl : Cs PR 4 = some (false, [.bool])) hok.1
    obtain ⟨b, rfl⟩ := len1 h1
    obtain ⟨a, rfl⟩ := len1 h2
    obtain ⟨n, rfl⟩ := len1 h3
    obtain ⟨g, rfl⟩ := len1 h4
    exact ⟨b, a, n, g, rfl⟩
  subst hus
  have hbk : byteOk b.list := bytes_ok (hok.2 [vl (.int .u8) b, vi a, vi n, vb g] (by kernel_rfl)).1
  refine .eq (get_tree _ b a n g) ?_
  unfold getP at hpre
  unfold getS getN getE
  simp only [nth_zero, nth_succ] at hpre ⊢
  obtain ⟨hn1, hn4, hg, hb⟩ := hpre
  refine df (by omega) (df (by omega) ⟨⟨by show 0 ≤ n.int; omega, by show n.int ≤ _; omega, hb⟩, bi (fun h => ?_) (fun h => ?_)⟩)
  · rw [nt h]; rfl
  · have h := nf h
    rw [h]
    have hl := sub_len h (by omega)
    refine ⟨⟨by trivial, hg, sub_bytes _ _ hbk, hl, by omega, by trivial, by omega, by trivial, by trivial, by simp⟩, ?_⟩
    rw [cond_true, cond_true, Int.zero_mul, Int.zero_add, Int.sub_zero, List.take_of_length_le (by omega)]
    rfl
theorem rget_ok : SpecFP PR 62 getP getS := fun fn us hfn hpre => by
  have hf : PR.funcs[(62 : Nat)]? = some Try.f62 := by kernel_rfl
  rw [hf] at hfn; cases hfn
  refine fn_okH (C := rgetC) (mkC_ok eqs0_ok mixed_ok .nil .nil) hf (by kernel_rfl) (loops_one (by kernel_rfl) rget_loop) fun hok => ?_
  have hp : Try.f62.params.toList = [32, 3, 3, 4] := by kernel_rfl
  rw [hp] at hok
  obtain ⟨b, a, n, g, hus⟩ : ∃ b a n g, us = [[b], [a], [n], [g]] := by
    obtain ⟨u, u2, u3, u4, rfl, h1, h2, h3, h4⟩ := shape4 (by kernel_rfl : Cs PR 32 = some (false, [.sl false [.int .u8]])) (by kernel_rfl : Cs PR 3 = some (false, [.int .i64])) (by kernel_rfl : Cs PR 3 = some (false, [.int .i64])) (by kernel_rfl : Cs PR 4 = some (false, [.bool])) hok.1
    obtain ⟨b, rfl⟩ := len1 h1
    obtain ⟨a, rfl⟩ := len1 h2
    obtain ⟨n, rfl⟩ := len1 h3
    obtain ⟨g, rfl⟩ := len1 h4
    exact ⟨b, a, n, g, rfl⟩
  subst hus
  have hbk : byteOk b.list := bytes_ok (hok.2 [vl (.int .u8) b, vi a, vi n, vb g] (by kernel_rfl)).1
  refine .eq (rget_tree _ b a n g) ?_
  unfold getP at hpre
  unfold getS getN getE
  simp only [nth_zero, nth_succ] at hpre ⊢
  obtain ⟨hn1, hn4, hg, hb⟩ := hpre
  have bad : ¬ (0 ≤ a.int ∧ a.int ≤ b.list.length ∧ n.int ≤ b.list.length - a.int) → ([[U.i 0], [U.i 6]] : List (List U)) = [[.i (bif thereR b.list a.int n.int then leV (sub b.list a.int n.int) else 0)], [.i (bif thereR b.list a.int n.int then 0 else 6)]] := fun h => by
    rw [show thereR b.list a.int n.int = false from Bool.eq_false_iff.2 fun h' => h (thereR_iff.1 h')]; rfl
  refine df (by omega) (df (by omega) (bd (fun h => bad (by omega)) (fun h1 => bd (fun h => bad (by omega)) (fun h2 => ?_))))
  rw [i64_in (x := (b.list.length : Int) - a.int) (by omega) (by omega)]
  refine bd (fun h => bad (by omega)) (fun h3 => ?_)
  have h : thereR b.list a.int n.int = true := thereR_iff.2 ⟨by omega, by omega, by omega⟩
  rw [h, sub_eq h (by omega)]
  refine ⟨⟨hg, hbk, by omega, by omega, hb, by omega, by trivial, by omega, by trivial, by trivial, by simp⟩, ?_⟩
  rw [Int.zero_mul, Int.zero_add, Int.sub_zero]
  rfl
end Go.Mat
