/- A part of the proof of this: Counts that are one take four bytes for each 65535 of them, are read back, and more or greater ones are refused. Conditions: none. Joined of F2, F3, B4, F4, B5, F5, B6, F7, B8, B9, F9, B10, F10, B11, F11, F12, B13, F13, B14, F14, B15, F15, B16, F16, B17, F17, F19, F20, B22, F22. -/
import Derived.Test.YtmgncojckndckaaC2
import Derived.KernelRfl
import Derived.Laws.LoneSync
namespace Go.Mat
open Go Go.Den Go.Proofs
theorem ubi {x y : Bool} (h : x = true ↔ y = true) : ([[U.b x]] : List (List U)) = [[.b y]] := by rw [Bool.eq_iff_iff.2 h]
theorem spanMay_ok : SpecF PR 67 spanMayS := fun fn us hfn => by
  have hf : PR.funcs[(67 : Nat)]? = some Try.f67 := by kernel_rfl
  rw [hf] at hfn; cases hfn
  refine fn_okH (C := K0) (mkC_ok eqs0_ok mixed_ok .nil .nil) hf (by kernel_rfl) (loops_none (by kernel_rfl)) fun hok => ?_
  have hp : Try.f67.params.toList = [72] := by kernel_rfl
  rw [hp] at hok
  obtain ⟨a, b, hus⟩ : ∃ a b, us = [[a, b]] := by
    obtain ⟨u, rfl, h1⟩ := shape1 (by kernel_rfl : Cs PR 72 = some (true, [.int .i64, .int .i64])) hok.1
    obtain ⟨a, b, rfl⟩ := len2 h1
    exact ⟨a, b, rfl⟩
  subst hus
  refine .eq (spanMay_tree _ _ _) ?_
  unfold spanMayS
  simp only [nth_zero, nth_succ]
  repeat' (first | refine bd (fun _ => ?_) (fun _ => ?_) | refine bi (fun _ => ?_) (fun _ => ?_))
  all_goals (first | (refine ubi ?_; simp [spanMay]; omega) | (refine ubi ?_; simp_all [spanMay]; done) | (refine ubi ?_; simp_all [spanMay]; omega))
theorem place_ok : SpecF PR 77 placeS := fun fn us hfn => by
  have hf : PR.funcs[(77 : Nat)]? = some Try.f77 := by kernel_rfl
  rw [hf] at hfn; cases hfn
  refine fn_okH (C := K0) (mkC_ok eqs0_ok mixed_ok .nil .nil) hf (by kernel_rfl) (loops_none (by kernel_rfl)) fun hok => ?_
  have hp : Try.f77.params.toList = [54] := by kernel_rfl
  rw [hp] at hok
  obtain ⟨a, b, c, d, e, hus⟩ : ∃ a b c d e, us = [[a, b, c, d, e]] := by
    obtain ⟨u, rfl, h1⟩ := shape1 (by kernel_rfl : Cs PR 54 = some (true, [.int .i64, .int .i64, .int .i64, .int .i64, .int .u32])) hok.1
    obtain ⟨a, b, c, d, e, rfl⟩ := len5 h1
    exact ⟨a, b, c, d, e, rfl⟩
  subst hus
  refine .eq (place_tree _ _ _ _ _ _) ?_
  unfold placeS
  simp only [nth_zero, nth_succ]
  have hw : 2 ≤ b.int → b.int ≤ 65536 → IntKind.wrap .i64 (65536 - b.int) = 65536 - b.int := fun h h' => i64_in (by omega) (by omega)
  repeat' (first | refine bd (fun _ => ?_) (fun _ => ?_) | refine bi (fun _ => ?_) (fun _ => ?_))
  all_goals (first | (rw [hw (by omega) (by omega)]; refine ubi ?_; simp [placeR]; omega) | (refine ubi ?_; simp [placeR]; omega))
theorem none_ok : SpecF PR 66 noneS := fun fn us hfn => by
  have hf : PR.funcs[(66 : Nat)]? = some Try.f66 := by kernel_rfl
  rw [hf] at hfn; cases hfn
  refine fn_okH (C := K0) (mkC_ok eqs0_ok mixed_ok .nil .nil) hf (by kernel_rfl) (loops_none (by kernel_rfl)) fun hok => ?_
  have hp : Try.f66.params.toList = [54] := by kernel_rfl
  rw [hp] at hok
  obtain ⟨a, b, c, d, e, hus⟩ : ∃ a b c d e, us = [[a, b, c, d, e]] := by
    obtain ⟨u, rfl, h1⟩ := shape1 (by kernel_rfl : Cs PR 54 = some (true, [.int .i64, .int .i64, .int .i64, .int .i64, .int .u32])) hok.1
    obtain ⟨a, b, c, d, e, rfl⟩ := len5 h1
    exact ⟨a, b, c, d, e, rfl⟩
  subst hus
  refine .eq (none_tree _ _ _ _ _ _) ?_
  unfold noneS
  simp only [nth_zero, nth_succ]
  refine ubi ?_; simp [noneR]
theorem may_ok : SpecF PR 65 mayS := fun fn us hfn => by
  have hf : PR.funcs[(65 : Nat)]? = some Try.f65 := by kernel_rfl
  rw [hf] at hfn; cases hfn
  refine fn_okH (C := mayC) (mkC_ok eqs0_ok mixed_ok (.cons place_ok .nil) .nil) hf (by kernel_rfl) (loops_none (by kernel_rfl)) fun hok => ?_
  have hp : Try.f65.params.toList = [54, 3] := by kernel_rfl
  rw [hp] at hok
  obtain ⟨a, b, c, d, e, k, hus⟩ : ∃ a b c d e k, us = [[a, b, c, d, e], [k]] := by
    obtain ⟨u, u2, rfl, h1, h2⟩ := shape2 (by kernel_rfl : Cs PR 54 = some (true, [.int .i64, .int .i64, .int .i64, .int .i64, .int .u32])) (by kernel_rfl : Cs PR 3 = some (false, [.int .i64])) hok.1
    obtain ⟨a, b, c, d, e, rfl⟩ := len5 h1
    obtain ⟨k, rfl⟩ := len1 h2
    exact ⟨a, b, c, d, e, k, rfl⟩
  subst hus
  refine .eq (may_tree _ _ _ _ _ _ _) ?_
  unfold mayS
  simp only [nth_zero, nth_succ]
  by_cases hk0 : k.int < 0
  · exact dt hk0 (by simp [mayR, hk0])
  refine df hk0 ?_
  by_cases hk6 : k.int > 6
  · exact dt hk6 (by simp [mayR, show 6 < k.int from hk6])
  refine df hk6 (df hk0 ?_)
  have hs := shl_one (c := k.int) (by omega) (by omega)
  have hp := pow_le (c := k.int) (by omega) (by omega)
  rw [hs]
  have hc : ¬ (k.int < 0 ∨ 6 < k.int) := by omega
  rw [mayR, if_neg hc]
  generalize (2 : Int) ^ k.int.toNat = p at hp hs ⊢
  by_cases ha0 : a.int = 0
  · refine bt (by simp [ha0]) ?_
    refine ubi ?_; simp [ha0]
  refine bf (by simp [ha0]) ?_
  by_cases ha1 : a.int = 1
  · refine bt (by simp [ha1]) ?_
    refine ubi ?_; simp [ha1]
  refine bf (by simp [ha1]) ?_
  rw [if_neg (by omega)]
  by_cases ha2 : a.int = 2
  · refine bt (by simp [ha2]) ?_
    rw [if_pos ha2]
    refine bi (fun h => bi (fun h' => ?_) (fun h' => ?_)) (fun h => ?_)
    all_goals (simp at h; simp_all)
  refine bf (by simp [ha2]) ?_
  rw [if_neg ha2]
  by_cases ha3 : a.int = 3
  · refine bt (by simp [ha3]) ?_
    rw [if_pos ha3]
    by_cases h1 : c.int ≥ 1
    · refine dt h1 ?_
      by_cases h2 : c.int < p
      · refine dt h2 ?_
        rw [i64_in (x := c.int - 1) (by omega) (by omega), i64_in (x := (c.int - 1) * 16) (by omega) (by omega), i64_in (x := c.int * 16) (by omega) (by omega)]
        refine bd (fun h3 => bd (fun h4 => bd (fun h5 => ?_) (fun h5 => ?_)) (fun h4 => ?_)) (fun h3 => ?_)
        · have : decide (1 ≤ c.int ∧ c.int < p ∧ 1 ≤ d.int ∧ (c.int - 1) * 16 < d.int ∧ d.int ≤ c.int * 16) = true := by simp; omega
          rw [this]; rfl
        all_goals
          have : decide (1 ≤ c.int ∧ c.int < p ∧ 1 ≤ d.int ∧ (c.int - 1) * 16 < d.int ∧ d.int ≤ c.int * 16) = false := by simp; omega
          rw [this]; rfl
      · refine df h2 ?_
        simp [h2]
    · refine df h1 ?_
      simp [show ¬ 1 ≤ c.int from h1]
  refine bf (by simp [ha3]) ?_
  simp [ha3]
theorem spans_loop : LoopOk spansC 0 (loopBody Try.f47 0) := by
  refine loopOk_of (F := spansLoop) (ts := [8, 7, 6, 3]) (os := []) rfl (fun svs _ => match svs with | .val _ i :: .val _ m :: _ => (m.int - i.int).toNat | _ => 0) ?_
  intro pan svs l k ho1 ho2 h
  unfold spansLoop at h
  split at h
  · rename_i i m L last
    obtain ⟨⟨hm, h0, hi⟩, hk⟩ := h
    have hL : L.list.length ≤ maxLen := ho1.2.2.1.1
    refine .eq (spans_round pan _ _ k i m L last) ?_
    simp only [nth_tail]
    refine bd (fun hlt => dt ⟨h0, by omega⟩ ?_) (fun hlt => ?_)
    · rw [drop_at (by omega), spansR] at hk
      simp only [U.at, e0, e1] at hk
      have hw : IntKind.wrap .i64 (i.int + 1) = i.int + 1 := i64_in (by omega) (by unfold maxLen at hL; omega)
      have hn : (i.int + 1).toNat = i.int.toNat + 1 := by omega
      simp only [hw, hn]
      refine bi (fun h1 => ?_) (fun h1 => bd (fun h2 => ?_) (fun h2 => blt (by simp; omega) ⟨⟨hm, by omega, by omega⟩, ?_⟩))
      · rw [nt h1] at hk; exact hk
      · rw [nf h1, decide_eq_false (by omega)] at hk; exact hk
      · rw [nf h1, decide_eq_true (by omega)] at hk; exact hk
    · rw [List.drop_of_length_le (by omega)] at hk; exact hk
  · exact h.elim
theorem spans_ok : SpecF PR 47 spansS := fun fn us hfn => by
  have hf : PR.funcs[(47 : Nat)]? = some Try.f47 := by kernel_rfl
  rw [hf] at hfn; cases hfn
  refine fn_okH (C := spansC) (mkC_ok eqs0_ok mixed_ok (.cons spanMay_ok .nil) .nil) hf (by kernel_rfl) (loops_one (by kernel_rfl) spans_loop) fun hok => ?_
  have hp : Try.f47.params.toList = [42] := by kernel_rfl
  rw [hp] at hok
  obtain ⟨L, hus⟩ : ∃ L, us = [[L]] := by
    obtain ⟨u, rfl, h1⟩ := shape1 (by kernel_rfl : Cs PR 42 = some (false, [.sl true [.int .i64, .int .i64]])) hok.1
    obtain ⟨L, rfl⟩ := len1 h1
    exact ⟨L, rfl⟩
  subst hus
  refine .eq (spans_tree _ _) ?_
  unfold spansS
  simp only [nth_zero, nth_succ]
  refine ⟨⟨by trivial, by omega, by omega⟩, ?_⟩
  simp only [Int.toNat_zero, List.drop_zero]
  refine bi (fun h => ?_) (fun h => ?_) <;> rw [h]
theorem letters_at {l : List UInt8} {i : Nat} (h : i < l.length) : lettersR (l.drop i) = (letterR ((l.getD i 0).toNat : Int) && lettersR (l.drop (i + 1))) := by
  rw [List.drop_eq_getElem_cons h, List.getD_eq_getElem?_getD, List.getElem?_eq_getElem h]
  rfl
theorem name_loop : LoopOk nameC 0 (loopBody Try.f45 0) := by
  refine loopOk_of (F := nameLoop) (ts := [14, 13, 0]) (os := []) rfl (fun svs _ => match svs with | .val _ i :: .val _ m :: _ => (m.int - i.int).toNat | _ => 0) ?_
  intro pan svs l k ho1 ho2 h
  unfold nameLoop at h
  split at h
  · rename_i i m s
    obtain ⟨⟨hm, h0, hi⟩, hk⟩ := h
    have hL : s.str.size ≤ maxLen := ho1.2.2.1
    have hsz : s.str.data.toList.length = s.str.size := str_len _
    refine .eq (name_round pan _ _ k i m s) ?_
    refine bd (fun hlt => dt ⟨h0, by omega⟩ ?_) (fun hlt => ?_)
    · rw [letters_at (by omega)] at hk
      have hw : IntKind.wrap .i64 (i.int + 1) = i.int + 1 := i64_in (by omega) (by unfold maxLen at hL; omega)
      have hn : (i.int + 1).toNat = i.int.toNat + 1 := by omega
      simp only [hw, hn]
      generalize hc : (((s.str.data.toList.getD i.int.toNat 0).toNat : Nat) : Int) = c at hk ⊢
      have hlt' : (m.int - (i.int + 1)).toNat < (m.int - i.int).toNat := by omega
      have good : letterR c = true → (bif lettersR (s.str.data.toList.drop (i.int.toNat + 1)) then k (.exit 0) ⟨[(2, .unk)], []⟩ else k .ret ⟨[(2, vb (.b false))], []⟩) := fun h => by rw [h, Bool.true_and] at hk; exact hk
      have bad : letterR c = false → k .ret ⟨[(2, vb (.b false))], []⟩ := fun h => by rw [h, Bool.false_and] at hk; exact hk
      clear hk
      repeat' (first | exact blt hlt' ⟨⟨by assumption, by omega, by omega⟩, good (by simp_all [letterR] <;> omega)⟩ | refine bd (fun _ => ?_) (fun _ => ?_) | refine bi (fun _ => ?_) (fun _ => ?_))
      all_goals exact bad (by simp_all [letterR] <;> omega)
    · rw [List.drop_of_length_le (by omega)] at hk; exact hk
  · exact h.elim
theorem name_ok : SpecF PR 45 nameS := fun fn us hfn => by
  have hf : PR.funcs[(45 : Nat)]? = some Try.f45 := by kernel_rfl
  rw [hf] at hfn; cases hfn
  refine fn_okH (C := nameC) (mkC_ok eqs0_ok mixed_ok .nil .nil) hf (by kernel_rfl) (loops_one (by kernel_rfl) name_loop) fun hok => ?_
  have hp : Try.f45.params.toList = [9] := by kernel_rfl
  rw [hp] at hok
  obtain ⟨s, hus⟩ : ∃ s, us = [[s]] := by
    obtain ⟨u, rfl, h1⟩ := shape1 (by kernel_rfl : Cs PR 9 = some (false, [.str])) hok.1
    obtain ⟨s, rfl⟩ := len1 h1
    exact ⟨s, rfl⟩
  subst hus
  refine .eq (name_tree _ _) ?_
  unfold nameS
  simp only [nth_zero, nth_succ]
  have e1 : (ByteArray.toList s.str == ByteArray.toList { data := #[] }) = (s.str.data.toList == []) := by rw [ByteArray.toList_eq, ByteArray.toList_eq]
  have e2 : (s.str.size : Int) = s.str.data.toList.length := by rw [str_len]
  rw [e1]
  refine bi (fun h => ?_) (fun h => ?_)
  · rw [nameR, h]; rfl
  · refine bd (fun h2 => ?_) (fun h2 => ?_)
    · rw [nameR, h, decide_eq_false (by omega)]; rfl
    · refine ⟨⟨by trivial, by omega, by omega⟩, ?_⟩
      simp only [Int.toNat_zero, List.drop_zero]
      refine bi (fun h3 => ?_) (fun h3 => ?_) <;> (rw [nameR, h, decide_eq_true (by omega), h3]; rfl)
end Go.Mat

namespace Go.Mat
open Go Go.Den Go.Proofs
theorem someR_cons (x : U) (r : List U) : someR (x :: r) = (!noneR (e0 x).int (e1 x).int (e2 x).int (e3 x).int (e4 x).int || someR r) := rfl
theorem tab_loop2 : LoopOk tabC 2 (loopBody Try.f46 1) := by
  refine loopOk_of (F := tabLoop2) (ts := [50, 49, 48, 9, 7, 1, 2, 29, 28, 27, 3]) (os := [384]) rfl (fun svs _ => match svs with | .val _ i :: .val _ m :: _ => (m.int - i.int).toNat | _ => 0) ?_
  intro pan svs os k ho1 ho2 h
  unfold tabLoop2 at h
  split at h
  · rename_i kk m ec l s rest
    split at h
    · rename_i i n c p1 p2 ec1 p3 pp po ec2 L
      obtain ⟨⟨rfl, rfl, rfl, rfl, rfl, hs, hm, h0, hi⟩, hk⟩ := h
      have hL : l.list.length ≤ maxLen := ho1.2.2.1.1
      refine .eq (tab_round2 pan _ _ k kk m l s i n c p1 p2 p3 L) ?_
      simp only [nth_tail, Nat.zero_add, Nat.reduceAdd]
      refine bd (fun hlt => dt ⟨h0, by omega⟩ ?_) (fun hlt => ?_)
      · rw [drop_at (by omega), entsR, someR_cons] at hk
        simp only [entOk, U.at, e0, e1, e2, e3, e4] at hk
        have hw : IntKind.wrap .i64 (kk.int + 1) = kk.int + 1 := i64_in (by omega) (by unfold maxLen at hL; omega)
        have hn : (kk.int + 1).toNat = kk.int.toNat + 1 := by omega
        simp only [hw, hn]
        have hlt' : (m.int - (kk.int + 1)).toNat < (m.int - kk.int).toNat := by omega
        refine bi (fun h1 => ?_) (fun h1 => ?_)
        · rw [nt h1] at hk; exact hk
        · rw [nf h1] at hk
          refine bi (fun h2 => bd (fun h3 => ?_) (fun h3 => ?_)) (fun h2 => ?_)
          · rw [nt h2, decide_eq_false (by omega)] at hk; exact hk
          · rw [nt h2, decide_eq_true (by omega)] at hk
            refine bi (fun h4 => ?_) (fun h4 => ?_)
            · rw [h4] at hk
              exact blt hlt' ⟨⟨by trivial, by trivial, by trivial, by trivial, by trivial, by trivial, hm, by omega, by omega⟩, hk⟩
            · rw [h4] at hk
              refine blt hlt' ⟨⟨by trivial, by trivial, by trivial, by trivial, by trivial, by trivial, hm, by omega, by omega⟩, ?_⟩
              simpa [nt h2] using hk
          · rw [nf h2] at hk
            refine bi (fun h4 => ?_) (fun h4 => ?_)
            · rw [h4] at hk
              exact blt hlt' ⟨⟨by trivial, by trivial, by trivial, by trivial, by trivial, by trivial, hm, by omega, by omega⟩, hk⟩
            · rw [h4] at hk
              refine blt hlt' ⟨⟨by trivial, by trivial, by trivial, by trivial, by trivial, by trivial, hm, by omega, by omega⟩, ?_⟩
              simpa [nf h2] using hk
      · rw [List.drop_of_length_le (by omega)] at hk
        rw [hs]
        simpa [entsR, someR] using hk
    · exact h.elim
  · exact h.elim
theorem tab_loop0 : LoopOk tabC 0 (loopBody Try.f46 0) := by
  refine loopOk_of (F := tabLoop0) (ts := [29, 28, 27, 3, 1, 2]) (os := [384]) rfl (fun svs _ => match svs with | .val _ i :: .val _ m :: _ => (m.int - i.int).toNat | _ => 0) ?_
  intro pan svs os k ho1 ho2 h
  unfold tabLoop0 at h
  split at h
  · rename_i i m ec L pp po n c ec' L'
    obtain ⟨⟨rfl, rfl, rfl, rfl, rfl, hm, h0, hi⟩, hk⟩ := h
    have hL : L'.list.length ≤ maxLen := ho1.2.2.1.1
    refine .eq (tab_round0 pan _ _ k i m L' n c) ?_
    refine bd (fun hlt => dt ⟨h0, by omega⟩ ?_) (fun hlt => ?_)
    · rw [drop_at (by omega), leavesR] at hk
      simp only [U.at] at hk
      have hw : IntKind.wrap .i64 (i.int + 1) = i.int + 1 := i64_in (by omega) (by unfold maxLen at hL; omega)
      have hw1 : IntKind.wrap .i64 ((L'.list.length : Int) - 1) = (L'.list.length : Int) - 1 := i64_in (by omega) (by unfold maxLen at hL; omega)
      have hn : (i.int + 1).toNat = i.int.toNat + 1 := by omega
      have hlt' : (m.int - (i.int + 1)).toNat < (m.int - i.int).toNat := by omega
      have hdr : L'.list.drop (i.int.toNat + 1) = [] ↔ ¬ i.int < (L'.list.length : Int) - 1 := by rw [List.drop_eq_nil_iff]; omega
      simp only [hw, hw1, hn, Int.toNat_zero, List.drop_zero, Bool.false_or]
      generalize (nth (U.i 0) L'.list i.int.toNat).list = l at hk ⊢
      have full : (bif (leafR n.int c.int i.int l && leavesR n.int c.int (i.int + 1) (L'.list.drop (i.int.toNat + 1))) then k (.exit 0) ⟨[(6, .unk)], []⟩ else k .ret ⟨[(6, vb (.b false))], []⟩) →
          (bif (l.length : Int) != 8 then k .ret ⟨[(6, vb (.b false))], []⟩ else
            ((384 : Nat) = 384 ∧ (0 : Nat) = 0 ∧ EC = EC ∧ EC = EC ∧ EC = EC ∧ U.b false = U.b (U.b false).bool ∧ (l.length : Int) = (l.length : Int) ∧ (0 : Int) ≤ 0 ∧ (0 : Int) ≤ (l.length : Int)) ∧
            bif entsR n.int c.int i.int 0 l then
              bif !someR l then k .ret ⟨[(6, vb (.b false))], []⟩ else
                bif Nat.blt (m.int - (i.int + 1)).toNat (m.int - i.int).toNat then
                  ((384 : Nat) = 384 ∧ (0 : Nat) = 0 ∧ EC = EC ∧ EC = EC ∧ L' = L' ∧ m.int = (L'.list.length : Int) ∧ 0 ≤ i.int + 1 ∧ i.int + 1 ≤ m.int) ∧
                  bif leavesR n.int c.int (i.int + 1) (L'.list.drop (i.int.toNat + 1)) then k (.exit 0) ⟨[(6, .unk)], []⟩ else k .ret ⟨[(6, vb (.b false))], []⟩
                else False
            else k .ret ⟨[(6, vb (.b false))], []⟩) := by
        intro hk
        unfold leafR at hk
        refine bi (fun h2 => ?_) (fun h2 => ?_)
        · rw [decide_eq_false (by simp at h2; omega)] at hk; exact hk
        · rw [decide_eq_true (by simp at h2; omega)] at hk
          refine ⟨⟨rfl, rfl, rfl, rfl, rfl, rfl, rfl, by omega, by omega⟩, bi (fun h3 => bi (fun h4 => ?_) (fun h4 => blt hlt' ⟨⟨rfl, rfl, rfl, rfl, rfl, hm, by omega, by omega⟩, ?_⟩)) (fun h3 => ?_)⟩
          · rw [h3, nt h4] at hk; exact hk
          · rw [h3, nf h4] at hk; exact hk
          · rw [h3] at hk; exact hk
      refine bi (fun h1 => ?_) (fun h1 => ?_)
      · have hl0 : l = [] := by simpa using h1
        refine bd (fun h2 => blt hlt' ⟨⟨by trivial, by trivial, by trivial, by trivial, by trivial, hm, by omega, by omega⟩, ?_⟩) (fun h2 => ?_)
        · rw [if_pos ⟨hl0, fun h => (hdr.1 h) h2⟩] at hk; exact hk
        · rw [if_neg (fun h => h.2 (hdr.2 h2))] at hk
          simpa using full hk
      · have hl0 : l ≠ [] := by simpa using h1
        rw [if_neg (fun h => hl0 h.1)] at hk
        simpa using full hk
    · rw [List.drop_of_length_le (by omega)] at hk
      exact hk
  · exact h.elim
theorem tab_ok : SpecF PR 46 tableS := fun fn us hfn => by
  have hf : PR.funcs[(46 : Nat)]? = some Try.f46 := by kernel_rfl
  rw [hf] at hfn; cases hfn
  refine fn_okH (C := tabC) (mkC_ok eqs0_ok mixed_ok (.cons may_ok (.cons none_ok .nil)) .nil) hf (by kernel_rfl) (loops_two (by kernel_rfl) tab_loop0 tab_loop2) fun hok => ?_
  have hp : Try.f46.params.toList = [24, 3, 3] := by kernel_rfl
  rw [hp] at hok
  obtain ⟨L, n, c, hus⟩ : ∃ L n c, us = [[L], [n], [c]] := by
    obtain ⟨u, u2, u3, rfl, h1, h2, h3⟩ := shape3 (by kernel_rfl : Cs PR 24 = some (true, [.sl false [.sl true EC]])) (by kernel_rfl : Cs PR 3 = some (false, [.int .i64])) (by kernel_rfl : Cs PR 3 = some (false, [.int .i64])) hok.1
    obtain ⟨L, rfl⟩ := len1 h1
    obtain ⟨n, rfl⟩ := len1 h2
    obtain ⟨c, rfl⟩ := len1 h3
    exact ⟨L, n, c, rfl⟩
  subst hus
  refine .eq (tab_tree _ _ _ _) ?_
  unfold tableS
  simp only [nth_zero, nth_succ]
  refine bd (fun h => by rw [tableR, if_pos (.inl h)]) (fun h => bd (fun h2 => by rw [tableR, if_pos (.inr (.inl h2))]) (fun h2 => bd (fun h3 => by rw [tableR, if_pos (.inr (.inr (.inl h3)))]) (fun h3 => bd (fun h4 => by rw [tableR, if_pos (.inr (.inr (.inr h4)))]) (fun h4 => ?_))))
  rw [tableR, if_neg (by omega)]
  refine ⟨⟨by trivial, by trivial, by trivial, by trivial, by trivial, by trivial, by omega, by omega⟩, ?_⟩
  simp only [Int.toNat_zero, List.drop_zero]
  refine bi (fun h => ?_) (fun h => ?_) <;> rw [h]
end Go.Mat

namespace Go.Mat
open Go Go.Den Go.Proofs
def sizeS : List (List U) → List (List U) := fun us => [[.b (sizeR (nth (.i 0) (nth [] us 0) 0).int (nth (.i 0) (nth [] us 1) 0).int)]]
def sizeP : List (List U) → Prop := fun us => 0 ≤ (nth (.i 0) (nth [] us 1) 0).int ∧ (nth (.i 0) (nth [] us 1) 0).int ≤ 6
def unlikeR : List (U × U) → List U → Bool
  | _, [] => true
  | es, x :: r => !mhas .str x es && nameR x.str && unlikeR (mput .str x (.i 1) es) r
def unlikeS : List (List U) → List (List U) := fun us => [[.b (unlikeR [] (nth (.i 0) (nth [] us 0) 0).list)]]
noncomputable def unlikeLoop : LoopF := fun _ svs os k => match svs, os with
  | [.val (.int .i64) i, .val (.int .i64) n, .val (.sl false [.str]) L, .mp id], [.map t es] =>
    (id = 768 ∧ t = 111 ∧ n.int = (L.list.length : Int) ∧ 0 ≤ i.int ∧ i.int ≤ n.int ∧ (∀ e ∈ es, e.2 = .i 1)) ∧
    (bif unlikeR es (L.list.drop i.int.toNat) then k (.exit 0) ⟨[(2, .unk)], []⟩ else k .ret ⟨[(2, vb (.b false))], []⟩)
  | _, _ => False
noncomputable def unlikeC : Ctx := mkC PR eqs0 (fnsCons 45 nameS fnsNil) trsNil
  (loopCons 0 [9, 8, 7, 3] [768] unlikeLoop noLoops) (outCons 0 [2] [] noOut) noOut
theorem unlike_round (pan : KP) (μ : Mu) (N : Nat) (k : KE) (i n L : U) (es : List (U × U)) : (exec (unlikeC.panics pan) (loopBody Try.f48 0) 0 ⟨[(9, vi i), (8, vi n), (7, vl .str L), (3, .mp 768)], [(768, .map 111 es)]⟩ (again PR (some ([2], [])) none pan [9, 8, 7, 3] [768] unlikeLoop μ N k)) = (bif decide (U.int i < U.int n) then bif decide ((0 : Int) ≤ U.int i ∧ U.int i < (↑(List.length (U.list L)) : Int)) then bif decide (U.int (mval Ct.str (nth (U.i (0 : Int)) (U.list L) (Int.toNat (U.int
  i))) (U.i (0 : Int)) (mput Ct.str (nth (U.i (0 : Int)) (U.list L) (Int.toNat (U.int i))) (U.i (IntKind.wrap IntKind.i64 (U.int (mval Ct.str (nth (U.i (0 : Int)) (U.list L) (Int.toNat (U.int i))) (U.i (0
  : Int)) es) + (1 : Int)))) es)) > (1 : Int)) then k Ex.ret (St.mk [(nat_lit 2, SV.val Ct.bool (U.b false))] []) else bif !nameR (U.str (nth (U.i (0 : Int)) (U.list L) (Int.toNat (U.int i)))) then k Ex.ret
  (St.mk [(nat_lit 2, SV.val Ct.bool (U.b false))] []) else bif Nat.blt (μ [SV.val (Ct.int IntKind.i64) (U.i (IntKind.wrap IntKind.i64 (U.int i + (1 : Int)))), SV.val (Ct.int IntKind.i64) n, SV.val (Ct.sl
  false [Ct.str]) L, SV.mp (nat_lit 768)] [Den.Obj.map (nat_lit 111) (List.brecOn.go es (mput._f Ct.str (U.at (elemU false (U.at (U.list L) (Int.toNat (U.int i)))) (0 : Nat)) (ofElem false [U.i (IntKind.wrap
  IntKind.i64 (U.int (mval Ct.str (U.at (elemU false (U.at (U.list L) (Int.toNat (U.int i)))) (0 : Nat)) (ofElem false [U.i (0 : Int)]) es) + U.int (U.i (1 : Int))))]))).1]) N then (nat_lit 768 = nat_lit
  768 ∧ nat_lit 111 = nat_lit 111 ∧ U.int n = (↑(List.length (U.list L)) : Int) ∧ (0 : Int) ≤ IntKind.wrap IntKind.i64 (U.int i + (1 : Int)) ∧ IntKind.wrap IntKind.i64 (U.int i + (1 : Int)) ≤ U.int n ∧ ∀
  (e : U × U), e ∈ mput Ct.str (nth (U.i (0 : Int)) (U.list L) (Int.toNat (U.int i))) (U.i (IntKind.wrap IntKind.i64 (U.int (mval Ct.str (nth (U.i (0 : Int)) (U.list L) (Int.toNat (U.int i))) (U.i (0 : Int))
  es) + (1 : Int)))) es → Prod.snd e = U.i (1 : Int)) ∧ bif unlikeR (mput Ct.str (nth (U.i (0 : Int)) (U.list L) (Int.toNat (U.int i))) (U.i (IntKind.wrap IntKind.i64 (U.int (mval Ct.str (nth (U.i (0 : Int))
  (U.list L) (Int.toNat (U.int i))) (U.i (0 : Int)) es) + (1 : Int)))) es) (List.drop (Int.toNat (IntKind.wrap IntKind.i64 (U.int i + (1 : Int)))) (U.list L)) then k (Ex.exit (nat_lit 0)) (St.mk [(nat_lit
  2, SV.unk)] []) else k Ex.ret (St.mk [(nat_lit 2, SV.val Ct.bool (U.b false))] []) else False else False else k (Ex.exit (nat_lit 0)) (St.mk [(nat_lit 2, SV.unk)] [])) := by kernel_rfl
theorem unlike_tree (R : RF) (L : U) : (run unlikeC Try.f48 [[L]] R) = ((nat_lit 768 = nat_lit 768 ∧ nat_lit 111 = nat_lit 111 ∧ (↑(List.length (U.list L)) : Int) = (↑(List.length (U.list L)) : Int) ∧ (0 : Int) ≤ (0 : Int) ∧ (0 : Int) ≤ (↑(List.length (U.list L)) : Int) ∧
  ∀ (e : U × U), e ∈ [] → Prod.snd e = U.i (1 : Int)) ∧ bif unlikeR [] (List.drop (Int.toNat (0 : Int)) (U.list L)) then R [[U.b true]] else R [[U.b false]]) := by kernel_rfl
end Go.Mat

namespace Go.Mat
open Go Go.Den Go.Proofs
theorem pows {c : Int} (h : 0 ≤ c) (h' : c ≤ 6) : (2 : Int) ^ c.toNat = 1 ∨ (2 : Int) ^ c.toNat = 2 ∨ (2 : Int) ^ c.toNat = 4 ∨ (2 : Int) ^ c.toNat = 8 ∨ (2 : Int) ^ c.toNat = 16 ∨ (2 : Int) ^ c.toNat = 32 ∨ (2 : Int) ^ c.toNat = 64 := by
  have : c = 0 ∨ c = 1 ∨ c = 2 ∨ c = 3 ∨ c = 4 ∨ c = 5 ∨ c = 6 := by omega
  rcases this with rfl | rfl | rfl | rfl | rfl | rfl | rfl <;> decide
theorem shl_min {c : Int} (h : 0 ≤ c) (h' : c ≤ 6) : (2 : Int) ^ min c.toNat (IntKind.bits .i64) = 2 ^ c.toNat := by
  have : min c.toNat (IntKind.bits .i64) = c.toNat := by simp only [IntKind.bits]; omega
  rw [this]
theorem size_ok : SpecFP PR 44 sizeP sizeS := fun fn us hfn hpre => by
  have hf : PR.funcs[(44 : Nat)]? = some Try.f44 := by kernel_rfl
  rw [hf] at hfn; cases hfn
  refine fn_okH (C := K0) (mkC_ok eqs0_ok mixed_ok .nil .nil) hf (by kernel_rfl) (loops_none (by kernel_rfl)) fun hok => ?_
  have hp : Try.f44.params.toList = [3, 3] := by kernel_rfl
  rw [hp] at hok
  obtain ⟨a, b, hus⟩ : ∃ a b, us = [[a], [b]] := by
    obtain ⟨u, u2, rfl, h1, h2⟩ := shape2 (by kernel_rfl : Cs PR 3 = some (false, [.int .i64])) (by kernel_rfl : Cs PR 3 = some (false, [.int .i64])) hok.1
    obtain ⟨a, rfl⟩ := len1 h1
    obtain ⟨b, rfl⟩ := len1 h2
    exact ⟨a, b, rfl⟩
  subst hus
  refine .eq (size_tree _ _ _) ?_
  unfold sizeS
  simp only [nth_zero, nth_succ]
  have hb : 0 ≤ b.int ∧ b.int ≤ 6 := hpre
  refine bd (fun h => bd (fun h2 => df (by omega) ?_) (fun h2 => ?_)) (fun h => ?_)
  · rw [shl_one hb.1 hb.2]
    unfold sizeR
    rw [decide_eq_true (show 0 ≤ a.int by omega), decide_eq_true h2]
    rcases pows hb.1 hb.2 with hp | hp | hp | hp | hp | hp | hp <;>
    · rw [hp]
      refine df (by omega) ?_
      rw [Int.tmod_eq_emod_of_nonneg h]
      refine ubi ?_; simp
  · refine ubi ?_; simp [sizeR]; omega
  · refine ubi ?_; simp [sizeR]; omega
theorem mval_ones {x : U} : ∀ {es : List (U × U)}, (∀ e ∈ es, e.2 = .i 1) → mval .str x (.i 0) es = .i (if mhas .str x es = true then 1 else 0)
  | [], _ => rfl
  | (a, y) :: r, h => by
    have hy : y = .i 1 := h (a, y) (by simp)
    subst hy
    unfold mval mhas
    cases hu : ueq .str x a with
    | true => simp
    | false => simpa using mval_ones fun e he => h e (by simp [he])
theorem ueq_self (x : U) : ueq .str x x = true := by simp [ueq]
theorem mval_mput (x v z : U) : ∀ es : List (U × U), mval .str x z (mput .str x v es) = v
  | [] => by simp [mput, mval, ueq_self]
  | (a, y) :: r => by
    unfold mput
    cases hu : ueq .str x a with
    | true => simp [mval, ueq_self]
    | false => simp [mval, hu, mval_mput x v z r]
theorem mput_ones {x : U} : ∀ {es : List (U × U)}, (∀ e ∈ es, e.2 = .i 1) → ∀ e ∈ mput .str x (.i 1) es, e.2 = .i 1
  | [], _ => by simp [mput]
  | (a, y) :: r, h => by
    have hr : ∀ e ∈ r, e.2 = U.i 1 := fun e he => h e (by simp [he])
    have hy : y = .i 1 := h (a, y) (by simp)
    unfold mput
    cases hu : ueq .str x a with
    | true => intro e he; simp at he; rcases he with rfl | he; rfl; exact hr e he
    | false => intro e he; simp at he; rcases he with rfl | he; exact hy; exact mput_ones hr e he
theorem unlike_loop : LoopOk unlikeC 0 (loopBody Try.f48 0) := by
  refine loopOk_of (F := unlikeLoop) (ts := [9, 8, 7, 3]) (os := [768]) rfl (fun svs _ => match svs with | .val _ i :: .val _ m :: _ => (m.int - i.int).toNat | _ => 0) ?_
  intro pan svs os k ho1 ho2 h
  unfold unlikeLoop at h
  split at h
  · rename_i i n L id t es
    obtain ⟨⟨rfl, rfl, hn, h0, hi, hes⟩, hk⟩ := h
    have hL : L.list.length ≤ maxLen := ho1.2.2.1.1
    refine .eq (unlike_round pan _ _ k i n L es) ?_
    refine bd (fun hlt => dt ⟨h0, by omega⟩ ?_) (fun hlt => ?_)
    · rw [drop_at (by omega), unlikeR] at hk
      have hw : IntKind.wrap .i64 (i.int + 1) = i.int + 1 := i64_in (by omega) (by unfold maxLen at hL; omega)
      have hc : (i.int + 1).toNat = i.int.toNat + 1 := by omega
      simp only [U.at] at hk
      simp only [hw, hc, mval_mput, mval_ones hes, U.int_i]
      have hlt' : (n.int - (i.int + 1)).toNat < (n.int - i.int).toNat := by omega
      generalize (nth (U.i 0) L.list i.int.toNat) = x at hk ⊢
      cases hm : mhas .str x es with
      | true => rw [hm] at hk; exact dt (by decide) hk
      | false =>
        rw [hm] at hk
        refine df (by decide) (bi (fun h1 => ?_) (fun h1 => ?_))
        · rw [nt h1] at hk; exact hk
        · rw [nf h1] at hk
          exact blt hlt' ⟨⟨by trivial, by trivial, hn, by omega, by omega, mput_ones hes⟩, hk⟩
    · rw [List.drop_of_length_le (by omega)] at hk
      exact hk
  · exact h.elim
theorem unlike_ok : SpecF PR 48 unlikeS := fun fn us hfn => by
  have hf : PR.funcs[(48 : Nat)]? = some Try.f48 := by kernel_rfl
  rw [hf] at hfn; cases hfn
  refine fn_okH (C := unlikeC) (mkC_ok eqs0_ok mixed_ok (.cons name_ok .nil) .nil) hf (by kernel_rfl) (loops_one (by kernel_rfl) unlike_loop) fun hok => ?_
  have hp : Try.f48.params.toList = [92] := by kernel_rfl
  rw [hp] at hok
  obtain ⟨L, hus⟩ : ∃ L, us = [[L]] := by
    obtain ⟨u, rfl, h1⟩ := shape1 (by kernel_rfl : Cs PR 92 = some (false, [.sl false [.str]])) hok.1
    obtain ⟨L, rfl⟩ := len1 h1
    exact ⟨L, rfl⟩
  subst hus
  refine .eq (unlike_tree _ _) ?_
  unfold unlikeS
  simp only [nth_zero, nth_succ]
  refine ⟨⟨by trivial, by trivial, by trivial, by omega, by omega, by simp⟩, ?_⟩
  simp only [Int.toNat_zero, List.drop_zero]
  refine bi (fun h => ?_) (fun h => ?_) <;> rw [h]
end Go.Mat

namespace Go.Mat
open Go Go.Den Go.Proofs
abbrev SC : List Ct := [.str, .int .i64, .sl false [.sl true EC]]
abbrev SpC : List Ct := [.int .i64, .int .i64]
abbrev BC : List Ct := [.str, .bool, .sl true SpC]
abbrev strT : TypeId := 9
def shotsR (c : Int) : List U → Bool
  | [] => true
  | s :: r => sizeR (e1 s).int c && tableR (e2 s).list ((e1 s).int / 2 ^ c.toNat) c && shotsR c r
def lastR (l : List U) : Bool := !decide (0 < l.length) || decide ((e1 (U.at l (l.length - 1))).int ≤ 4096)
def mapsR : List U → Bool
  | [] => true
  | b :: r => spansR (-1) (e2 b).list && lastR (e2 b).list && mapsR r
def countsR : List U → Bool
  | [] => true
  | n :: r => decide (0 ≤ n.int) && decide (n.int ≤ 65535) && countsR r
def backR (s : ByteArray) : Bool := s.data.toList == [] || nameR s
def metaR (c sz bk T S M Q : U) : Bool :=
  decide (0 ≤ c.int) && decide (c.int ≤ 6) && sizeR sz.int c.int && backR bk.str && tableR T.list (sz.int / 2 ^ c.int.toNat) c.int && decide (S.list.length ≤ 8) && decide (M.list.length ≤ 8) && decide (Q.list.length ≤ 65536) &&
  shotsR c.int S.list && mapsR M.list && countsR Q.list && unlikeR [] (S.list.map e0) && unlikeR [] (M.list.map e0)
def metaS : List (List U) → List (List U) := fun us => [[.b (metaR (nth (.i 0) (nth [] us 0) 0) (nth (.i 0) (nth [] us 0) 1) (nth (.i 0) (nth [] us 0) 2) (nth (.i 0) (nth [] us 0) 3) (nth (.i 0) (nth [] us 0) 4) (nth (.i 0) (nth [] us 0) 5) (nth (.i 0) (nth [] us 0) 6))]]
abbrev noRet : St := ⟨[(2, vb (.b false))], []⟩
noncomputable def metaLoop0 : LoopF := fun _ svs os k => match svs, os with
  | [.val (.int .i64) i, .val (.int .i64) n, .val (.sl true ec) L, .own o1, .own o2, .ptr pp po], [.arr t1 xs, .arr t2 ys, .box [.val (.int .i64) c, .val (.int .i64) sz, .val .str bk, .val (.sl false [.sl true x1]) T, .val (.sl true x2) S, .val (.sl true x3) M, .val (.sl false [.int .i64]) Q]] =>
    (x1 = EC ∧ x2 = SC ∧ x3 = BC ∧ ec = SC ∧ o1 = 508 ∧ o2 = 636 ∧ pp = 128 ∧ po = 0 ∧ t1 = strT ∧ t2 = strT ∧ n.int = (L.list.length : Int) ∧ n.int ≤ 8 ∧ 0 ≤ i.int ∧ i.int ≤ n.int ∧ 0 ≤ c.int ∧ c.int ≤ 6 ∧ (xs.length : Int) ≤ i.int) ∧
    (bif shotsR c.int (L.list.drop i.int.toNat) then k (.exit 0) ⟨[(3, .own 508), (4, .own 636), (1, .ptr 128 0)], [(508, .arr strT (xs ++ (L.list.drop i.int.toNat).map e0)), (636, .arr strT ys), (128, .box [vi c, vi sz, vs bk, vl (.sl true EC) T, vt SC S, vt BC M, vl (.int .i64) Q])]⟩ else k .ret noRet)
  | _, _ => False
noncomputable def metaLoop2 : LoopF := fun _ svs os k => match svs, os with
  | [.val (.int .i64) i, .val (.int .i64) n, .val (.sl true ec) L, .own o1, .own o2, .ptr pp po], [.arr t1 xs, .arr t2 ys, .box [.val (.int .i64) c, .val (.int .i64) sz, .val .str bk, .val (.sl false [.sl true x1]) T, .val (.sl true x2) S, .val (.sl true x3) M, .val (.sl false [.int .i64]) Q]] =>
    (x1 = EC ∧ x2 = SC ∧ x3 = BC ∧ ec = BC ∧ o1 = 508 ∧ o2 = 636 ∧ pp = 128 ∧ po = 0 ∧ t1 = strT ∧ t2 = strT ∧ n.int = (L.list.length : Int) ∧ n.int ≤ 8 ∧ 0 ≤ i.int ∧ i.int ≤ n.int ∧ (ys.length : Int) ≤ i.int) ∧
    (bif mapsR (L.list.drop i.int.toNat) then k (.exit 2) ⟨[(3, .own 508), (4, .own 636), (1, .ptr 128 0)], [(508, .arr strT xs), (636, .arr strT (ys ++ (L.list.drop i.int.toNat).map e0)), (128, .box [vi c, vi sz, vs bk, vl (.sl true EC) T, vt SC S, vt BC M, vl (.int .i64) Q])]⟩ else k .ret noRet)
  | _, _ => False
noncomputable def metaLoop4 : LoopF := fun _ svs os k => match svs, os with
  | [.val (.int .i64) i, .val (.int .i64) n, .val (.sl false [.int .i64]) L, .own o1, .own o2], [.arr t1 xs, .arr t2 ys] =>
    (o1 = 508 ∧ o2 = 636 ∧ t1 = strT ∧ t2 = strT ∧ n.int = (L.list.length : Int) ∧ 0 ≤ i.int ∧ i.int ≤ n.int) ∧
    (bif countsR (L.list.drop i.int.toNat) then k (.exit 4) ⟨[(3, .own 508), (4, .own 636)], [(508, .arr strT xs), (636, .arr strT ys)]⟩ else k .ret noRet)
  | _, _ => False
noncomputable def metaC : Ctx := mkC PR eqs0 (fnsConsP 44 sizeP sizeS (fnsCons 45 nameS (fnsCons 46 tableS (fnsCons 47 spansS (fnsCons 48 unlikeS fnsNil))))) trsNil
  (loopCons 4 [137, 136, 135, 3, 4] [508, 636] metaLoop4 (loopCons 2 [102, 101, 100, 3, 4, 1] [508, 636, 128] metaLoop2 (loopCons 0 [70, 69, 68, 3, 4, 1] [508, 636, 128] metaLoop0 noLoops)))
  (outCons 4 [3, 4] [508, 636] (outCons 2 [3, 4, 1] [508, 636, 128] (outCons 0 [3, 4, 1] [508, 636, 128] (outCons 1048580 [2] [] (outCons 1048578 [2] [] (outCons 1048576 [2] [] noOut)))))) noOut
theorem shots_round (pan : KP) (μ : Mu) (N : Nat) (k : KE) (i n L c sz bk T S M Q : U) (xs ys : List U) : (exec (metaC.panics pan) (loopBody Try.f21 0) 0 ⟨[(70, vi i), (69, vi n), (68, vt SC L), (3, .own 508), (4, .own 636), (1, .ptr 128 0)], [(508, .arr strT xs), (636, .arr strT ys), (128, .box [vi c, vi sz, vs bk, vl (.sl true EC) T, vt SC S, vt BC M, vl (.int .i64) Q])]⟩ (again PR (some ([3, 4, 1], [508, 636, 128])) (some ([2], [])) pan [70, 69, 68, 3, 4, 1] [508, 636, 128] metaLoop0 μ N k)) = (bif decide (U.int i < U.int n) then bif decide ((0 : Int) ≤ U.int i ∧ U.int i < (↑(List.length (U.list L)) : Int)) then bif decide (List.length xs + ((0 : Nat) + (1 : Nat)) ≤ room) && !oddB (508 : Nat)
  then sizeP [[nth (U.i (0 : Int)) (List.tail (U.list (nth (U.i (0 : Int)) (U.list L) (Int.toNat (U.int i))))) (0 : Nat)], [c]] ∧ bif !sizeR (U.int (nth (U.i (0 : Int)) (List.tail (U.list (nth (U.i (0 :
  Int)) (U.list L) (Int.toNat (U.int i))))) (0 : Nat))) (U.int c) then k Ex.ret (St.mk [(nat_lit 2, SV.val Ct.bool (U.b false))] []) else bif decide (U.int c < (0 : Int)) then False else bif !tableR (U.list
  (nth (U.i (0 : Int)) (List.tail (List.tail (U.list (nth (U.i (0 : Int)) (U.list L) (Int.toNat (U.int i)))))) (0 : Nat))) (Int.fdiv (U.int (nth (U.i (0 : Int)) (List.tail (U.list (nth (U.i (0 : Int)) (U.list
  L) (Int.toNat (U.int i))))) (0 : Nat))) ((2 : Int) ^ min (Int.toNat (U.int c)) (IntKind.bits IntKind.i64))) (U.int c) then k Ex.ret (St.mk [(nat_lit 2, SV.val Ct.bool (U.b false))] []) else bif Nat.blt
  (μ [SV.val (Ct.int IntKind.i64) (U.i (IntKind.wrap IntKind.i64 (U.int i + (1 : Int)))), SV.val (Ct.int IntKind.i64) n, SV.val (Ct.sl true [Ct.str, Ct.int IntKind.i64, Ct.sl false [Ct.sl true [Ct.int IntKind.i64,
  Ct.int IntKind.i64, Ct.int IntKind.i64, Ct.int IntKind.i64, Ct.int IntKind.u32]]]) L, SV.own (nat_lit 508), SV.own (nat_lit 636), SV.ptr (nat_lit 128) (nat_lit 0)] [Obj.arr (nat_lit 9) (xs ++ [nth (U.i
  (0 : Int)) (U.list (nth (U.i (0 : Int)) (U.list L) (Int.toNat (U.int i)))) (0 : Nat)]), Obj.arr (nat_lit 9) ys, Obj.box [SV.val (Ct.int IntKind.i64) c, SV.val (Ct.int IntKind.i64) sz, SV.val Ct.str bk,
  SV.val (Ct.sl false [Ct.sl true [Ct.int IntKind.i64, Ct.int IntKind.i64, Ct.int IntKind.i64, Ct.int IntKind.i64, Ct.int IntKind.u32]]) T, SV.val (Ct.sl true [Ct.str, Ct.int IntKind.i64, Ct.sl false [Ct.sl
  true [Ct.int IntKind.i64, Ct.int IntKind.i64, Ct.int IntKind.i64, Ct.int IntKind.i64, Ct.int IntKind.u32]]]) S, SV.val (Ct.sl true [Ct.str, Ct.bool, Ct.sl true [Ct.int IntKind.i64, Ct.int IntKind.i64]])
  M, SV.val (Ct.sl false [Ct.int IntKind.i64]) Q]]) N then ([Ct.int IntKind.i64, Ct.int IntKind.i64, Ct.int IntKind.i64, Ct.int IntKind.i64, Ct.int IntKind.u32] = [Ct.int IntKind.i64, Ct.int IntKind.i64,
  Ct.int IntKind.i64, Ct.int IntKind.i64, Ct.int IntKind.u32] ∧ [Ct.str, Ct.int IntKind.i64, Ct.sl false [Ct.sl true [Ct.int IntKind.i64, Ct.int IntKind.i64, Ct.int IntKind.i64, Ct.int IntKind.i64, Ct.int
  IntKind.u32]]] = [Ct.str, Ct.int IntKind.i64, Ct.sl false [Ct.sl true [Ct.int IntKind.i64, Ct.int IntKind.i64, Ct.int IntKind.i64, Ct.int IntKind.i64, Ct.int IntKind.u32]]] ∧ [Ct.str, Ct.bool, Ct.sl true
  [Ct.int IntKind.i64, Ct.int IntKind.i64]] = [Ct.str, Ct.bool, Ct.sl true [Ct.int IntKind.i64, Ct.int IntKind.i64]] ∧ [Ct.str, Ct.int IntKind.i64, Ct.sl false [Ct.sl true [Ct.int IntKind.i64, Ct.int IntKind.i64,
  Ct.int IntKind.i64, Ct.int IntKind.i64, Ct.int IntKind.u32]]] = [Ct.str, Ct.int IntKind.i64, Ct.sl false [Ct.sl true [Ct.int IntKind.i64, Ct.int IntKind.i64, Ct.int IntKind.i64, Ct.int IntKind.i64, Ct.int
  IntKind.u32]]] ∧ nat_lit 508 = nat_lit 508 ∧ nat_lit 636 = nat_lit 636 ∧ nat_lit 128 = nat_lit 128 ∧ nat_lit 0 = nat_lit 0 ∧ nat_lit 9 = nat_lit 9 ∧ nat_lit 9 = nat_lit 9 ∧ U.int n = (↑(List.length (U.list
  L)) : Int) ∧ U.int n ≤ (8 : Int) ∧ (0 : Int) ≤ IntKind.wrap IntKind.i64 (U.int i + (1 : Int)) ∧ IntKind.wrap IntKind.i64 (U.int i + (1 : Int)) ≤ U.int n ∧ (0 : Int) ≤ U.int c ∧ U.int c ≤ (6 : Int) ∧ (↑(List.length
  (xs ++ [nth (U.i (0 : Int)) (U.list (nth (U.i (0 : Int)) (U.list L) (Int.toNat (U.int i)))) (0 : Nat)])) : Int) ≤ IntKind.wrap IntKind.i64 (U.int i + (1 : Int))) ∧ bif shotsR (U.int c) (List.drop (Int.toNat
  (IntKind.wrap IntKind.i64 (U.int i + (1 : Int)))) (U.list L)) then k (Ex.exit (nat_lit 0)) (St.mk [(nat_lit 3, SV.own (nat_lit 508)), (nat_lit 4, SV.own (nat_lit 636)), (nat_lit 1, SV.ptr (nat_lit 128)
  (nat_lit 0))] [(nat_lit 508, Obj.arr (nat_lit 9) (xs ++ [nth (U.i (0 : Int)) (U.list (nth (U.i (0 : Int)) (U.list L) (Int.toNat (U.int i)))) (0 : Nat)] ++ List.map e0 (List.drop (Int.toNat (IntKind.wrap
  IntKind.i64 (U.int i + (1 : Int)))) (U.list L)))), (nat_lit 636, Obj.arr (nat_lit 9) ys), (nat_lit 128, Obj.box [SV.val (Ct.int IntKind.i64) c, SV.val (Ct.int IntKind.i64) sz, SV.val Ct.str bk, SV.val
  (Ct.sl false [Ct.sl true [Ct.int IntKind.i64, Ct.int IntKind.i64, Ct.int IntKind.i64, Ct.int IntKind.i64, Ct.int IntKind.u32]]) T, SV.val (Ct.sl true [Ct.str, Ct.int IntKind.i64, Ct.sl false [Ct.sl true
  [Ct.int IntKind.i64, Ct.int IntKind.i64, Ct.int IntKind.i64, Ct.int IntKind.i64, Ct.int IntKind.u32]]]) S, SV.val (Ct.sl true [Ct.str, Ct.bool, Ct.sl true [Ct.int IntKind.i64, Ct.int IntKind.i64]]) M,
  SV.val (Ct.sl false [Ct.int IntKind.i64]) Q])]) else k Ex.ret (St.mk [(nat_lit 2, SV.val Ct.bool (U.b false))] []) else False else False else False else k (Ex.exit (nat_lit 0)) (St.mk [(nat_lit 3, SV.own
  (nat_lit 508)), (nat_lit 4, SV.own (nat_lit 636)), (nat_lit 1, SV.ptr (nat_lit 128) (nat_lit 0))] [(nat_lit 508, Obj.arr (nat_lit 9) xs), (nat_lit 636, Obj.arr (nat_lit 9) ys), (nat_lit 128, Obj.box [SV.val
  (Ct.int IntKind.i64) c, SV.val (Ct.int IntKind.i64) sz, SV.val Ct.str bk, SV.val (Ct.sl false [Ct.sl true [Ct.int IntKind.i64, Ct.int IntKind.i64, Ct.int IntKind.i64, Ct.int IntKind.i64, Ct.int IntKind.u32]])
  T, SV.val (Ct.sl true [Ct.str, Ct.int IntKind.i64, Ct.sl false [Ct.sl true [Ct.int IntKind.i64, Ct.int IntKind.i64, Ct.int IntKind.i64, Ct.int IntKind.i64, Ct.int IntKind.u32]]]) S, SV.val (Ct.sl true
  [Ct.str, Ct.bool, Ct.sl true [Ct.int IntKind.i64, Ct.int IntKind.i64]]) M, SV.val (Ct.sl false [Ct.int IntKind.i64]) Q])])) := by kernel_rfl
theorem maps_round (pan : KP) (μ : Mu) (N : Nat) (k : KE) (i n L c sz bk T S M Q : U) (xs ys : List U) : (exec (metaC.panics pan) (loopBody Try.f21 1) 2 ⟨[(102, vi i), (101, vi n), (100, vt BC L), (3, .own 508), (4, .own 636), (1, .ptr 128 0)], [(508, .arr strT xs), (636, .arr strT ys), (128, .box [vi c, vi sz, vs bk, vl (.sl true EC) T, vt SC S, vt BC M, vl (.int .i64) Q])]⟩ (again PR (some ([3, 4, 1], [508, 636, 128])) (some ([2], [])) pan [102, 101, 100, 3, 4, 1] [508, 636, 128] metaLoop2 μ N k)) = (bif decide (U.int i < U.int n) then bif decide ((0 : Int) ≤ U.int i ∧ U.int i < (↑(List.length (U.list L)) : Int)) then bif decide (List.length ys + ((0 : Nat) + (1 : Nat)) ≤ room) && !oddB (636 : Nat)
  then bif !spansR (-1 : Int) (U.list (nth (U.i (0 : Int)) (List.tail (List.tail (U.list (nth (U.i (0 : Int)) (U.list L) (Int.toNat (U.int i)))))) (0 : Nat))) then k Ex.ret (St.mk [(nat_lit 2, SV.val Ct.bool
  (U.b false))] []) else bif decide ((↑(List.length (U.list (nth (U.i (0 : Int)) (List.tail (List.tail (U.list (nth (U.i (0 : Int)) (U.list L) (Int.toNat (U.int i)))))) (0 : Nat)))) : Int) > (0 : Int)) then
  bif decide ((0 : Int) ≤ IntKind.wrap IntKind.i64 ((↑(List.length (U.list (nth (U.i (0 : Int)) (List.tail (List.tail (U.list (nth (U.i (0 : Int)) (U.list L) (Int.toNat (U.int i)))))) (0 : Nat)))) : Int)
  - (1 : Int)) ∧ IntKind.wrap IntKind.i64 ((↑(List.length (U.list (nth (U.i (0 : Int)) (List.tail (List.tail (U.list (nth (U.i (0 : Int)) (U.list L) (Int.toNat (U.int i)))))) (0 : Nat)))) : Int) - (1 : Int))
  < (↑(List.length (U.list (nth (U.i (0 : Int)) (List.tail (List.tail (U.list (nth (U.i (0 : Int)) (U.list L) (Int.toNat (U.int i)))))) (0 : Nat)))) : Int)) then bif decide (U.int (nth (U.i (0 : Int)) (List.drop
  (1 : Nat) (U.list (nth (U.i (0 : Int)) (U.list (nth (U.i (0 : Int)) (List.tail (List.tail (U.list (nth (U.i (0 : Int)) (U.list L) (Int.toNat (U.int i)))))) (0 : Nat))) (Int.toNat (IntKind.wrap IntKind.i64
  ((↑(List.length (U.list (nth (U.i (0 : Int)) (List.tail (List.tail (U.list (nth (U.i (0 : Int)) (U.list L) (Int.toNat (U.int i)))))) (0 : Nat)))) : Int) - (1 : Int))))))) (0 : Nat)) > (4096 : Int)) then
  k Ex.ret (St.mk [(nat_lit 2, SV.val Ct.bool (U.b false))] []) else bif Nat.blt (μ [SV.val (Ct.int IntKind.i64) (U.i (IntKind.wrap IntKind.i64 (U.int i + (1 : Int)))), SV.val (Ct.int IntKind.i64) n, SV.val
  (Ct.sl true [Ct.str, Ct.bool, Ct.sl true [Ct.int IntKind.i64, Ct.int IntKind.i64]]) L, SV.own (nat_lit 508), SV.own (nat_lit 636), SV.ptr (nat_lit 128) (nat_lit 0)] [Obj.arr (nat_lit 9) xs, Obj.arr (nat_lit
  9) (ys ++ [nth (U.i (0 : Int)) (U.list (nth (U.i (0 : Int)) (U.list L) (Int.toNat (U.int i)))) (0 : Nat)]), Obj.box [SV.val (Ct.int IntKind.i64) c, SV.val (Ct.int IntKind.i64) sz, SV.val Ct.str bk, SV.val
  (Ct.sl false [Ct.sl true [Ct.int IntKind.i64, Ct.int IntKind.i64, Ct.int IntKind.i64, Ct.int IntKind.i64, Ct.int IntKind.u32]]) T, SV.val (Ct.sl true [Ct.str, Ct.int IntKind.i64, Ct.sl false [Ct.sl true
  [Ct.int IntKind.i64, Ct.int IntKind.i64, Ct.int IntKind.i64, Ct.int IntKind.i64, Ct.int IntKind.u32]]]) S, SV.val (Ct.sl true [Ct.str, Ct.bool, Ct.sl true [Ct.int IntKind.i64, Ct.int IntKind.i64]]) M,
  SV.val (Ct.sl false [Ct.int IntKind.i64]) Q]]) N then ([Ct.int IntKind.i64, Ct.int IntKind.i64, Ct.int IntKind.i64, Ct.int IntKind.i64, Ct.int IntKind.u32] = [Ct.int IntKind.i64, Ct.int IntKind.i64, Ct.int
  IntKind.i64, Ct.int IntKind.i64, Ct.int IntKind.u32] ∧ [Ct.str, Ct.int IntKind.i64, Ct.sl false [Ct.sl true [Ct.int IntKind.i64, Ct.int IntKind.i64, Ct.int IntKind.i64, Ct.int IntKind.i64, Ct.int IntKind.u32]]]
  = [Ct.str, Ct.int IntKind.i64, Ct.sl false [Ct.sl true [Ct.int IntKind.i64, Ct.int IntKind.i64, Ct.int IntKind.i64, Ct.int IntKind.i64, Ct.int IntKind.u32]]] ∧ [Ct.str, Ct.bool, Ct.sl true [Ct.int IntKind.i64,
  Ct.int IntKind.i64]] = [Ct.str, Ct.bool, Ct.sl true [Ct.int IntKind.i64, Ct.int IntKind.i64]] ∧ [Ct.str, Ct.bool, Ct.sl true [Ct.int IntKind.i64, Ct.int IntKind.i64]] = [Ct.str, Ct.bool, Ct.sl true [Ct.int
  IntKind.i64, Ct.int IntKind.i64]] ∧ nat_lit 508 = nat_lit 508 ∧ nat_lit 636 = nat_lit 636 ∧ nat_lit 128 = nat_lit 128 ∧ nat_lit 0 = nat_lit 0 ∧ nat_lit 9 = nat_lit 9 ∧ nat_lit 9 = nat_lit 9 ∧ U.int n =
  (↑(List.length (U.list L)) : Int) ∧ U.int n ≤ (8 : Int) ∧ (0 : Int) ≤ IntKind.wrap IntKind.i64 (U.int i + (1 : Int)) ∧ IntKind.wrap IntKind.i64 (U.int i + (1 : Int)) ≤ U.int n ∧ (↑(List.length (ys ++ [nth
  (U.i (0 : Int)) (U.list (nth (U.i (0 : Int)) (U.list L) (Int.toNat (U.int i)))) (0 : Nat)])) : Int) ≤ IntKind.wrap IntKind.i64 (U.int i + (1 : Int))) ∧ bif mapsR (List.drop (Int.toNat (IntKind.wrap IntKind.i64
  (U.int i + (1 : Int)))) (U.list L)) then k (Ex.exit (nat_lit 2)) (St.mk [(nat_lit 3, SV.own (nat_lit 508)), (nat_lit 4, SV.own (nat_lit 636)), (nat_lit 1, SV.ptr (nat_lit 128) (nat_lit 0))] [(nat_lit 508,
  Obj.arr (nat_lit 9) xs), (nat_lit 636, Obj.arr (nat_lit 9) (ys ++ [nth (U.i (0 : Int)) (U.list (nth (U.i (0 : Int)) (U.list L) (Int.toNat (U.int i)))) (0 : Nat)] ++ List.map e0 (List.drop (Int.toNat (IntKind.wrap
  IntKind.i64 (U.int i + (1 : Int)))) (U.list L)))), (nat_lit 128, Obj.box [SV.val (Ct.int IntKind.i64) c, SV.val (Ct.int IntKind.i64) sz, SV.val Ct.str bk, SV.val (Ct.sl false [Ct.sl true [Ct.int IntKind.i64,
  Ct.int IntKind.i64, Ct.int IntKind.i64, Ct.int IntKind.i64, Ct.int IntKind.u32]]) T, SV.val (Ct.sl true [Ct.str, Ct.int IntKind.i64, Ct.sl false [Ct.sl true [Ct.int IntKind.i64, Ct.int IntKind.i64, Ct.int
  IntKind.i64, Ct.int IntKind.i64, Ct.int IntKind.u32]]]) S, SV.val (Ct.sl true [Ct.str, Ct.bool, Ct.sl true [Ct.int IntKind.i64, Ct.int IntKind.i64]]) M, SV.val (Ct.sl false [Ct.int IntKind.i64]) Q])])
  else k Ex.ret (St.mk [(nat_lit 2, SV.val Ct.bool (U.b false))] []) else False else False else bif Nat.blt (μ [SV.val (Ct.int IntKind.i64) (U.i (IntKind.wrap IntKind.i64 (U.int i + (1 : Int)))), SV.val
  (Ct.int IntKind.i64) n, SV.val (Ct.sl true [Ct.str, Ct.bool, Ct.sl true [Ct.int IntKind.i64, Ct.int IntKind.i64]]) L, SV.own (nat_lit 508), SV.own (nat_lit 636), SV.ptr (nat_lit 128) (nat_lit 0)] [Obj.arr
  (nat_lit 9) xs, Obj.arr (nat_lit 9) (ys ++ [nth (U.i (0 : Int)) (U.list (nth (U.i (0 : Int)) (U.list L) (Int.toNat (U.int i)))) (0 : Nat)]), Obj.box [SV.val (Ct.int IntKind.i64) c, SV.val (Ct.int IntKind.i64)
  sz, SV.val Ct.str bk, SV.val (Ct.sl false [Ct.sl true [Ct.int IntKind.i64, Ct.int IntKind.i64, Ct.int IntKind.i64, Ct.int IntKind.i64, Ct.int IntKind.u32]]) T, SV.val (Ct.sl true [Ct.str, Ct.int IntKind.i64,
  Ct.sl false [Ct.sl true [Ct.int IntKind.i64, Ct.int IntKind.i64, Ct.int IntKind.i64, Ct.int IntKind.i64, Ct.int IntKind.u32]]]) S, SV.val (Ct.sl true [Ct.str, Ct.bool, Ct.sl true [Ct.int IntKind.i64, Ct.int
  IntKind.i64]]) M, SV.val (Ct.sl false [Ct.int IntKind.i64]) Q]]) N then ([Ct.int IntKind.i64, Ct.int IntKind.i64, Ct.int IntKind.i64, Ct.int IntKind.i64, Ct.int IntKind.u32] = [Ct.int IntKind.i64, Ct.int
  IntKind.i64, Ct.int IntKind.i64, Ct.int IntKind.i64, Ct.int IntKind.u32] ∧ [Ct.str, Ct.int IntKind.i64, Ct.sl false [Ct.sl true [Ct.int IntKind.i64, Ct.int IntKind.i64, Ct.int IntKind.i64, Ct.int IntKind.i64,
  Ct.int IntKind.u32]]] = [Ct.str, Ct.int IntKind.i64, Ct.sl false [Ct.sl true [Ct.int IntKind.i64, Ct.int IntKind.i64, Ct.int IntKind.i64, Ct.int IntKind.i64, Ct.int IntKind.u32]]] ∧ [Ct.str, Ct.bool, Ct.sl
  true [Ct.int IntKind.i64, Ct.int IntKind.i64]] = [Ct.str, Ct.bool, Ct.sl true [Ct.int IntKind.i64, Ct.int IntKind.i64]] ∧ [Ct.str, Ct.bool, Ct.sl true [Ct.int IntKind.i64, Ct.int IntKind.i64]] = [Ct.str,
  Ct.bool, Ct.sl true [Ct.int IntKind.i64, Ct.int IntKind.i64]] ∧ nat_lit 508 = nat_lit 508 ∧ nat_lit 636 = nat_lit 636 ∧ nat_lit 128 = nat_lit 128 ∧ nat_lit 0 = nat_lit 0 ∧ nat_lit 9 = nat_lit 9 ∧ nat_lit
  9 = nat_lit 9 ∧ U.int n = (↑(List.length (U.list L)) : Int) ∧ U.int n ≤ (8 : Int) ∧ (0 : Int) ≤ IntKind.wrap IntKind.i64 (U.int i + (1 : Int)) ∧ IntKind.wrap IntKind.i64 (U.int i + (1 : Int)) ≤ U.int n
  ∧ (↑(List.length (ys ++ [nth (U.i (0 : Int)) (U.list (nth (U.i (0 : Int)) (U.list L) (Int.toNat (U.int i)))) (0 : Nat)])) : Int) ≤ IntKind.wrap IntKind.i64 (U.int i + (1 : Int))) ∧ bif mapsR (List.drop
  (Int.toNat (IntKind.wrap IntKind.i64 (U.int i + (1 : Int)))) (U.list L)) then k (Ex.exit (nat_lit 2)) (St.mk [(nat_lit 3, SV.own (nat_lit 508)), (nat_lit 4, SV.own (nat_lit 636)), (nat_lit 1, SV.ptr (nat_lit
  128) (nat_lit 0))] [(nat_lit 508, Obj.arr (nat_lit 9) xs), (nat_lit 636, Obj.arr (nat_lit 9) (ys ++ [nth (U.i (0 : Int)) (U.list (nth (U.i (0 : Int)) (U.list L) (Int.toNat (U.int i)))) (0 : Nat)] ++ List.map
  e0 (List.drop (Int.toNat (IntKind.wrap IntKind.i64 (U.int i + (1 : Int)))) (U.list L)))), (nat_lit 128, Obj.box [SV.val (Ct.int IntKind.i64) c, SV.val (Ct.int IntKind.i64) sz, SV.val Ct.str bk, SV.val
  (Ct.sl false [Ct.sl true [Ct.int IntKind.i64, Ct.int IntKind.i64, Ct.int IntKind.i64, Ct.int IntKind.i64, Ct.int IntKind.u32]]) T, SV.val (Ct.sl true [Ct.str, Ct.int IntKind.i64, Ct.sl false [Ct.sl true
  [Ct.int IntKind.i64, Ct.int IntKind.i64, Ct.int IntKind.i64, Ct.int IntKind.i64, Ct.int IntKind.u32]]]) S, SV.val (Ct.sl true [Ct.str, Ct.bool, Ct.sl true [Ct.int IntKind.i64, Ct.int IntKind.i64]]) M,
  SV.val (Ct.sl false [Ct.int IntKind.i64]) Q])]) else k Ex.ret (St.mk [(nat_lit 2, SV.val Ct.bool (U.b false))] []) else False else False else False else k (Ex.exit (nat_lit 2)) (St.mk [(nat_lit 3, SV.own
  (nat_lit 508)), (nat_lit 4, SV.own (nat_lit 636)), (nat_lit 1, SV.ptr (nat_lit 128) (nat_lit 0))] [(nat_lit 508, Obj.arr (nat_lit 9) xs), (nat_lit 636, Obj.arr (nat_lit 9) ys), (nat_lit 128, Obj.box [SV.val
  (Ct.int IntKind.i64) c, SV.val (Ct.int IntKind.i64) sz, SV.val Ct.str bk, SV.val (Ct.sl false [Ct.sl true [Ct.int IntKind.i64, Ct.int IntKind.i64, Ct.int IntKind.i64, Ct.int IntKind.i64, Ct.int IntKind.u32]])
  T, SV.val (Ct.sl true [Ct.str, Ct.int IntKind.i64, Ct.sl false [Ct.sl true [Ct.int IntKind.i64, Ct.int IntKind.i64, Ct.int IntKind.i64, Ct.int IntKind.i64, Ct.int IntKind.u32]]]) S, SV.val (Ct.sl true
  [Ct.str, Ct.bool, Ct.sl true [Ct.int IntKind.i64, Ct.int IntKind.i64]]) M, SV.val (Ct.sl false [Ct.int IntKind.i64]) Q])])) := by kernel_rfl
theorem counts_round (pan : KP) (μ : Mu) (N : Nat) (k : KE) (i n L : U) (xs ys : List U) : (exec (metaC.panics pan) (loopBody Try.f21 2) 4 ⟨[(137, vi i), (136, vi n), (135, vl (.int .i64) L), (3, .own 508), (4, .own 636)], [(508, .arr strT xs), (636, .arr strT ys)]⟩ (again PR (some ([3, 4], [508, 636])) (some ([2], [])) pan [137, 136, 135, 3, 4] [508, 636] metaLoop4 μ N k)) = (bif decide (U.int i < U.int n) then bif decide ((0 : Int) ≤ U.int i ∧ U.int i < (↑(List.length (U.list L)) : Int)) then bif decide (U.int (nth (U.i (0 : Int)) (U.list L) (Int.toNat (U.int i))) < (0 : Int))
  then k Ex.ret (St.mk [(nat_lit 2, SV.val Ct.bool (U.b false))] []) else bif decide (U.int (nth (U.i (0 : Int)) (U.list L) (Int.toNat (U.int i))) > (65535 : Int)) then k Ex.ret (St.mk [(nat_lit 2, SV.val
  Ct.bool (U.b false))] []) else bif Nat.blt (μ [SV.val (Ct.int IntKind.i64) (U.i (IntKind.wrap IntKind.i64 (U.int i + (1 : Int)))), SV.val (Ct.int IntKind.i64) n, SV.val (Ct.sl false [Ct.int IntKind.i64])
  L, SV.own (nat_lit 508), SV.own (nat_lit 636)] [Obj.arr (nat_lit 9) xs, Obj.arr (nat_lit 9) ys]) N then (nat_lit 508 = nat_lit 508 ∧ nat_lit 636 = nat_lit 636 ∧ nat_lit 9 = nat_lit 9 ∧ nat_lit 9 = nat_lit
  9 ∧ U.int n = (↑(List.length (U.list L)) : Int) ∧ (0 : Int) ≤ IntKind.wrap IntKind.i64 (U.int i + (1 : Int)) ∧ IntKind.wrap IntKind.i64 (U.int i + (1 : Int)) ≤ U.int n) ∧ bif countsR (List.drop (Int.toNat
  (IntKind.wrap IntKind.i64 (U.int i + (1 : Int)))) (U.list L)) then k (Ex.exit (nat_lit 4)) (St.mk [(nat_lit 3, SV.own (nat_lit 508)), (nat_lit 4, SV.own (nat_lit 636))] [(nat_lit 508, Obj.arr (nat_lit
  9) xs), (nat_lit 636, Obj.arr (nat_lit 9) ys)]) else k Ex.ret (St.mk [(nat_lit 2, SV.val Ct.bool (U.b false))] []) else False else False else k (Ex.exit (nat_lit 4)) (St.mk [(nat_lit 3, SV.own (nat_lit
  508)), (nat_lit 4, SV.own (nat_lit 636))] [(nat_lit 508, Obj.arr (nat_lit 9) xs), (nat_lit 636, Obj.arr (nat_lit 9) ys)])) := by kernel_rfl
theorem meta_tree (R : RF) (c sz bk T S M Q : U) : (run metaC Try.f21 [[c, sz, bk, T, S, M, Q]] R) = (bif decide (U.int c < (0 : Int)) then R [[U.b false]] else bif decide (U.int c > (6 : Int)) then R [[U.b false]] else sizeP [[sz], [c]] ∧ bif !sizeR (U.int sz) (U.int c) then R [[U.b false]] else bif !ByteArray.toList
  (U.str bk) == ByteArray.toList (ByteArray.mk #[]) then bif !nameR (U.str bk) then R [[U.b false]] else bif decide (U.int c < (0 : Int)) then False else bif !tableR (U.list T) (Int.fdiv (U.int sz) ((2 :
  Int) ^ min (Int.toNat (U.int c)) (IntKind.bits IntKind.i64))) (U.int c) then R [[U.b false]] else bif decide ((↑(List.length (U.list S)) : Int) > (8 : Int)) then R [[U.b false]] else bif decide ((↑(List.length
  (U.list M)) : Int) > (8 : Int)) then R [[U.b false]] else bif decide ((↑(List.length (U.list Q)) : Int) > (65536 : Int)) then R [[U.b false]] else ([Ct.int IntKind.i64, Ct.int IntKind.i64, Ct.int IntKind.i64,
  Ct.int IntKind.i64, Ct.int IntKind.u32] = [Ct.int IntKind.i64, Ct.int IntKind.i64, Ct.int IntKind.i64, Ct.int IntKind.i64, Ct.int IntKind.u32] ∧ [Ct.str, Ct.int IntKind.i64, Ct.sl false [Ct.sl true [Ct.int
  IntKind.i64, Ct.int IntKind.i64, Ct.int IntKind.i64, Ct.int IntKind.i64, Ct.int IntKind.u32]]] = [Ct.str, Ct.int IntKind.i64, Ct.sl false [Ct.sl true [Ct.int IntKind.i64, Ct.int IntKind.i64, Ct.int IntKind.i64,
  Ct.int IntKind.i64, Ct.int IntKind.u32]]] ∧ [Ct.str, Ct.bool, Ct.sl true [Ct.int IntKind.i64, Ct.int IntKind.i64]] = [Ct.str, Ct.bool, Ct.sl true [Ct.int IntKind.i64, Ct.int IntKind.i64]] ∧ [Ct.str, Ct.int
  IntKind.i64, Ct.sl false [Ct.sl true [Ct.int IntKind.i64, Ct.int IntKind.i64, Ct.int IntKind.i64, Ct.int IntKind.i64, Ct.int IntKind.u32]]] = [Ct.str, Ct.int IntKind.i64, Ct.sl false [Ct.sl true [Ct.int
  IntKind.i64, Ct.int IntKind.i64, Ct.int IntKind.i64, Ct.int IntKind.i64, Ct.int IntKind.u32]]] ∧ nat_lit 508 = nat_lit 508 ∧ nat_lit 636 = nat_lit 636 ∧ nat_lit 128 = nat_lit 128 ∧ nat_lit 0 = nat_lit
  0 ∧ nat_lit 9 = nat_lit 9 ∧ nat_lit 9 = nat_lit 9 ∧ (↑(List.length (U.list S)) : Int) = (↑(List.length (U.list S)) : Int) ∧ (↑(List.length (U.list S)) : Int) ≤ (8 : Int) ∧ (0 : Int) ≤ (0 : Int) ∧ (0 :
  Int) ≤ (↑(List.length (U.list S)) : Int) ∧ (0 : Int) ≤ U.int c ∧ U.int c ≤ (6 : Int) ∧ (↑(0 : Nat) : Int) ≤ (0 : Int)) ∧ bif shotsR (U.int c) (List.drop (Int.toNat (0 : Int)) (U.list S)) then ([Ct.int
  IntKind.i64, Ct.int IntKind.i64, Ct.int IntKind.i64, Ct.int IntKind.i64, Ct.int IntKind.u32] = [Ct.int IntKind.i64, Ct.int IntKind.i64, Ct.int IntKind.i64, Ct.int IntKind.i64, Ct.int IntKind.u32] ∧ [Ct.str,
  Ct.int IntKind.i64, Ct.sl false [Ct.sl true [Ct.int IntKind.i64, Ct.int IntKind.i64, Ct.int IntKind.i64, Ct.int IntKind.i64, Ct.int IntKind.u32]]] = [Ct.str, Ct.int IntKind.i64, Ct.sl false [Ct.sl true
  [Ct.int IntKind.i64, Ct.int IntKind.i64, Ct.int IntKind.i64, Ct.int IntKind.i64, Ct.int IntKind.u32]]] ∧ [Ct.str, Ct.bool, Ct.sl true [Ct.int IntKind.i64, Ct.int IntKind.i64]] = [Ct.str, Ct.bool, Ct.sl
  true [Ct.int IntKind.i64, Ct.int IntKind.i64]] ∧ [Ct.str, Ct.bool, Ct.sl true [Ct.int IntKind.i64, Ct.int IntKind.i64]] = [Ct.str, Ct.bool, Ct.sl true [Ct.int IntKind.i64, Ct.int IntKind.i64]] ∧ nat_lit
  508 = nat_lit 508 ∧ nat_lit 636 = nat_lit 636 ∧ nat_lit 128 = nat_lit 128 ∧ nat_lit 0 = nat_lit 0 ∧ nat_lit 9 = nat_lit 9 ∧ nat_lit 9 = nat_lit 9 ∧ (↑(List.length (U.list M)) : Int) = (↑(List.length (U.list
  M)) : Int) ∧ (↑(List.length (U.list M)) : Int) ≤ (8 : Int) ∧ (0 : Int) ≤ (0 : Int) ∧ (0 : Int) ≤ (↑(List.length (U.list M)) : Int) ∧ (↑(0 : Nat) : Int) ≤ (0 : Int)) ∧ bif mapsR (List.drop (Int.toNat (0
  : Int)) (U.list M)) then (nat_lit 508 = nat_lit 508 ∧ nat_lit 636 = nat_lit 636 ∧ nat_lit 9 = nat_lit 9 ∧ nat_lit 9 = nat_lit 9 ∧ (↑(List.length (U.list Q)) : Int) = (↑(List.length (U.list Q)) : Int) ∧
  (0 : Int) ≤ (0 : Int) ∧ (0 : Int) ≤ (↑(List.length (U.list Q)) : Int)) ∧ bif countsR (List.drop (Int.toNat (0 : Int)) (U.list Q)) then bif unlikeR [] ([] ++ List.map e0 (List.drop (Int.toNat (0 : Int))
  (U.list S))) then R [[U.b (unlikeR [] ([] ++ List.map e0 (List.drop (Int.toNat (0 : Int)) (U.list M))))]] else R [[U.b false]] else R [[U.b false]] else R [[U.b false]] else R [[U.b false]] else bif decide
  (U.int c < (0 : Int)) then False else bif !tableR (U.list T) (Int.fdiv (U.int sz) ((2 : Int) ^ min (Int.toNat (U.int c)) (IntKind.bits IntKind.i64))) (U.int c) then R [[U.b false]] else bif decide ((↑(List.length
  (U.list S)) : Int) > (8 : Int)) then R [[U.b false]] else bif decide ((↑(List.length (U.list M)) : Int) > (8 : Int)) then R [[U.b false]] else bif decide ((↑(List.length (U.list Q)) : Int) > (65536 : Int))
  then R [[U.b false]] else ([Ct.int IntKind.i64, Ct.int IntKind.i64, Ct.int IntKind.i64, Ct.int IntKind.i64, Ct.int IntKind.u32] = [Ct.int IntKind.i64, Ct.int IntKind.i64, Ct.int IntKind.i64, Ct.int IntKind.i64,
  Ct.int IntKind.u32] ∧ [Ct.str, Ct.int IntKind.i64, Ct.sl false [Ct.sl true [Ct.int IntKind.i64, Ct.int IntKind.i64, Ct.int IntKind.i64, Ct.int IntKind.i64, Ct.int IntKind.u32]]] = [Ct.str, Ct.int IntKind.i64,
  Ct.sl false [Ct.sl true [Ct.int IntKind.i64, Ct.int IntKind.i64, Ct.int IntKind.i64, Ct.int IntKind.i64, Ct.int IntKind.u32]]] ∧ [Ct.str, Ct.bool, Ct.sl true [Ct.int IntKind.i64, Ct.int IntKind.i64]] =
  [Ct.str, Ct.bool, Ct.sl true [Ct.int IntKind.i64, Ct.int IntKind.i64]] ∧ [Ct.str, Ct.int IntKind.i64, Ct.sl false [Ct.sl true [Ct.int IntKind.i64, Ct.int IntKind.i64, Ct.int IntKind.i64, Ct.int IntKind.i64,
  Ct.int IntKind.u32]]] = [Ct.str, Ct.int IntKind.i64, Ct.sl false [Ct.sl true [Ct.int IntKind.i64, Ct.int IntKind.i64, Ct.int IntKind.i64, Ct.int IntKind.i64, Ct.int IntKind.u32]]] ∧ nat_lit 508 = nat_lit
  508 ∧ nat_lit 636 = nat_lit 636 ∧ nat_lit 128 = nat_lit 128 ∧ nat_lit 0 = nat_lit 0 ∧ nat_lit 9 = nat_lit 9 ∧ nat_lit 9 = nat_lit 9 ∧ (↑(List.length (U.list S)) : Int) = (↑(List.length (U.list S)) : Int)
  ∧ (↑(List.length (U.list S)) : Int) ≤ (8 : Int) ∧ (0 : Int) ≤ (0 : Int) ∧ (0 : Int) ≤ (↑(List.length (U.list S)) : Int) ∧ (0 : Int) ≤ U.int c ∧ U.int c ≤ (6 : Int) ∧ (↑(0 : Nat) : Int) ≤ (0 : Int)) ∧ bif
  shotsR (U.int c) (List.drop (Int.toNat (0 : Int)) (U.list S)) then ([Ct.int IntKind.i64, Ct.int IntKind.i64, Ct.int IntKind.i64, Ct.int IntKind.i64, Ct.int IntKind.u32] = [Ct.int IntKind.i64, Ct.int IntKind.i64,
  Ct.int IntKind.i64, Ct.int IntKind.i64, Ct.int IntKind.u32] ∧ [Ct.str, Ct.int IntKind.i64, Ct.sl false [Ct.sl true [Ct.int IntKind.i64, Ct.int IntKind.i64, Ct.int IntKind.i64, Ct.int IntKind.i64, Ct.int
  IntKind.u32]]] = [Ct.str, Ct.int IntKind.i64, Ct.sl false [Ct.sl true [Ct.int IntKind.i64, Ct.int IntKind.i64, Ct.int IntKind.i64, Ct.int IntKind.i64, Ct.int IntKind.u32]]] ∧ [Ct.str, Ct.bool, Ct.sl true
  [Ct.int IntKind.i64, Ct.int IntKind.i64]] = [Ct.str, Ct.bool, Ct.sl true [Ct.int IntKind.i64, Ct.int IntKind.i64]] ∧ [Ct.str, Ct.bool, Ct.sl true [Ct.int IntKind.i64, Ct.int IntKind.i64]] = [Ct.str, Ct.bool,
  Ct.sl true [Ct.int IntKind.i64, Ct.int IntKind.i64]] ∧ nat_lit 508 = nat_lit 508 ∧ nat_lit 636 = nat_lit 636 ∧ nat_lit 128 = nat_lit 128 ∧ nat_lit 0 = nat_lit 0 ∧ nat_lit 9 = nat_lit 9 ∧ nat_lit 9 = nat_lit
  9 ∧ (↑(List.length (U.list M)) : Int) = (↑(List.length (U.list M)) : Int) ∧ (↑(List.length (U.list M)) : Int) ≤ (8 : Int) ∧ (0 : Int) ≤ (0 : Int) ∧ (0 : Int) ≤ (↑(List.length (U.list M)) : Int) ∧ (↑(0
  : Nat) : Int) ≤ (0 : Int)) ∧ bif mapsR (List.drop (Int.toNat (0 : Int)) (U.list M)) then (nat_lit 508 = nat_lit 508 ∧ nat_lit 636 = nat_lit 636 ∧ nat_lit 9 = nat_lit 9 ∧ nat_lit 9 = nat_lit 9 ∧ (↑(List.length
  (U.list Q)) : Int) = (↑(List.length (U.list Q)) : Int) ∧ (0 : Int) ≤ (0 : Int) ∧ (0 : Int) ≤ (↑(List.length (U.list Q)) : Int)) ∧ bif countsR (List.drop (Int.toNat (0 : Int)) (U.list Q)) then bif unlikeR
  [] ([] ++ List.map e0 (List.drop (Int.toNat (0 : Int)) (U.list S))) then R [[U.b (unlikeR [] ([] ++ List.map e0 (List.drop (Int.toNat (0 : Int)) (U.list M))))]] else R [[U.b false]] else R [[U.b false]]
  else R [[U.b false]] else R [[U.b false]]) := by kernel_rfl
end Go.Mat

namespace Go.Mat
open Go Go.Den Go.Proofs
theorem shr_in {n c : Int} (h : 0 ≤ c) (h' : c ≤ 6) : Int.fdiv n (2 ^ min c.toNat (IntKind.bits .i64)) = n / 2 ^ c.toNat := by
  rw [shl_min h h', Int.fdiv_eq_ediv_of_nonneg _ (by have := (pow_le h h').1; omega)]
theorem map_snoc (xs : List U) (s : U) (r : List U) : xs ++ [nth (.i 0) s.list 0] ++ r.map e0 = xs ++ (s :: r).map e0 := by simp
theorem shots_loop : LoopOk metaC 0 (loopBody Try.f21 0) := by
  refine loopOk_of (F := metaLoop0) (ts := [70, 69, 68, 3, 4, 1]) (os := [508, 636, 128]) rfl (fun svs _ => match svs with | .val _ i :: .val _ m :: _ => (m.int - i.int).toNat | _ => 0) ?_
  intro pan svs os k ho1 ho2 h
  unfold metaLoop0 at h
  split at h
  · rename_i i n ec L o1 o2 pp po t1 xs t2 ys c sz bk x1 T x2 S x3 M Q
    obtain ⟨⟨rfl, rfl, rfl, rfl, rfl, rfl, rfl, rfl, rfl, rfl, hn, hn8, h0, hi, hc0, hc6, hx⟩, hk⟩ := h
    refine .eq (shots_round pan _ _ k i n L c sz bk T S M Q xs ys) ?_
    refine bd (fun hlt => dt ⟨h0, by omega⟩ ?_) (fun hlt => ?_)
    · rw [drop_at (by omega), shotsR, ← map_snoc] at hk
      simp only [U.at, e1, e2] at hk
      have hw : IntKind.wrap .i64 (i.int + 1) = i.int + 1 := i64_in (by omega) (by omega)
      have hc : (i.int + 1).toNat = i.int.toNat + 1 := by omega
      have hlt' : (n.int - (i.int + 1)).toNat < (n.int - i.int).toNat := by omega
      simp only [nth_tail, Nat.zero_add, Nat.reduceAdd, hw, hc, shr_in hc0 hc6]
      generalize nth (U.i 0) L.list i.int.toNat = s at hk ⊢
      refine broom (by simp [room]; omega) rfl ⟨⟨by simpa using hc0, by simpa using hc6⟩, bi (fun h1 => ?_) (fun h1 => df (by omega) (bi (fun h2 => ?_) (fun h2 => ?_)))⟩
      · rw [nt h1] at hk; exact hk
      · rw [nf h1, nt h2] at hk; exact hk
      · rw [nf h1, nf h2] at hk
        exact blt hlt' ⟨⟨by trivial, by trivial, by trivial, by trivial, by trivial, by trivial, by trivial, by trivial, by trivial, by trivial, hn, hn8, by omega, by omega, hc0, hc6, by simp; omega⟩, hk⟩
    · rw [List.drop_of_length_le (by omega)] at hk
      simpa [shotsR] using hk
  · exact h.elim
theorem maps_loop : LoopOk metaC 2 (loopBody Try.f21 1) := by
  refine loopOk_of (F := metaLoop2) (ts := [102, 101, 100, 3, 4, 1]) (os := [508, 636, 128]) rfl (fun svs _ => match svs with | .val _ i :: .val _ m :: _ => (m.int - i.int).toNat | _ => 0) ?_
  intro pan svs os k ho1 ho2 h
  unfold metaLoop2 at h
  split at h
  · rename_i i n ec L o1 o2 pp po t1 xs t2 ys c sz bk x1 T x2 S x3 M Q
    obtain ⟨⟨rfl, rfl, rfl, rfl, rfl, rfl, rfl, rfl, rfl, rfl, hn, hn8, h0, hi, hx⟩, hk⟩ := h
    have hlen : ∀ j, j < L.list.length → (nth (.i 0) (nth (.i 0) L.list j).list 2).list.length ≤ maxLen := fun j hj => by
      have h2 := (ho1.2.2.1.2 j hj).2.2.1.1
      simpa [U.at, elemU] using h2
    refine .eq (maps_round pan _ _ k i n L c sz bk T S M Q xs ys) ?_
    refine bd (fun hlt => dt ⟨h0, by omega⟩ ?_) (fun hlt => ?_)
    · have hl := hlen i.int.toNat (by omega)
      rw [drop_at (by omega), mapsR, ← map_snoc] at hk
      simp only [U.at, e1, e2] at hk
      have hw : IntKind.wrap .i64 (i.int + 1) = i.int + 1 := i64_in (by omega) (by omega)
      have hc : (i.int + 1).toNat = i.int.toNat + 1 := by omega
      have hlt' : (n.int - (i.int + 1)).toNat < (n.int - i.int).toNat := by omega
      simp only [nth_tail, nth_drop, Nat.zero_add, Nat.add_zero, Nat.reduceAdd, hw, hc]
      generalize nth (U.i 0) L.list i.int.toNat = s at hk hl ⊢
      generalize (nth (U.i 0) s.list 2).list = l at hk hl ⊢
      have hw1 : 0 < l.length → IntKind.wrap .i64 ((l.length : Int) - 1) = (l.length : Int) - 1 := fun h => i64_in (by omega) (by unfold maxLen at hl; omega)
      refine broom (by simp [room]; omega) rfl (bi (fun h1 => ?_) (fun h1 => bd (fun h2 => ?_) (fun h2 => ?_)))
      · rw [nt h1] at hk; exact hk
      · rw [hw1 (by omega)]
        have hj : ((l.length : Int) - 1).toNat = l.length - 1 := by omega
        refine dt (by omega) (bd (fun h3 => ?_) (fun h3 => ?_))
        · rw [hj] at h3
          rw [nf h1, lastR, decide_eq_true (show 0 < l.length by omega)] at hk
          simp only [U.at, e1] at hk
          rw [decide_eq_false (by omega)] at hk
          exact hk
        · rw [hj] at h3
          rw [nf h1, lastR, decide_eq_true (show 0 < l.length by omega)] at hk
          simp only [U.at, e1] at hk
          rw [decide_eq_true (by omega)] at hk
          exact blt hlt' ⟨⟨by trivial, by trivial, by trivial, by trivial, by trivial, by trivial, by trivial, by trivial, by trivial, by trivial, hn, hn8, by omega, by omega, by simp; omega⟩, hk⟩
      · rw [nf h1, lastR, decide_eq_false (show ¬ 0 < l.length by omega)] at hk
        exact blt hlt' ⟨⟨by trivial, by trivial, by trivial, by trivial, by trivial, by trivial, by trivial, by trivial, by trivial, by trivial, hn, hn8, by omega, by omega, by simp; omega⟩, hk⟩
    · rw [List.drop_of_length_le (by omega)] at hk
      simpa [mapsR] using hk
  · exact h.elim
theorem counts_loop : LoopOk metaC 4 (loopBody Try.f21 2) := by
  refine loopOk_of (F := metaLoop4) (ts := [137, 136, 135, 3, 4]) (os := [508, 636]) rfl (fun svs _ => match svs with | .val _ i :: .val _ m :: _ => (m.int - i.int).toNat | _ => 0) ?_
  intro pan svs os k ho1 ho2 h
  unfold metaLoop4 at h
  split at h
  · rename_i i n L o1 o2 t1 xs t2 ys
    obtain ⟨⟨rfl, rfl, rfl, rfl, hn, h0, hi⟩, hk⟩ := h
    have hL : L.list.length ≤ maxLen := ho1.2.2.1.1
    refine .eq (counts_round pan _ _ k i n L xs ys) ?_
    refine bd (fun hlt => dt ⟨h0, by omega⟩ ?_) (fun hlt => ?_)
    · rw [drop_at (by omega), countsR] at hk
      simp only [U.at] at hk
      have hw : IntKind.wrap .i64 (i.int + 1) = i.int + 1 := i64_in (by omega) (by unfold maxLen at hL; omega)
      have hc : (i.int + 1).toNat = i.int.toNat + 1 := by omega
      have hlt' : (n.int - (i.int + 1)).toNat < (n.int - i.int).toNat := by omega
      simp only [hw, hc]
      refine bd (fun h1 => ?_) (fun h1 => bd (fun h2 => ?_) (fun h2 => ?_))
      · rw [decide_eq_false (by omega)] at hk; exact hk
      · rw [decide_eq_true (show 0 ≤ (nth (U.i 0) L.list i.int.toNat).int by omega), decide_eq_false (by omega)] at hk; exact hk
      · rw [decide_eq_true (show 0 ≤ (nth (U.i 0) L.list i.int.toNat).int by omega), decide_eq_true (by omega)] at hk
        exact blt hlt' ⟨⟨by trivial, by trivial, by trivial, by trivial, hn, by omega, by omega⟩, hk⟩
    · rw [List.drop_of_length_le (by omega)] at hk
      exact hk
  · exact h.elim
theorem metaR_iff (c sz bk T S M Q : U) : metaR c sz bk T S M Q = true ↔ 0 ≤ c.int ∧ c.int ≤ 6 ∧ sizeR sz.int c.int = true ∧ backR bk.str = true ∧ tableR T.list (sz.int / 2 ^ c.int.toNat) c.int = true ∧ S.list.length ≤ 8 ∧ M.list.length ≤ 8 ∧ Q.list.length ≤ 65536 ∧
    shotsR c.int S.list = true ∧ mapsR M.list = true ∧ countsR Q.list = true ∧ unlikeR [] (S.list.map e0) = true ∧ unlikeR [] (M.list.map e0) = true := by
  simp only [metaR, Bool.and_eq_true, decide_eq_true_eq, and_assoc]
theorem meta_neg {c sz bk T S M Q : U} (h : (0 ≤ c.int ∧ c.int ≤ 6 ∧ sizeR sz.int c.int = true ∧ backR bk.str = true ∧ tableR T.list (sz.int / 2 ^ c.int.toNat) c.int = true ∧ S.list.length ≤ 8 ∧ M.list.length ≤ 8 ∧ Q.list.length ≤ 65536 ∧
    shotsR c.int S.list = true ∧ mapsR M.list = true ∧ countsR Q.list = true ∧ unlikeR [] (S.list.map e0) = true ∧ unlikeR [] (M.list.map e0) = true) → False) : ([[U.b false]] : List (List U)) = [[.b (metaR c sz bk T S M Q)]] := by
  rw [show metaR c sz bk T S M Q = false from Bool.eq_false_iff.2 fun h' => h ((metaR_iff ..).1 h')]
theorem fls {b : Bool} (h : (!b) = true) (h' : b = true) : False := by rw [h'] at h; cases h
theorem flf {b : Bool} (h : b = false) (h' : b = true) : False := by rw [h'] at h; cases h
theorem meta_ok : SpecF PR 21 metaS := fun fn us hfn => by
  have hf : PR.funcs[(21 : Nat)]? = some Try.f21 := by kernel_rfl
  rw [hf] at hfn; cases hfn
  refine fn_okH (C := metaC) (mkC_ok eqs0_ok mixed_ok (.consP size_ok (.cons name_ok (.cons tab_ok (.cons spans_ok (.cons unlike_ok .nil))))) .nil) hf (by kernel_rfl) (loops_three (by kernel_rfl) shots_loop maps_loop counts_loop) fun hok => ?_
  have hp : Try.f21.params.toList = [29] := by kernel_rfl
  rw [hp] at hok
  obtain ⟨c, sz, bk, T, S, M, Q, hus⟩ : ∃ c sz bk T S M Q, us = [[c, sz, bk, T, S, M, Q]] := by
    obtain ⟨u, rfl, h1⟩ := shape1 (by kernel_rfl : Cs PR 29 = some (true, [.int .i64, .int .i64, .str, .sl false [.sl true EC], .sl true SC, .sl true BC, .sl false [.int .i64]])) hok.1
    obtain ⟨c, sz, bk, T, S, M, Q, rfl⟩ := len7 h1
    exact ⟨c, sz, bk, T, S, M, Q, rfl⟩
  subst hus
  refine .eq (meta_tree _ _ _ _ _ _ _ _) ?_
  unfold metaS
  simp only [nth_zero, nth_succ]
  have eb : (ByteArray.toList bk.str == ByteArray.toList { data := #[] }) = (bk.str.data.toList == []) := by rw [ByteArray.toList_eq, ByteArray.toList_eq]
  rw [eb]
  refine bd (fun h => meta_neg fun h' => by omega) (fun hc0 => bd (fun h => meta_neg fun h' => by omega) (fun hc6 => ⟨⟨by simpa using hc0, by simpa using hc6⟩, bi (fun h => meta_neg fun h' => fls h h'.2.2.1) (fun hs => ?_)⟩))
  replace hc0 : 0 ≤ c.int := by omega
  replace hc6 : c.int ≤ 6 := by omega
  simp only [shr_in hc0 hc6, Int.toNat_zero, List.drop_zero, List.nil_append]
  refine bi (fun hb => bi (fun hb2 => meta_neg fun h' => ?_) (fun hb2 => ?_)) (fun hb => ?_)
  · have := h'.2.2.2.1
    rw [backR, nt hb, nt hb2] at this; cases this
  all_goals
    have hbk : backR bk.str = true := by
      rw [backR]
      first | rw [nf hb2, Bool.or_true] | rw [nf hb, Bool.true_or]
    refine df (by omega) (bi (fun h => meta_neg fun h' => fls h h'.2.2.2.2.1) (fun ht => ?_))
    refine bd (fun h => meta_neg fun h' => by omega) (fun h8 => bd (fun h => meta_neg fun h' => by omega) (fun h9 => bd (fun h => meta_neg fun h' => by omega) (fun h10 => ?_)))
    refine ⟨⟨by trivial, by trivial, by trivial, by trivial, by trivial, by trivial, by trivial, by trivial, by trivial, by trivial, by trivial, by omega, by omega, by omega, hc0, hc6, by simp⟩, bi (fun h11 => ?_) (fun h => meta_neg fun h' => flf h h'.2.2.2.2.2.2.2.2.1)⟩
    refine ⟨⟨by trivial, by trivial, by trivial, by trivial, by trivial, by trivial, by trivial, by trivial, by trivial, by trivial, by trivial, by omega, by omega, by omega, by simp⟩, bi (fun h12 => ?_) (fun h => meta_neg fun h' => flf h h'.2.2.2.2.2.2.2.2.2.1)⟩
    refine ⟨⟨by trivial, by trivial, by trivial, by trivial, by trivial, by omega, by omega⟩, bi (fun h13 => ?_) (fun h => meta_neg fun h' => flf h h'.2.2.2.2.2.2.2.2.2.2.1)⟩
    refine bi (fun h14 => ?_) (fun h => meta_neg fun h' => flf h h'.2.2.2.2.2.2.2.2.2.2.2.1)
    refine ubi ?_
    rw [metaR_iff]
    exact ⟨fun h => ⟨hc0, hc6, nf hs, hbk, nf ht, by omega, by omega, by omega, h11, h12, h13, h14, h⟩, fun h => h.2.2.2.2.2.2.2.2.2.2.2.2⟩
end Go.Mat

namespace Go.Mat
open Go Go.Den Go.Proofs
def hasR (x : U) : List U → Bool
  | [] => false
  | s :: r => ((e0 s).str.data.toList == x.str.data.toList) || hasR x r
def findR (x : U) : Int → List U → Int
  | _, [] => -1
  | i, s :: r => bif (e0 s).str.data.toList == x.str.data.toList then i else findR x (i + 1) r
def rshotsR (c : Int) (S : List U) : Int → List U → Bool
  | _, [] => true
  | i, s :: r => nameR (e0 s).str && (findR (e0 s) 0 S == i) && sizeR (e1 s).int c && rtableR (e2 s).list ((e1 s).int / 2 ^ c.toNat) c && rshotsR c S (i + 1) r
def rmapsR (M : List U) : Int → List U → Bool
  | _, [] => true
  | i, b :: r => nameR (e0 b).str && (findR (e0 b) 0 M == i) && spansR (-1) (e2 b).list && lastR (e2 b).list && rmapsR M (i + 1) r
def rmetaR (c sz bk T S M Q : U) : Bool :=
  decide (0 ≤ c.int) && decide (c.int ≤ 6) && sizeR sz.int c.int && backR bk.str && decide (S.list.length ≤ 8) && decide (M.list.length ≤ 8) && decide (Q.list.length ≤ 65536) && rtableR T.list (sz.int / 2 ^ c.int.toNat) c.int &&
  rshotsR c.int S.list 0 S.list && rmapsR M.list 0 M.list && countsR Q.list
end Go.Mat

namespace Go.Mat
open Go Go.Den Go.Proofs
theorem hasR_app (x : U) : ∀ p q : List U, hasR x (p ++ q) = (hasR x p || hasR x q)
  | [], q => rfl
  | s :: r, q => by rw [List.cons_append, hasR, hasR, hasR_app x r q, Bool.or_assoc]
theorem findR_app (x : U) : ∀ (p q : List U) (i : Int), hasR x p = false → findR x i (p ++ q) = findR x (i + p.length) q
  | [], q, i, _ => by simp
  | s :: r, q, i, h => by
    rw [hasR, Bool.or_eq_false_iff] at h
    rw [List.cons_append, findR, h.1, cond_false, findR_app x r q _ h.2]
    congr 1; simp; omega
theorem findR_lt (x : U) : ∀ (p q : List U) (i : Int), hasR x p = true → findR x i (p ++ q) < i + p.length
  | s :: r, q, i, h => by
    rw [List.cons_append, findR]
    cases hc : (e0 s).str.data.toList == x.str.data.toList with
    | true => simp; omega
    | false =>
      rw [hasR, hc, Bool.false_or] at h
      have := findR_lt x r q (i + 1) h
      simp only [cond_false, List.length_cons]; omega
theorem findR_at (s : U) (p q : List U) : (findR (e0 s) 0 (p ++ s :: q) == (p.length : Int)) = !hasR (e0 s) p := by
  cases h : hasR (e0 s) p with
  | true => have := findR_lt (e0 s) p (s :: q) 0 h; simp; omega
  | false => rw [findR_app _ _ _ _ h, findR]; simp
theorem ueq_iff (a b : U) : ueq .str a b = true ↔ a.str.data.toList = b.str.data.toList := by simp [ueq]
theorem mhas_mput (y x v : U) : ∀ es : List (U × U), mhas .str y (mput .str x v es) = (mhas .str y es || ueq .str y x)
  | [] => by simp [mput, mhas]
  | (a, z) :: r => by
    unfold mput
    cases hu : ueq .str x a with
    | true =>
      have h1 := (ueq_iff _ _).1 hu
      have h2 : ueq .str y a = ueq .str y x := by rw [Bool.eq_iff_iff, ueq_iff, ueq_iff, h1]
      simp only [cond_true, mhas, h2]
      cases ueq .str y x <;> simp
    | false => simp only [cond_false, mhas, mhas_mput y x v r, Bool.or_assoc]
theorem ueq_has (y s : U) : ueq .str y (e0 s) = ((e0 s).str.data.toList == y.str.data.toList) := by
  rw [Bool.eq_iff_iff, ueq_iff, beq_iff_eq]; exact eq_comm
theorem keys_step {es : List (U × U)} {p : List U} {s : U} (h : ∀ x, mhas .str x es = hasR x p) : ∀ x, mhas .str x (mput .str (e0 s) (.i 1) es) = hasR x (p ++ [s]) := fun x => by
  rw [mhas_mput, hasR_app, h x, ueq_has]; simp [hasR]
theorem rshotsR_eq {c : Int} {S : List U} : ∀ (r p : List U) (es : List (U × U)), S = p ++ r → (∀ x, mhas .str x es = hasR x p) →
    (∀ s ∈ r, rtableR (e2 s).list ((e1 s).int / 2 ^ c.toNat) c = tableR (e2 s).list ((e1 s).int / 2 ^ c.toNat) c) → rshotsR c S p.length r = (shotsR c r && unlikeR es (r.map e0))
  | [], _, _, _, _, _ => rfl
  | s :: r, p, es, hS, hk, ht => by
    have hr := rshotsR_eq (c := c) (S := S) r (p ++ [s]) _ (by rw [hS]; simp) (keys_step (s := s) hk) fun s hs => ht s (by simp [hs])
    have hl : (((p ++ [s]).length : Nat) : Int) = (p.length : Int) + 1 := by simp
    rw [hl] at hr
    rw [rshotsR, hr, shotsR, List.map_cons, unlikeR, ht s (by simp), hk (e0 s)]
    have hf : (findR (e0 s) 0 S == (p.length : Int)) = !hasR (e0 s) p := by rw [hS]; exact findR_at s p r
    rw [hf]
    cases nameR (e0 s).str <;> cases hasR (e0 s) p <;> cases sizeR (e1 s).int c <;> cases tableR (e2 s).list ((e1 s).int / 2 ^ c.toNat) c <;> simp
theorem rmapsR_eq {M : List U} : ∀ (r p : List U) (es : List (U × U)), M = p ++ r → (∀ x, mhas .str x es = hasR x p) → rmapsR M p.length r = (mapsR r && unlikeR es (r.map e0))
  | [], _, _, _, _ => rfl
  | s :: r, p, es, hS, hk => by
    have hr := rmapsR_eq (M := M) r (p ++ [s]) _ (by rw [hS]; simp) (keys_step (s := s) hk)
    have hl : (((p ++ [s]).length : Nat) : Int) = (p.length : Int) + 1 := by simp
    rw [hl] at hr
    rw [rmapsR, hr, mapsR, List.map_cons, unlikeR, hk (e0 s)]
    have hf : (findR (e0 s) 0 M == (p.length : Int)) = !hasR (e0 s) p := by rw [hS]; exact findR_at s p r
    rw [hf]
    cases nameR (e0 s).str <;> cases hasR (e0 s) p <;> cases spansR (-1) (e2 s).list <;> cases lastR (e2 s).list <;> simp
theorem rmetaR_eq {c sz bk T S M Q : U} (hT : T.list.length ≤ 1099511627776) (hS : ∀ s ∈ S.list, (e2 s).list.length ≤ 1099511627776) : rmetaR c sz bk T S M Q = metaR c sz bk T S M Q := by
  have h1 := rshotsR_eq (c := c.int) (S := S.list) S.list [] [] (by simp) (fun _ => rfl) fun s hs => (rtableR_eq (hS s hs)).symm
  have h2 := rmapsR_eq (M := M.list) M.list [] [] (by simp) (fun _ => rfl)
  simp only [List.length_nil, Int.natCast_zero] at h1 h2
  rw [rmetaR, metaR, show rshotsR c.int S.list 0 S.list = _ from h1, show rmapsR M.list 0 M.list = _ from h2, ← rtableR_eq hT]
  ac_rfl
end Go.Mat

namespace Go.Mat
open Go Go.Den Go.Proofs
noncomputable def wnumC : Ctx := mkC PR eqs0 fnsNil (trsCons 49 [false, false, false, false] putF trsNil) noLoops noOut noOut
theorem wnum_tree (R : RT) (n v : U) (xs : List U) : (runD wnumC Try.f22 [.ptr 2097153 0, vi n, vi v] [(2097153, .box [.own 2097280]), (2097280, .arr u8T xs)] R) = ((0 : Nat) ≤ (536870912 : Nat) ∧ bif decide (List.length xs + List.length (putX [] (U.int n) false (IntKind.wrap IntKind.u64 (U.int v))) ≤ room) && !oddB ((2097279 : Nat) + (1 : Nat)) then R (Out.ret [])
  [(nat_lit 2097153, Obj.box [SV.own (nat_lit 2097280)]), (nat_lit 2097280, Obj.arr (nat_lit 5) (xs ++ putX [] (U.int n) false (IntKind.wrap IntKind.u64 (U.int v))))] else False) := by kernel_rfl
end Go.Mat

namespace Go.Mat
open Go Go.Den Go.Proofs
def putS : List (List U) → List (List U) := fun us => [[.l (putX (nth (.i 0) (nth [] us 0) 0).list (nth (.i 0) (nth [] us 1) 0).int (nth (.i 0) (nth [] us 2) 0).bool (nth (.i 0) (nth [] us 3) 0).int)], [.i (putErr (nth (.i 0) (nth [] us 1) 0).int (nth (.i 0) (nth [] us 3) 0).int)]]
def putP : List (List U) → Prop := fun us => (nth (.i 0) (nth [] us 0) 0).list.length ≤ 536870912
theorem putp_tree (R : RF) (b n g v : U) : (run putC Try.f49 [[b], [n], [g], [v]] R) = (bif decide (U.int n < (1 : Int)) then R [[U.l []], [U.i (1 : Int)]] else bif decide (U.int n > (8 : Int)) then R [[U.l []], [U.i (1 : Int)]] else bif decide (U.int n < (8 : Int)) then bif decide (IntKind.wrap
  IntKind.i64 ((8 : Int) * U.int n) < (0 : Int)) then False else bif Int.fdiv (U.int v) ((2 : Int) ^ min (Int.toNat (IntKind.wrap IntKind.i64 ((8 : Int) * U.int n))) (IntKind.bits IntKind.u64)) != (0 : Int)
  then R [[U.l []], [U.i (6 : Int)]] else bif decide ((0 : Int) ≤ (0 : Int) ∧ (0 : Int) ≤ IntKind.wrap IntKind.i64 ((↑(List.length (U.list b)) : Int) + U.int n) ∧ IntKind.wrap IntKind.i64 ((↑(List.length
  (U.list b)) : Int) + U.int n) ≤ (↑room : Int)) then bif decide (List.length (List.replicate (Int.toNat (0 : Int)) (U.i (0 : Int))) + List.length (U.list b) ≤ room) && !oddB ((2 : Nat) * ((34 : Nat) * (64
  : Nat) + (63 : Nat))) then (nat_lit 4478 = nat_lit 4478 ∧ nat_lit 5 = nat_lit 5 ∧ n = n ∧ (0 : Int) ≤ (0 : Int) ∧ (0 : Int) ≤ U.int n ∧ U.int n ≤ (8 : Int) ∧ List.length (List.replicate (Int.toNat (0 :
  Int)) (U.i (0 : Int)) ++ U.list b) ≤ (536870912 : Nat) + Int.toNat (0 : Int)) ∧ R [[U.l (List.replicate (Int.toNat (0 : Int)) (U.i (0 : Int)) ++ U.list b ++ putFrom (U.bool g) (U.int n) (U.int v) (0 :
  Int) (Int.toNat (U.int n - (0 : Int))))], [U.i (0 : Int)]] else False else False else bif decide ((0 : Int) ≤ (0 : Int) ∧ (0 : Int) ≤ IntKind.wrap IntKind.i64 ((↑(List.length (U.list b)) : Int) + U.int
  n) ∧ IntKind.wrap IntKind.i64 ((↑(List.length (U.list b)) : Int) + U.int n) ≤ (↑room : Int)) then bif decide (List.length (List.replicate (Int.toNat (0 : Int)) (U.i (0 : Int))) + List.length (U.list b)
  ≤ room) && !oddB ((2 : Nat) * ((34 : Nat) * (64 : Nat) + (63 : Nat))) then (nat_lit 4478 = nat_lit 4478 ∧ nat_lit 5 = nat_lit 5 ∧ n = n ∧ (0 : Int) ≤ (0 : Int) ∧ (0 : Int) ≤ U.int n ∧ U.int n ≤ (8 : Int)
  ∧ List.length (List.replicate (Int.toNat (0 : Int)) (U.i (0 : Int)) ++ U.list b) ≤ (536870912 : Nat) + Int.toNat (0 : Int)) ∧ R [[U.l (List.replicate (Int.toNat (0 : Int)) (U.i (0 : Int)) ++ U.list b ++
  putFrom (U.bool g) (U.int n) (U.int v) (0 : Int) (Int.toNat (U.int n - (0 : Int))))], [U.i (0 : Int)]] else False else False) := by kernel_rfl
end Go.Mat

namespace Go.Mat
open Go Go.Den Go.Proofs
theorem shape4 {P : Program} {t t2 t3 t4 : TypeId} {us : List (List U)} {m m2 m3 m4 : Bool} {cs cs2 cs3 cs4 : List Ct} (hc : Cs P t = some (m, cs)) (hc2 : Cs P t2 = some (m2, cs2)) (hc3 : Cs P t3 = some (m3, cs3)) (hc4 : Cs P t4 = some (m4, cs4)) (h : shapeOk P [t, t2, t3, t4] us) :
    ∃ u u2 u3 u4, us = [u, u2, u3, u4] ∧ u.length = cs.length ∧ u2.length = cs2.length ∧ u3.length = cs3.length ∧ u4.length = cs4.length := by
  obtain ⟨u, r, m', cs', rfl, hcs, hl, hr⟩ := h
  rw [hc] at hcs; cases hcs
  obtain ⟨u2, u3, u4, rfl, hl2, hl3, hl4⟩ := shape3 hc2 hc3 hc4 hr
  exact ⟨u, u2, u3, u4, rfl, hl, hl2, hl3, hl4⟩
theorem putp_ok : SpecFP PR 49 putP putS := fun fn us hfn hpre => by
  have hf : PR.funcs[(49 : Nat)]? = some Try.f49 := by kernel_rfl
  rw [hf] at hfn; cases hfn
  refine fn_okH (C := putC) (mkC_ok eqs0_ok mixed_ok .nil .nil) hf (by kernel_rfl) (loops_one (by kernel_rfl) put_loop) fun hok => ?_
  have hp : Try.f49.params.toList = [32, 3, 4, 95] := by kernel_rfl
  rw [hp] at hok
  obtain ⟨b, n, g, v, hus⟩ : ∃ b n g v, us = [[b], [n], [g], [v]] := by
    obtain ⟨u, u2, u3, u4, rfl, h1, h2, h3, h4⟩ := shape4 (by kernel_rfl : Cs PR 32 = some (false, [.sl false [.int .u8]])) (by kernel_rfl : Cs PR 3 = some (false, [.int .i64])) (by kernel_rfl : Cs PR 4 = some (false, [.bool])) (by kernel_rfl : Cs PR 95 = some (false, [.int .u64])) hok.1
    obtain ⟨b, rfl⟩ := len1 h1
    obtain ⟨n, rfl⟩ := len1 h2
    obtain ⟨g, rfl⟩ := len1 h3
    obtain ⟨v, rfl⟩ := len1 h4
    exact ⟨b, n, g, v, rfl⟩
  subst hus
  have hb : b.list.length ≤ 536870912 := hpre
  refine .eq (putp_tree _ b n g v) ?_
  unfold putS
  simp only [nth_zero, nth_succ]
  have bad : ∀ e : Int, e ≠ 0 → putErr n.int v.int = e → ([[U.l []], [.i e]] : List (List U)) = [[.l (putX b.list n.int g.bool v.int)], [.i (putErr n.int v.int)]] := fun e h0 he => by
    rw [putX, he, if_neg h0]
  have good : putErr n.int v.int = 0 → 0 ≤ n.int → ([[U.l (b.list ++ putFrom g.bool n.int v.int 0 (n.int - 0).toNat)], [.i 0]] : List (List U)) = [[.l (putX b.list n.int g.bool v.int)], [.i (putErr n.int v.int)]] := fun he h0 => by
    rw [putX, he, if_pos rfl, Int.sub_zero]
  refine bd (fun h1 => bad 1 (by decide) (by rw [putErr, if_pos (.inl h1)])) (fun h1 => bd (fun h2 => bad 1 (by decide) (by rw [putErr, if_pos (.inr h2)])) (fun h2 => ?_))
  have h12 : ¬ (n.int < 1 ∨ 8 < n.int) := by omega
  have hlen : IntKind.wrap .i64 ((b.list.length : Int) + n.int) = (b.list.length : Int) + n.int := i64_in (by omega) (by omega)
  have h8 : IntKind.wrap .i64 (8 * n.int) = 8 * n.int := i64_in (by omega) (by omega)
  have hpow : (0 : Int) ≤ 2 ^ (8 * n.int).toNat := Int.le_of_lt (Int.pow_pos (by omega))
  have hmin : n.int < 8 → min (8 * n.int).toNat (IntKind.bits .u64) = (8 * n.int).toNat := fun h => Nat.min_eq_left (by simp [IntKind.bits]; omega)
  refine bd (fun h3 => ?_) (fun h3 => ?_)
  · rw [h8, hmin h3, Int.fdiv_eq_ediv_of_nonneg _ hpow]
    refine df (by omega) (bi (fun h4 => ?_) (fun h4 => ?_))
    · exact bad 6 (by decide) (by rw [putErr, if_neg h12, if_pos ⟨h3, by simpa using h4⟩])
    · have he : putErr n.int v.int = 0 := by rw [putErr, if_neg h12, if_neg (by simp at h4; simp [h4])]
      rw [hlen]
      refine dt (by simp [room]; omega) (broom (by simp [room]; omega) rfl ⟨⟨by trivial, by trivial, by trivial, by omega, by omega, by omega, by simpa using hb⟩, ?_⟩)
      simpa using good he (by omega)
  · have he : putErr n.int v.int = 0 := by rw [putErr, if_neg h12, if_neg (fun h => h3 h.1)]
    rw [hlen]
    refine dt (by simp [room]; omega) (broom (by simp [room]; omega) rfl ⟨⟨by trivial, by trivial, by trivial, by omega, by omega, by omega, by simpa using hb⟩, ?_⟩)
    simpa using good he (by omega)
end Go.Mat

namespace Go.Mat
open Go Go.Den Go.Proofs
def num (b : List U) (n v : Int) : List U := putX b n false (IntKind.wrap .u64 v)
def entB (a b c d e : Int) : List U := num (num (num (num [.i (IntKind.wrap .u8 a), .i 0] 2 c) 4 b) 4 d) 4 (IntKind.wrap .i64 e)
def entS : List (List U) → List (List U) := fun us => [[.l (bif mayR (nth (.i 0) (nth [] us 0) 0).int (nth (.i 0) (nth [] us 0) 1).int (nth (.i 0) (nth [] us 0) 2).int (nth (.i 0) (nth [] us 0) 3).int (nth (.i 0) (nth [] us 0) 4).int (nth (.i 0) (nth [] us 1) 0).int then (entB (nth (.i 0) (nth [] us 0) 0).int (nth (.i 0) (nth [] us 0) 1).int (nth (.i 0) (nth [] us 0) 2).int (nth (.i 0) (nth [] us 0) 3).int (nth (.i 0) (nth [] us 0) 4).int) else [])], [.i (bif mayR (nth (.i 0) (nth [] us 0) 0).int (nth (.i 0) (nth [] us 0) 1).int (nth (.i 0) (nth [] us 0) 2).int (nth (.i 0) (nth [] us 0) 3).int (nth (.i 0) (nth [] us 0) 4).int (nth (.i 0) (nth [] us 1) 0).int then 0 else 1)]]
abbrev intT : TypeId := 3
def nums4 (b : List U) : List U → List U
  | [] => b
  | x :: r => nums4 (num b 4 x.int) r
noncomputable def entLoop : LoopF := fun _ svs os k => match svs, os with
  | [.val (.int .i64) i, .val (.int .i64) n, .own o, .val (.sl false [.int .u8]) b], [.arr t xs] =>
    (o = 4222 ∧ t = intT ∧ b = .l b.list ∧ n.int = (xs.length : Int) ∧ n.int ≤ 3 ∧ 0 ≤ i.int ∧ i.int ≤ n.int ∧ (b.list.length : Int) ≤ 100 + 8 * i.int) ∧
    k (.exit 0) ⟨[(6, .val (.sl false [.int .u8]) (.l (nums4 b.list (xs.drop i.int.toNat))))], []⟩
  | _, _ => False
noncomputable def entC : Ctx := mkC PR eqs0 (fnsConsP 49 putP putS (fnsCons 65 mayS fnsNil)) trsNil
  (loopCons 0 [34, 33, 32, 6] [4222] entLoop noLoops) (outCons 0 [6] [] noOut) noOut
theorem ent_round (pan : KP) (μ : Mu) (N : Nat) (k : KE) (i n b : U) (xs : List U) : (exec (entC.panics pan) (loopBody Try.f70 0) 0 ⟨[(34, vi i), (33, vi n), (32, .own 4222), (6, vl (.int .u8) b)], [(4222, .arr intT xs)]⟩ (again PR (some ([6], [])) none pan [34, 33, 32, 6] [4222] entLoop μ N k)) = (bif decide (U.int i < U.int n) then bif decide ((0 : Int) ≤ U.int i ∧ U.int i < (↑(List.length xs) : Int)) then bif Nat.beq ((0 : Nat) + (1 : Nat)) ((0 : Nat) + (1 : Nat)) && Nat.blt (Int.toNat (U.int
  i)) (List.length xs) then putP [[b], [U.i (4 : Int)], [U.b false], [U.i (IntKind.wrap IntKind.u64 (U.int (nth (U.i (0 : Int)) xs (Int.toNat (U.int i)))))]] ∧ bif Nat.blt (μ [SV.val (Ct.int IntKind.i64)
  (U.i (IntKind.wrap IntKind.i64 (U.int i + (1 : Int)))), SV.val (Ct.int IntKind.i64) n, SV.own (nat_lit 4222), SV.val (Ct.sl false [Ct.int IntKind.u8]) (U.l (putX (U.list b) (4 : Int) false (IntKind.wrap
  IntKind.u64 (U.int (nth (U.i (0 : Int)) xs (Int.toNat (U.int i)))))))] [Obj.arr (nat_lit 3) xs]) N then (nat_lit 4222 = nat_lit 4222 ∧ nat_lit 3 = nat_lit 3 ∧ U.l (putX (U.list b) (4 : Int) false (IntKind.wrap
  IntKind.u64 (U.int (nth (U.i (0 : Int)) xs (Int.toNat (U.int i)))))) = U.l (putX (U.list b) (4 : Int) false (IntKind.wrap IntKind.u64 (U.int (nth (U.i (0 : Int)) xs (Int.toNat (U.int i)))))) ∧ U.int n
  = (↑(List.length xs) : Int) ∧ U.int n ≤ (3 : Int) ∧ (0 : Int) ≤ IntKind.wrap IntKind.i64 (U.int i + (1 : Int)) ∧ IntKind.wrap IntKind.i64 (U.int i + (1 : Int)) ≤ U.int n ∧ (↑(List.length (putX (U.list
  b) (4 : Int) false (IntKind.wrap IntKind.u64 (U.int (nth (U.i (0 : Int)) xs (Int.toNat (U.int i))))))) : Int) ≤ (100 : Int) + (8 : Int) * IntKind.wrap IntKind.i64 (U.int i + (1 : Int))) ∧ k (Ex.exit (nat_lit
  0)) (St.mk [(nat_lit 6, SV.val (Ct.sl false [Ct.int IntKind.u8]) (U.l (nums4 (putX (U.list b) (4 : Int) false (IntKind.wrap IntKind.u64 (U.int (nth (U.i (0 : Int)) xs (Int.toNat (U.int i)))))) (List.drop
  (Int.toNat (IntKind.wrap IntKind.i64 (U.int i + (1 : Int)))) xs))))] []) else False else False else False else k (Ex.exit (nat_lit 0)) (St.mk [(nat_lit 6, SV.val (Ct.sl false [Ct.int IntKind.u8]) b)] [])) := by kernel_rfl
theorem ent_tree (R : RF) (a b c d e k : U) : (run entC Try.f70 [[a, b, c, d, e], [k]] R) = (bif !mayR (U.int a) (U.int b) (U.int c) (U.int d) (U.int e) (U.int k) then R [[U.l []], [U.i (1 : Int)]] else putP [[U.l (List.set (List.set (List.replicate (2 : Nat) (U.i (0 : Int))) (0 : Nat) (U.i (IntKind.wrap
  IntKind.u8 (U.int a)))) (1 : Nat) (U.i (0 : Int)))], [U.i (2 : Int)], [U.b false], [U.i (IntKind.wrap IntKind.u64 (U.int c))]] ∧ (nat_lit 4222 = nat_lit 4222 ∧ nat_lit 3 = nat_lit 3 ∧ U.l (putX (List.set
  (List.set (List.replicate (2 : Nat) (U.i (0 : Int))) (0 : Nat) (U.i (IntKind.wrap IntKind.u8 (U.int a)))) (1 : Nat) (U.i (0 : Int))) (2 : Int) false (IntKind.wrap IntKind.u64 (U.int c))) = U.l (putX (List.set
  (List.set (List.replicate (2 : Nat) (U.i (0 : Int))) (0 : Nat) (U.i (IntKind.wrap IntKind.u8 (U.int a)))) (1 : Nat) (U.i (0 : Int))) (2 : Int) false (IntKind.wrap IntKind.u64 (U.int c))) ∧ (↑(List.length
  (List.set (List.set (List.set (List.replicate (3 : Nat) (U.i (0 : Int))) (0 : Nat) b) (1 : Nat) d) (2 : Nat) (U.i (IntKind.wrap IntKind.i64 (U.int e))))) : Int) = (↑(List.length (List.set (List.set (List.set
  (List.replicate (3 : Nat) (U.i (0 : Int))) (0 : Nat) b) (1 : Nat) d) (2 : Nat) (U.i (IntKind.wrap IntKind.i64 (U.int e))))) : Int) ∧ (↑(List.length (List.set (List.set (List.set (List.replicate (3 : Nat)
  (U.i (0 : Int))) (0 : Nat) b) (1 : Nat) d) (2 : Nat) (U.i (IntKind.wrap IntKind.i64 (U.int e))))) : Int) ≤ (3 : Int) ∧ (0 : Int) ≤ (0 : Int) ∧ (0 : Int) ≤ (↑(List.length (List.set (List.set (List.set (List.replicate
  (3 : Nat) (U.i (0 : Int))) (0 : Nat) b) (1 : Nat) d) (2 : Nat) (U.i (IntKind.wrap IntKind.i64 (U.int e))))) : Int) ∧ (↑(List.length (putX (List.set (List.set (List.replicate (2 : Nat) (U.i (0 : Int)))
  (0 : Nat) (U.i (IntKind.wrap IntKind.u8 (U.int a)))) (1 : Nat) (U.i (0 : Int))) (2 : Int) false (IntKind.wrap IntKind.u64 (U.int c)))) : Int) ≤ (100 : Int) + (8 : Int) * (0 : Int)) ∧ R [[U.l (nums4 (putX
  (List.set (List.set (List.replicate (2 : Nat) (U.i (0 : Int))) (0 : Nat) (U.i (IntKind.wrap IntKind.u8 (U.int a)))) (1 : Nat) (U.i (0 : Int))) (2 : Int) false (IntKind.wrap IntKind.u64 (U.int c))) (List.drop
  (Int.toNat (0 : Int)) (List.set (List.set (List.set (List.replicate (3 : Nat) (U.i (0 : Int))) (0 : Nat) b) (1 : Nat) d) (2 : Nat) (U.i (IntKind.wrap IntKind.i64 (U.int e))))))], [U.i (0 : Int)]]) := by kernel_rfl
end Go.Mat

namespace Go.Mat
open Go Go.Den Go.Proofs
theorem putFrom_len (g : Bool) (m v : Int) : ∀ (n : Nat) (i : Int), (putFrom g m v i n).length = n
  | 0, _ => rfl
  | n + 1, i => by rw [putFrom, List.length_cons, putFrom_len g m v n]
theorem putX_len (b : List U) (n : Int) (g : Bool) (v : Int) : (putX b n g v).length ≤ b.length + n.toNat := by
  rw [putX]
  split
  · rw [List.length_append, putFrom_len]; omega
  · simp
theorem num_len (b : List U) (n v : Int) : (num b n v).length ≤ b.length + n.toNat := putX_len ..
theorem ent_loop : LoopOk entC 0 (loopBody Try.f70 0) := by
  refine loopOk_of (F := entLoop) (ts := [34, 33, 32, 6]) (os := [4222]) rfl (fun svs _ => match svs with | .val _ i :: .val _ m :: _ => (m.int - i.int).toNat | _ => 0) ?_
  intro pan svs os k ho1 ho2 h
  unfold entLoop at h
  split at h
  · rename_i i n o b t xs
    obtain ⟨⟨rfl, rfl, hb, hn, hn3, h0, hi, hl⟩, hk⟩ := h
    refine .eq (ent_round pan _ _ k i n b xs) ?_
    refine bd (fun hlt => dt ⟨h0, by omega⟩ (bt (by simp [Nat.blt_eq]; omega) ?_)) (fun hlt => ?_)
    · rw [drop_at (by omega), nums4] at hk
      have hw : IntKind.wrap .i64 (i.int + 1) = i.int + 1 := i64_in (by omega) (by omega)
      have hc : (i.int + 1).toNat = i.int.toNat + 1 := by omega
      have hlt' : (n.int - (i.int + 1)).toNat < (n.int - i.int).toNat := by omega
      simp only [U.at, num] at hk
      simp only [hw, hc]
      have hlen := putX_len b.list 4 false (IntKind.wrap .u64 (nth (U.i 0) xs i.int.toNat).int)
      refine ⟨by show b.list.length ≤ 536870912; omega, blt hlt' ⟨⟨by trivial, by trivial, by trivial, hn, hn3, by omega, by omega, by rw [show ((4 : Int).toNat) = 4 from rfl] at hlen; show ((putX b.list 4 false (IntKind.wrap .u64 (nth (U.i 0) xs i.int.toNat).int)).length : Int) ≤ _; omega⟩, hk⟩⟩
    · rw [List.drop_of_length_le (by omega), nums4, ← hb] at hk
      exact hk
  · exact h.elim
theorem ent_ok : SpecF PR 70 entS := fun fn us hfn => by
  have hf : PR.funcs[(70 : Nat)]? = some Try.f70 := by kernel_rfl
  rw [hf] at hfn; cases hfn
  refine fn_okH (C := entC) (mkC_ok eqs0_ok mixed_ok (.consP putp_ok (.cons may_ok .nil)) .nil) hf (by kernel_rfl) (loops_one (by kernel_rfl) ent_loop) fun hok => ?_
  have hp : Try.f70.params.toList = [54, 3] := by kernel_rfl
  rw [hp] at hok
  obtain ⟨a, b, c, d, e, k, hus⟩ : ∃ a b c d e k, us = [[a, b, c, d, e], [k]] := by
    obtain ⟨u, u2, rfl, h1, h2⟩ := shape2 (by kernel_rfl : Cs PR 54 = some (true, [.int .i64, .int .i64, .int .i64, .int .i64, .int .u32])) (by kernel_rfl : Cs PR 3 = some (false, [.int .i64])) hok.1
    obtain ⟨a, b, c, d, e, rfl⟩ := len5 h1
    obtain ⟨k, rfl⟩ := len1 h2
    exact ⟨a, b, c, d, e, k, rfl⟩
  subst hus
  refine .eq (ent_tree _ _ _ _ _ _ _) ?_
  unfold entS
  simp only [nth_zero, nth_succ]
  refine bi (fun h => by rw [nt h]; rfl) (fun h => ?_)
  rw [nf h]
  have l1 := putX_len [.i (IntKind.wrap .u8 a.int), .i 0] 2 false (IntKind.wrap .u64 c.int)
  simp only [Int.reduceToNat, List.length_cons, List.length_nil] at l1
  refine ⟨?_, ⟨by trivial, by trivial, by trivial, by trivial, by simp, by trivial, by simp, ?_⟩, rfl⟩
  · show List.length [U.i (IntKind.wrap .u8 a.int), U.i 0] ≤ 536870912
    simp
  · show ((putX [.i (IntKind.wrap .u8 a.int), .i 0] 2 false (IntKind.wrap .u64 c.int)).length : Int) ≤ 100 + 8 * 0
    omega
end Go.Mat

namespace Go.Mat
open Go Go.Den Go.Proofs
def entX (k : Int) (x : U) : List U := bif mayR (e0 x).int (e1 x).int (e2 x).int (e3 x).int (e4 x).int k then entB (e0 x).int (e1 x).int (e2 x).int (e3 x).int (e4 x).int else []
def leafB (k : Int) : List U → List U
  | [] => []
  | x :: r => entX k x ++ leafB k r
def leavesB (k : Int) : Int → List U → List U
  | _, [] => []
  | i, l :: r => (bif decide (l.list = []) then [] else num [] 2 i ++ leafB k l.list) ++ leavesB k (i + 1) r
def countB : List U → Int
  | [] => 0
  | l :: r => (bif decide (l.list = []) then 0 else 1) + countB r
def tputB (L : List U) (k : Int) : List U := num [] 2 (countB L) ++ leavesB k 0 L
def tputP : List (List U) → Prop := fun us => (nth (.i 0) (nth [] us 0) 0).list.length ≤ 1099511627776
def tputS : List (List U) → List (List U) := fun us => [[.l (bif tableR (nth (.i 0) (nth [] us 0) 0).list 4096 (nth (.i 0) (nth [] us 1) 0).int then tputB (nth (.i 0) (nth [] us 0) 0).list (nth (.i 0) (nth [] us 1) 0).int else [])], [.i (bif tableR (nth (.i 0) (nth [] us 0) 0).list 4096 (nth (.i 0) (nth [] us 1) 0).int then 0 else 1)]]
noncomputable def tputLoop2 : LoopF := fun _ svs os k => match svs with
  | .val (.int .i64) i :: .val (.int .i64) n :: .val (.sl true ec) l :: .own o :: rest => match rest, os with
    | [.val (.int .i64) kk, .val (.int .i64) j, .val (.int .i64) m, .val (.sl false [.sl true ec2]) L, .val (.int .i64) cnt], [.arr t xs] =>
      (ec = EC ∧ ec2 = EC ∧ o = 1020 ∧ t = u8T ∧ n.int = (l.list.length : Int) ∧ 0 ≤ i.int ∧ i.int ≤ n.int ∧ (xs.length : Int) + 16 * (n.int - i.int) ≤ 536870912) ∧
      k (.exit 2) ⟨[(7, .own 1020), (1, vi kk), (25, vi j), (24, vi m), (23, vl (.sl true EC) L), (6, vi cnt)], [(1020, .arr u8T (xs ++ leafB kk.int (l.list.drop i.int.toNat)))]⟩
    | _, _ => False
  | _ => False
noncomputable def tputLoop0 : LoopF := fun _ svs os k => match svs, os with
  | [.val (.int .i64) j, .val (.int .i64) m, .val (.sl false [.sl true ec]) L, .val (.int .i64) cnt, .own o, .val (.int .i64) kk], [.arr t xs] =>
    (ec = EC ∧ o = 1020 ∧ t = u8T ∧ cnt = .i cnt.int ∧ m.int = (L.list.length : Int) ∧ m.int ≤ 4096 ∧ 0 ≤ j.int ∧ j.int ≤ m.int ∧ 0 ≤ cnt.int ∧ cnt.int ≤ j.int ∧ (∀ l ∈ L.list, l.list.length ≤ 8) ∧ (xs.length : Int) + 200 * (m.int - j.int) ≤ 536870912) ∧
    k (.exit 0) ⟨[(6, vi (.i (cnt.int + countB (L.list.drop j.int.toNat)))), (7, .own 1020)], [(1020, .arr u8T (xs ++ leavesB kk.int j.int (L.list.drop j.int.toNat)))]⟩
  | _, _ => False
noncomputable def tputC : Ctx := mkC PR eqs0 (fnsCons 70 entS (fnsCons 46 tableS fnsNil)) (trsCons 49 [false, false, false, false] putF trsNil)
  (loopCons 2 [46, 45, 44, 7, 1, 25, 24, 23, 6] [1020] tputLoop2 (loopCons 0 [25, 24, 23, 6, 7, 1] [1020] tputLoop0 noLoops)) (outCons 2 [7, 1, 25, 24, 23, 6] [1020] (outCons 0 [6, 7] [1020] noOut)) noOut
theorem tput_round2 (pan : KP) (μ : Mu) (N : Nat) (k : KE) (i n l kk j m L cnt : U) (xs : List U) : (exec (tputC.panics pan) (loopBody Try.f51 1) 2 ⟨[(46, vi i), (45, vi n), (44, vt EC l), (7, .own 1020), (1, vi kk), (25, vi j), (24, vi m), (23, vl (.sl true EC) L), (6, vi cnt)], [(1020, .arr u8T xs)]⟩ (again PR (some ([7, 1, 25, 24, 23, 6], [1020])) none pan [46, 45, 44, 7, 1, 25, 24, 23, 6] [1020] tputLoop2 μ N k)) = (bif decide (U.int i < U.int n) then bif decide ((0 : Int) ≤ U.int i ∧ U.int i < (↑(List.length (U.list l)) : Int)) then bif decide (List.length xs + List.length (bif mayR (U.int (nth (U.i (0 : Int)) (U.list
  (nth (U.i (0 : Int)) (U.list l) (Int.toNat (U.int i)))) (0 : Nat))) (U.int (nth (U.i (0 : Int)) (List.tail (U.list (nth (U.i (0 : Int)) (U.list l) (Int.toNat (U.int i))))) (0 : Nat))) (U.int (nth (U.i
  (0 : Int)) (List.tail (List.tail (U.list (nth (U.i (0 : Int)) (U.list l) (Int.toNat (U.int i)))))) (0 : Nat))) (U.int (nth (U.i (0 : Int)) (List.tail (List.tail (List.tail (U.list (nth (U.i (0 : Int))
  (U.list l) (Int.toNat (U.int i))))))) (0 : Nat))) (U.int (nth (U.i (0 : Int)) (List.tail (List.tail (List.tail (List.tail (U.list (nth (U.i (0 : Int)) (U.list l) (Int.toNat (U.int i)))))))) (0 : Nat)))
  (U.int kk) then entB (U.int (nth (U.i (0 : Int)) (U.list (nth (U.i (0 : Int)) (U.list l) (Int.toNat (U.int i)))) (0 : Nat))) (U.int (nth (U.i (0 : Int)) (List.tail (U.list (nth (U.i (0 : Int)) (U.list
  l) (Int.toNat (U.int i))))) (0 : Nat))) (U.int (nth (U.i (0 : Int)) (List.tail (List.tail (U.list (nth (U.i (0 : Int)) (U.list l) (Int.toNat (U.int i)))))) (0 : Nat))) (U.int (nth (U.i (0 : Int)) (List.tail
  (List.tail (List.tail (U.list (nth (U.i (0 : Int)) (U.list l) (Int.toNat (U.int i))))))) (0 : Nat))) (U.int (nth (U.i (0 : Int)) (List.tail (List.tail (List.tail (List.tail (U.list (nth (U.i (0 : Int))
  (U.list l) (Int.toNat (U.int i)))))))) (0 : Nat))) else []) ≤ room) && !oddB (1020 : Nat) then bif Nat.blt (μ [SV.val (Ct.int IntKind.i64) (U.i (IntKind.wrap IntKind.i64 (U.int i + (1 : Int)))), SV.val
  (Ct.int IntKind.i64) n, SV.val (Ct.sl true [Ct.int IntKind.i64, Ct.int IntKind.i64, Ct.int IntKind.i64, Ct.int IntKind.i64, Ct.int IntKind.u32]) l, SV.own (nat_lit 1020), SV.val (Ct.int IntKind.i64) kk,
  SV.val (Ct.int IntKind.i64) j, SV.val (Ct.int IntKind.i64) m, SV.val (Ct.sl false [Ct.sl true [Ct.int IntKind.i64, Ct.int IntKind.i64, Ct.int IntKind.i64, Ct.int IntKind.i64, Ct.int IntKind.u32]]) L, SV.val
  (Ct.int IntKind.i64) cnt] [Obj.arr (nat_lit 5) (xs ++ bif mayR (U.int (nth (U.i (0 : Int)) (U.list (nth (U.i (0 : Int)) (U.list l) (Int.toNat (U.int i)))) (0 : Nat))) (U.int (nth (U.i (0 : Int)) (List.tail
  (U.list (nth (U.i (0 : Int)) (U.list l) (Int.toNat (U.int i))))) (0 : Nat))) (U.int (nth (U.i (0 : Int)) (List.tail (List.tail (U.list (nth (U.i (0 : Int)) (U.list l) (Int.toNat (U.int i)))))) (0 : Nat)))
  (U.int (nth (U.i (0 : Int)) (List.tail (List.tail (List.tail (U.list (nth (U.i (0 : Int)) (U.list l) (Int.toNat (U.int i))))))) (0 : Nat))) (U.int (nth (U.i (0 : Int)) (List.tail (List.tail (List.tail
  (List.tail (U.list (nth (U.i (0 : Int)) (U.list l) (Int.toNat (U.int i)))))))) (0 : Nat))) (U.int kk) then entB (U.int (nth (U.i (0 : Int)) (U.list (nth (U.i (0 : Int)) (U.list l) (Int.toNat (U.int i))))
  (0 : Nat))) (U.int (nth (U.i (0 : Int)) (List.tail (U.list (nth (U.i (0 : Int)) (U.list l) (Int.toNat (U.int i))))) (0 : Nat))) (U.int (nth (U.i (0 : Int)) (List.tail (List.tail (U.list (nth (U.i (0 :
  Int)) (U.list l) (Int.toNat (U.int i)))))) (0 : Nat))) (U.int (nth (U.i (0 : Int)) (List.tail (List.tail (List.tail (U.list (nth (U.i (0 : Int)) (U.list l) (Int.toNat (U.int i))))))) (0 : Nat))) (U.int
  (nth (U.i (0 : Int)) (List.tail (List.tail (List.tail (List.tail (U.list (nth (U.i (0 : Int)) (U.list l) (Int.toNat (U.int i)))))))) (0 : Nat))) else [])]) N then ([Ct.int IntKind.i64, Ct.int IntKind.i64,
  Ct.int IntKind.i64, Ct.int IntKind.i64, Ct.int IntKind.u32] = [Ct.int IntKind.i64, Ct.int IntKind.i64, Ct.int IntKind.i64, Ct.int IntKind.i64, Ct.int IntKind.u32] ∧ [Ct.int IntKind.i64, Ct.int IntKind.i64,
  Ct.int IntKind.i64, Ct.int IntKind.i64, Ct.int IntKind.u32] = [Ct.int IntKind.i64, Ct.int IntKind.i64, Ct.int IntKind.i64, Ct.int IntKind.i64, Ct.int IntKind.u32] ∧ nat_lit 1020 = nat_lit 1020 ∧ nat_lit
  5 = nat_lit 5 ∧ U.int n = (↑(List.length (U.list l)) : Int) ∧ (0 : Int) ≤ IntKind.wrap IntKind.i64 (U.int i + (1 : Int)) ∧ IntKind.wrap IntKind.i64 (U.int i + (1 : Int)) ≤ U.int n ∧ (↑(List.length (xs
  ++ bif mayR (U.int (nth (U.i (0 : Int)) (U.list (nth (U.i (0 : Int)) (U.list l) (Int.toNat (U.int i)))) (0 : Nat))) (U.int (nth (U.i (0 : Int)) (List.tail (U.list (nth (U.i (0 : Int)) (U.list l) (Int.toNat
  (U.int i))))) (0 : Nat))) (U.int (nth (U.i (0 : Int)) (List.tail (List.tail (U.list (nth (U.i (0 : Int)) (U.list l) (Int.toNat (U.int i)))))) (0 : Nat))) (U.int (nth (U.i (0 : Int)) (List.tail (List.tail
  (List.tail (U.list (nth (U.i (0 : Int)) (U.list l) (Int.toNat (U.int i))))))) (0 : Nat))) (U.int (nth (U.i (0 : Int)) (List.tail (List.tail (List.tail (List.tail (U.list (nth (U.i (0 : Int)) (U.list l)
  (Int.toNat (U.int i)))))))) (0 : Nat))) (U.int kk) then entB (U.int (nth (U.i (0 : Int)) (U.list (nth (U.i (0 : Int)) (U.list l) (Int.toNat (U.int i)))) (0 : Nat))) (U.int (nth (U.i (0 : Int)) (List.tail
  (U.list (nth (U.i (0 : Int)) (U.list l) (Int.toNat (U.int i))))) (0 : Nat))) (U.int (nth (U.i (0 : Int)) (List.tail (List.tail (U.list (nth (U.i (0 : Int)) (U.list l) (Int.toNat (U.int i)))))) (0 : Nat)))
  (U.int (nth (U.i (0 : Int)) (List.tail (List.tail (List.tail (U.list (nth (U.i (0 : Int)) (U.list l) (Int.toNat (U.int i))))))) (0 : Nat))) (U.int (nth (U.i (0 : Int)) (List.tail (List.tail (List.tail
  (List.tail (U.list (nth (U.i (0 : Int)) (U.list l) (Int.toNat (U.int i)))))))) (0 : Nat))) else [])) : Int) + (16 : Int) * (U.int n - IntKind.wrap IntKind.i64 (U.int i + (1 : Int))) ≤ (536870912 : Int))
  ∧ k (Ex.exit (nat_lit 2)) (St.mk [(nat_lit 7, SV.own (nat_lit 1020)), (nat_lit 1, SV.val (Ct.int IntKind.i64) kk), (nat_lit 25, SV.val (Ct.int IntKind.i64) j), (nat_lit 24, SV.val (Ct.int IntKind.i64)
  m), (nat_lit 23, SV.val (Ct.sl false [Ct.sl true [Ct.int IntKind.i64, Ct.int IntKind.i64, Ct.int IntKind.i64, Ct.int IntKind.i64, Ct.int IntKind.u32]]) L), (nat_lit 6, SV.val (Ct.int IntKind.i64) cnt)]
  [(nat_lit 1020, Obj.arr (nat_lit 5) ((xs ++ bif mayR (U.int (nth (U.i (0 : Int)) (U.list (nth (U.i (0 : Int)) (U.list l) (Int.toNat (U.int i)))) (0 : Nat))) (U.int (nth (U.i (0 : Int)) (List.tail (U.list
  (nth (U.i (0 : Int)) (U.list l) (Int.toNat (U.int i))))) (0 : Nat))) (U.int (nth (U.i (0 : Int)) (List.tail (List.tail (U.list (nth (U.i (0 : Int)) (U.list l) (Int.toNat (U.int i)))))) (0 : Nat))) (U.int
  (nth (U.i (0 : Int)) (List.tail (List.tail (List.tail (U.list (nth (U.i (0 : Int)) (U.list l) (Int.toNat (U.int i))))))) (0 : Nat))) (U.int (nth (U.i (0 : Int)) (List.tail (List.tail (List.tail (List.tail
  (U.list (nth (U.i (0 : Int)) (U.list l) (Int.toNat (U.int i)))))))) (0 : Nat))) (U.int kk) then entB (U.int (nth (U.i (0 : Int)) (U.list (nth (U.i (0 : Int)) (U.list l) (Int.toNat (U.int i)))) (0 : Nat)))
  (U.int (nth (U.i (0 : Int)) (List.tail (U.list (nth (U.i (0 : Int)) (U.list l) (Int.toNat (U.int i))))) (0 : Nat))) (U.int (nth (U.i (0 : Int)) (List.tail (List.tail (U.list (nth (U.i (0 : Int)) (U.list
  l) (Int.toNat (U.int i)))))) (0 : Nat))) (U.int (nth (U.i (0 : Int)) (List.tail (List.tail (List.tail (U.list (nth (U.i (0 : Int)) (U.list l) (Int.toNat (U.int i))))))) (0 : Nat))) (U.int (nth (U.i (0
  : Int)) (List.tail (List.tail (List.tail (List.tail (U.list (nth (U.i (0 : Int)) (U.list l) (Int.toNat (U.int i)))))))) (0 : Nat))) else []) ++ leafB (U.int kk) (List.drop (Int.toNat (IntKind.wrap IntKind.i64
  (U.int i + (1 : Int)))) (U.list l))))]) else False else False else False else k (Ex.exit (nat_lit 2)) (St.mk [(nat_lit 7, SV.own (nat_lit 1020)), (nat_lit 1, SV.val (Ct.int IntKind.i64) kk), (nat_lit 25,
  SV.val (Ct.int IntKind.i64) j), (nat_lit 24, SV.val (Ct.int IntKind.i64) m), (nat_lit 23, SV.val (Ct.sl false [Ct.sl true [Ct.int IntKind.i64, Ct.int IntKind.i64, Ct.int IntKind.i64, Ct.int IntKind.i64,
  Ct.int IntKind.u32]]) L), (nat_lit 6, SV.val (Ct.int IntKind.i64) cnt)] [(nat_lit 1020, Obj.arr (nat_lit 5) xs)])) := by kernel_rfl
theorem tput_round0 (pan : KP) (μ : Mu) (N : Nat) (k : KE) (j m L cnt kk : U) (xs : List U) : (exec (tputC.panics pan) (loopBody Try.f51 0) 0 ⟨[(25, vi j), (24, vi m), (23, vl (.sl true EC) L), (6, vi cnt), (7, .own 1020), (1, vi kk)], [(1020, .arr u8T xs)]⟩ (again PR (some ([6, 7], [1020])) none pan [25, 24, 23, 6, 7, 1] [1020] tputLoop0 μ N k)) = (bif decide (U.int j < U.int m) then bif decide ((0 : Int) ≤ U.int j ∧ U.int j < (↑(List.length (U.list L)) : Int)) then bif (↑(List.length (U.list (nth (U.i (0 : Int)) (U.list L) (Int.toNat (U.int j)))))
  : Int) == (0 : Int) then bif Nat.blt (μ [SV.val (Ct.int IntKind.i64) (U.i (IntKind.wrap IntKind.i64 (U.int j + (1 : Int)))), SV.val (Ct.int IntKind.i64) m, SV.val (Ct.sl false [Ct.sl true [Ct.int IntKind.i64,
  Ct.int IntKind.i64, Ct.int IntKind.i64, Ct.int IntKind.i64, Ct.int IntKind.u32]]) L, SV.val (Ct.int IntKind.i64) cnt, SV.own (nat_lit 1020), SV.val (Ct.int IntKind.i64) kk] [Obj.arr (nat_lit 5) xs]) N
  then ([Ct.int IntKind.i64, Ct.int IntKind.i64, Ct.int IntKind.i64, Ct.int IntKind.i64, Ct.int IntKind.u32] = [Ct.int IntKind.i64, Ct.int IntKind.i64, Ct.int IntKind.i64, Ct.int IntKind.i64, Ct.int IntKind.u32]
  ∧ nat_lit 1020 = nat_lit 1020 ∧ nat_lit 5 = nat_lit 5 ∧ cnt = U.i (U.int cnt) ∧ U.int m = (↑(List.length (U.list L)) : Int) ∧ U.int m ≤ (4096 : Int) ∧ (0 : Int) ≤ IntKind.wrap IntKind.i64 (U.int j + (1
  : Int)) ∧ IntKind.wrap IntKind.i64 (U.int j + (1 : Int)) ≤ U.int m ∧ (0 : Int) ≤ U.int cnt ∧ U.int cnt ≤ IntKind.wrap IntKind.i64 (U.int j + (1 : Int)) ∧ (∀ (l : U), l ∈ U.list L → List.length (U.list
  l) ≤ (8 : Nat)) ∧ (↑(List.length xs) : Int) + (200 : Int) * (U.int m - IntKind.wrap IntKind.i64 (U.int j + (1 : Int))) ≤ (536870912 : Int)) ∧ k (Ex.exit (nat_lit 0)) (St.mk [(nat_lit 6, SV.val (Ct.int
  IntKind.i64) (U.i (U.int cnt + countB (List.drop (Int.toNat (IntKind.wrap IntKind.i64 (U.int j + (1 : Int)))) (U.list L))))), (nat_lit 7, SV.own (nat_lit 1020))] [(nat_lit 1020, Obj.arr (nat_lit 5) (xs
  ++ leavesB (U.int kk) (IntKind.wrap IntKind.i64 (U.int j + (1 : Int))) (List.drop (Int.toNat (IntKind.wrap IntKind.i64 (U.int j + (1 : Int)))) (U.list L))))]) else False else (0 : Nat) ≤ (536870912 : Nat)
  ∧ bif decide (List.length xs + List.length (putX [] (2 : Int) false (IntKind.wrap IntKind.u64 (U.int j))) ≤ room) && !oddB ((1019 : Nat) + (1 : Nat)) then ([Ct.int IntKind.i64, Ct.int IntKind.i64, Ct.int
  IntKind.i64, Ct.int IntKind.i64, Ct.int IntKind.u32] = [Ct.int IntKind.i64, Ct.int IntKind.i64, Ct.int IntKind.i64, Ct.int IntKind.i64, Ct.int IntKind.u32] ∧ [Ct.int IntKind.i64, Ct.int IntKind.i64, Ct.int
  IntKind.i64, Ct.int IntKind.i64, Ct.int IntKind.u32] = [Ct.int IntKind.i64, Ct.int IntKind.i64, Ct.int IntKind.i64, Ct.int IntKind.i64, Ct.int IntKind.u32] ∧ nat_lit 1020 = nat_lit 1020 ∧ nat_lit 5 = nat_lit
  5 ∧ (↑(List.length (U.list (nth (U.i (0 : Int)) (U.list L) (Int.toNat (U.int j))))) : Int) = (↑(List.length (U.list (nth (U.i (0 : Int)) (U.list L) (Int.toNat (U.int j))))) : Int) ∧ (0 : Int) ≤ (0 : Int)
  ∧ (0 : Int) ≤ (↑(List.length (U.list (nth (U.i (0 : Int)) (U.list L) (Int.toNat (U.int j))))) : Int) ∧ (↑(List.length (xs ++ putX [] (2 : Int) false (IntKind.wrap IntKind.u64 (U.int j)))) : Int) + (16
  : Int) * ((↑(List.length (U.list (nth (U.i (0 : Int)) (U.list L) (Int.toNat (U.int j))))) : Int) - (0 : Int)) ≤ (536870912 : Int)) ∧ bif Nat.blt (μ [SV.val (Ct.int IntKind.i64) (U.i (IntKind.wrap IntKind.i64
  (U.int j + (1 : Int)))), SV.val (Ct.int IntKind.i64) m, SV.val (Ct.sl false [Ct.sl true [Ct.int IntKind.i64, Ct.int IntKind.i64, Ct.int IntKind.i64, Ct.int IntKind.i64, Ct.int IntKind.u32]]) L, SV.val
  (Ct.int IntKind.i64) (U.i (IntKind.wrap IntKind.i64 (U.int cnt + (1 : Int)))), SV.own (nat_lit 1020), SV.val (Ct.int IntKind.i64) kk] [Obj.arr (nat_lit 5) (xs ++ putX [] (2 : Int) false (IntKind.wrap IntKind.u64
  (U.int j)) ++ leafB (U.int kk) (List.drop (Int.toNat (0 : Int)) (U.list (nth (U.i (0 : Int)) (U.list L) (Int.toNat (U.int j))))))]) N then ([Ct.int IntKind.i64, Ct.int IntKind.i64, Ct.int IntKind.i64,
  Ct.int IntKind.i64, Ct.int IntKind.u32] = [Ct.int IntKind.i64, Ct.int IntKind.i64, Ct.int IntKind.i64, Ct.int IntKind.i64, Ct.int IntKind.u32] ∧ nat_lit 1020 = nat_lit 1020 ∧ nat_lit 5 = nat_lit 5 ∧ U.i
  (IntKind.wrap IntKind.i64 (U.int cnt + (1 : Int))) = U.i (IntKind.wrap IntKind.i64 (U.int cnt + (1 : Int))) ∧ U.int m = (↑(List.length (U.list L)) : Int) ∧ U.int m ≤ (4096 : Int) ∧ (0 : Int) ≤ IntKind.wrap
  IntKind.i64 (U.int j + (1 : Int)) ∧ IntKind.wrap IntKind.i64 (U.int j + (1 : Int)) ≤ U.int m ∧ (0 : Int) ≤ IntKind.wrap IntKind.i64 (U.int cnt + (1 : Int)) ∧ IntKind.wrap IntKind.i64 (U.int cnt + (1 :
  Int)) ≤ IntKind.wrap IntKind.i64 (U.int j + (1 : Int)) ∧ (∀ (l : U), l ∈ U.list L → List.length (U.list l) ≤ (8 : Nat)) ∧ (↑(List.length (xs ++ putX [] (2 : Int) false (IntKind.wrap IntKind.u64 (U.int
  j)) ++ leafB (U.int kk) (List.drop (Int.toNat (0 : Int)) (U.list (nth (U.i (0 : Int)) (U.list L) (Int.toNat (U.int j))))))) : Int) + (200 : Int) * (U.int m - IntKind.wrap IntKind.i64 (U.int j + (1 : Int)))
  ≤ (536870912 : Int)) ∧ k (Ex.exit (nat_lit 0)) (St.mk [(nat_lit 6, SV.val (Ct.int IntKind.i64) (U.i (IntKind.wrap IntKind.i64 (U.int cnt + (1 : Int)) + countB (List.drop (Int.toNat (IntKind.wrap IntKind.i64
  (U.int j + (1 : Int)))) (U.list L))))), (nat_lit 7, SV.own (nat_lit 1020))] [(nat_lit 1020, Obj.arr (nat_lit 5) (xs ++ putX [] (2 : Int) false (IntKind.wrap IntKind.u64 (U.int j)) ++ leafB (U.int kk) (List.drop
  (Int.toNat (0 : Int)) (U.list (nth (U.i (0 : Int)) (U.list L) (Int.toNat (U.int j))))) ++ leavesB (U.int kk) (IntKind.wrap IntKind.i64 (U.int j + (1 : Int))) (List.drop (Int.toNat (IntKind.wrap IntKind.i64
  (U.int j + (1 : Int)))) (U.list L))))]) else False else False else False else k (Ex.exit (nat_lit 0)) (St.mk [(nat_lit 6, SV.val (Ct.int IntKind.i64) cnt), (nat_lit 7, SV.own (nat_lit 1020))] [(nat_lit
  1020, Obj.arr (nat_lit 5) xs)])) := by kernel_rfl
theorem tput_tree (R : RF) (L k : U) : (run tputC Try.f51 [[L], [k]] R) = (bif !tableR (U.list L) (4096 : Int) (U.int k) then R [[U.l []], [U.i (1 : Int)]] else ([Ct.int IntKind.i64, Ct.int IntKind.i64, Ct.int IntKind.i64, Ct.int IntKind.i64, Ct.int IntKind.u32] = [Ct.int IntKind.i64,
  Ct.int IntKind.i64, Ct.int IntKind.i64, Ct.int IntKind.i64, Ct.int IntKind.u32] ∧ nat_lit 1020 = nat_lit 1020 ∧ nat_lit 5 = nat_lit 5 ∧ U.i (0 : Int) = U.i (0 : Int) ∧ (↑(List.length (U.list L)) : Int)
  = (↑(List.length (U.list L)) : Int) ∧ (↑(List.length (U.list L)) : Int) ≤ (4096 : Int) ∧ (0 : Int) ≤ (0 : Int) ∧ (0 : Int) ≤ (↑(List.length (U.list L)) : Int) ∧ (0 : Int) ≤ (0 : Int) ∧ (0 : Int) ≤ (0 :
  Int) ∧ (∀ (l : U), l ∈ U.list L → List.length (U.list l) ≤ (8 : Nat)) ∧ (↑(0 : Nat) : Int) + (200 : Int) * ((↑(List.length (U.list L)) : Int) - (0 : Int)) ≤ (536870912 : Int)) ∧ (0 : Nat) ≤ (536870912
  : Nat) ∧ bif decide (List.length (putX [] (2 : Int) false (IntKind.wrap IntKind.u64 ((0 : Int) + countB (List.drop (Int.toNat (0 : Int)) (U.list L))))) + List.length ([] ++ leavesB (U.int k) (0 : Int)
  (List.drop (Int.toNat (0 : Int)) (U.list L))) ≤ room) && !oddB ((8207 : Nat) + (1 : Nat)) then R [[U.l (putX [] (2 : Int) false (IntKind.wrap IntKind.u64 ((0 : Int) + countB (List.drop (Int.toNat (0 :
  Int)) (U.list L)))) ++ ([] ++ leavesB (U.int k) (0 : Int) (List.drop (Int.toNat (0 : Int)) (U.list L))))], [U.i (0 : Int)]] else False) := by kernel_rfl
end Go.Mat

namespace Go.Mat
open Go Go.Den Go.Proofs
theorem entX_len (k : Int) (x : U) : (entX k x).length ≤ 16 := by
  unfold entX
  cases mayR (e0 x).int (e1 x).int (e2 x).int (e3 x).int (e4 x).int k with
  | false => simp
  | true =>
    simp only [cond_true, entB]
    have l1 := num_len [.i (IntKind.wrap .u8 (e0 x).int), .i 0] 2 (e2 x).int
    have l2 := num_len (num [.i (IntKind.wrap .u8 (e0 x).int), .i 0] 2 (e2 x).int) 4 (e1 x).int
    have l3 := num_len (num (num [.i (IntKind.wrap .u8 (e0 x).int), .i 0] 2 (e2 x).int) 4 (e1 x).int) 4 (e3 x).int
    have l4 := num_len (num (num (num [.i (IntKind.wrap .u8 (e0 x).int), .i 0] 2 (e2 x).int) 4 (e1 x).int) 4 (e3 x).int) 4 (IntKind.wrap .i64 (e4 x).int)
    simp only [Int.reduceToNat, List.length_cons, List.length_nil] at l1 l2 l3 l4
    omega
theorem leafB_len (k : Int) : ∀ l : List U, (leafB k l).length ≤ 16 * l.length
  | [] => by simp [leafB]
  | x :: r => by
    have h1 := entX_len k x
    have h2 := leafB_len k r
    rw [leafB, List.length_append, List.length_cons]; omega
theorem tput_loop2 : LoopOk tputC 2 (loopBody Try.f51 1) := by
  refine loopOk_of (F := tputLoop2) (ts := [46, 45, 44, 7, 1, 25, 24, 23, 6]) (os := [1020]) rfl (fun svs _ => match svs with | .val _ i :: .val _ m :: _ => (m.int - i.int).toNat | _ => 0) ?_
  intro pan svs os k ho1 ho2 h
  unfold tputLoop2 at h
  split at h
  · rename_i i n ec l o rest
    split at h
    · rename_i kk j m ec2 L cnt t xs
      obtain ⟨⟨rfl, rfl, rfl, rfl, hn, h0, hi, hx⟩, hk⟩ := h
      have hL : l.list.length ≤ maxLen := ho1.2.2.1.1
      refine .eq (tput_round2 pan _ _ k i n l kk j m L cnt xs) ?_
      refine bd (fun hlt => dt ⟨h0, by omega⟩ ?_) (fun hlt => ?_)
      · rw [drop_at (by omega), leafB, ← List.append_assoc] at hk
        have hl := entX_len kk.int (U.at l.list i.int.toNat)
        simp only [U.at, entX, e0, e1, e2, e3, e4] at hk hl
        have hw : IntKind.wrap .i64 (i.int + 1) = i.int + 1 := i64_in (by omega) (by unfold maxLen at hL; omega)
        have hc : (i.int + 1).toNat = i.int.toNat + 1 := by omega
        have hlt' : (n.int - (i.int + 1)).toNat < (n.int - i.int).toNat := by omega
        simp only [nth_tail, Nat.zero_add, Nat.reduceAdd, hw, hc]
        refine broom (by simp [room]; omega) rfl (blt hlt' ⟨⟨by trivial, by trivial, by trivial, by trivial, hn, by omega, by omega, by rw [List.length_append]; omega⟩, hk⟩)
      · rw [List.drop_of_length_le (by omega), leafB, List.append_nil] at hk
        exact hk
    · exact h.elim
  · exact h.elim
theorem tput_loop0 : LoopOk tputC 0 (loopBody Try.f51 0) := by
  refine loopOk_of (F := tputLoop0) (ts := [25, 24, 23, 6, 7, 1]) (os := [1020]) rfl (fun svs _ => match svs with | .val _ i :: .val _ m :: _ => (m.int - i.int).toNat | _ => 0) ?_
  intro pan svs os k ho1 ho2 h
  unfold tputLoop0 at h
  split at h
  · rename_i j m ec L cnt o kk t xs
    obtain ⟨⟨rfl, rfl, rfl, hcnt, hm, hm4, h0, hj, hc0, hcj, h8, hx⟩, hk⟩ := h
    refine .eq (tput_round0 pan _ _ k j m L cnt kk xs) ?_
    refine bd (fun hlt => dt ⟨h0, by omega⟩ ?_) (fun hlt => ?_)
    · have hl8 : (nth (U.i 0) L.list j.int.toNat).list.length ≤ 8 := by
        have hd : L.list.drop j.int.toNat = U.at L.list j.int.toNat :: _ := drop_at (by omega)
        exact h8 _ (List.mem_of_mem_drop (by rw [hd]; exact List.mem_cons_self ..))
      rw [drop_at (by omega), countB, leavesB] at hk
      have hw : IntKind.wrap .i64 (j.int + 1) = j.int + 1 := i64_in (by omega) (by omega)
      have hw2 : IntKind.wrap .i64 (cnt.int + 1) = cnt.int + 1 := i64_in (by omega) (by omega)
      have hc : (j.int + 1).toNat = j.int.toNat + 1 := by omega
      have hlt' : (m.int - (j.int + 1)).toNat < (m.int - j.int).toNat := by omega
      simp only [U.at] at hk
      simp only [hw, hw2, hc, Int.toNat_zero, List.drop_zero]
      refine bi (fun h1 => ?_) (fun h1 => ⟨by simp, ?_⟩)
      · have hl : (nth (U.i 0) L.list j.int.toNat).list = [] := by simpa using h1
        rw [decide_eq_true hl] at hk
        simp only [cond_true, Int.zero_add, List.nil_append] at hk
        exact blt hlt' ⟨⟨by trivial, by trivial, by trivial, hcnt, hm, hm4, by omega, by omega, hc0, by omega, h8, by omega⟩, hk⟩
      · have hl : ¬ (nth (U.i 0) L.list j.int.toNat).list = [] := by simpa using h1
        rw [decide_eq_false hl] at hk
        simp only [cond_false, ← Int.add_assoc, ← List.append_assoc] at hk
        have l1 := putX_len [] 2 false (IntKind.wrap .u64 j.int)
        have l2 := leafB_len kk.int (nth (U.i 0) L.list j.int.toNat).list
        simp only [Int.reduceToNat, List.length_nil] at l1
        refine broom (by simp [room]; omega) rfl ⟨⟨by trivial, by trivial, by trivial, by trivial, by trivial, by omega, by omega, by rw [List.length_append]; omega⟩, ?_⟩
        exact blt hlt' ⟨⟨by trivial, by trivial, by trivial, by trivial, hm, hm4, by omega, by omega, by omega, by omega, h8, by rw [List.length_append, List.length_append]; omega⟩, hk⟩
    · rw [List.drop_of_length_le (by omega), countB, leavesB, Int.add_zero, List.append_nil, ← hcnt] at hk
      exact hk
  · exact h.elim
theorem leaves8 {n c : Int} : ∀ {L : List U} {i : Int}, leavesR n c i L = true → ∀ l ∈ L, l.list.length ≤ 8
  | [], _, _, l, hl => by cases hl
  | x :: r, i, h, l, hl => by
    rw [leavesR] at h
    have key : x.list.length ≤ 8 ∧ leavesR n c (i + 1) r = true := by
      split at h
      · rename_i h0; exact ⟨by rw [h0.1]; simp, h⟩
      · rw [Bool.and_eq_true] at h
        have h1 := h.1
        unfold leafR at h1
        simp only [Bool.and_eq_true, decide_eq_true_eq] at h1
        exact ⟨by omega, h.2⟩
    rcases List.mem_cons.1 hl with rfl | hl
    · exact key.1
    · exact leaves8 key.2 l hl
theorem leavesB_len (k : Int) : ∀ (L : List U) (i : Int), (∀ l ∈ L, l.list.length ≤ 8) → (leavesB k i L).length ≤ 130 * L.length
  | [], _, _ => by simp [leavesB]
  | x :: r, i, h => by
    have h1 := leavesB_len k r (i + 1) (fun l hl => h l (List.mem_cons_of_mem _ hl))
    have h2 := leafB_len k x.list
    have h3 := num_len [] 2 i
    have h4 := h x (List.mem_cons_self ..)
    simp only [Int.reduceToNat, List.length_nil] at h3
    rw [leavesB, List.length_append, List.length_cons]
    cases decide (x.list = []) with
    | true => simp only [cond_true, List.length_nil]; omega
    | false => simp only [cond_false, List.length_append]; omega
theorem tableR_low {L : List U} {n c : Int} (hl : L.length ≤ 1099511627776) (h : tableR L n c = true) : L.length ≤ 512 ∧ (∀ l ∈ L, l.list.length ≤ 8) ∧ 0 ≤ n ∧ n ≤ 4096 ∧ 0 ≤ c ∧ c ≤ 6 := by
  unfold tableR at h
  split at h
  · cases h
  · rename_i hc
    refine ⟨?_, leaves8 h, by omega, by omega, by omega, by omega⟩
    by_cases h0 : L = []
    · subst h0; simp
    · have := leaves_low (by omega) L 0 (by omega) (by omega) h h0; omega
theorem tput_ok : SpecFP PR 51 tputP tputS := fun fn us hfn hpre => by
  have hf : PR.funcs[(51 : Nat)]? = some Try.f51 := by kernel_rfl
  rw [hf] at hfn; cases hfn
  refine fn_okH (C := tputC) (mkC_ok eqs0_ok mixed_ok (.cons ent_ok (.cons tab_ok .nil)) (.cons put_ok .nil)) hf (by kernel_rfl) (loops_two (by kernel_rfl) tput_loop0 tput_loop2) fun hok => ?_
  have hp : Try.f51.params.toList = [24, 3] := by kernel_rfl
  rw [hp] at hok
  obtain ⟨L, k, hus⟩ : ∃ L k, us = [[L], [k]] := by
    obtain ⟨u, u2, rfl, h1, h2⟩ := shape2 (by kernel_rfl : Cs PR 24 = some (true, [.sl false [.sl true [.int .i64, .int .i64, .int .i64, .int .i64, .int .u32]]])) (by kernel_rfl : Cs PR 3 = some (false, [.int .i64])) hok.1
    obtain ⟨L, rfl⟩ := len1 h1
    obtain ⟨k, rfl⟩ := len1 h2
    exact ⟨L, k, rfl⟩
  subst hus
  refine .eq (tput_tree _ _ _) ?_
  unfold tputP at hpre
  unfold tputS tputB
  simp only [nth_zero, nth_succ] at hpre ⊢
  refine bi (fun h => by rw [nt h]; rfl) (fun h => ?_)
  have h := nf h
  rw [h]
  obtain ⟨h1, h2, _⟩ := tableR_low hpre h
  have h3 := leavesB_len k.int L.list 0 h2
  have h4 := num_len [] 2 (countB L.list)
  simp only [Int.reduceToNat, List.length_nil] at h4
  simp only [List.drop_zero, Int.toNat_zero, Int.zero_add, List.nil_append]
  refine ⟨⟨by trivial, by trivial, by trivial, by trivial, by trivial, by omega, by trivial, by omega, by trivial, by trivial, h2, by omega⟩, by trivial, broom ?_ rfl (by trivial)⟩
  show (num [] 2 (countB L.list)).length + _ ≤ 1073741824
  omega
end Go.Mat

namespace Go.Mat
open Go Go.Den Go.Proofs
theorem putX_app {b : List U} {n v : Int} (h : putErr n v = 0) : putX b n false v = b ++ putX [] n false v := by
  unfold putX; rw [if_pos h, if_pos h]; simp
theorem num_app {b : List U} {n v : Int} (h : putErr n (IntKind.wrap .u64 v) = 0) : num b n v = b ++ num [] n v := putX_app h
theorem good1 {v : Int} (h0 : 0 ≤ v) (h : v ≤ 255) : putErr 1 (IntKind.wrap .u64 v) = 0 := by
  rw [u64_in h0 (by omega), putErr, if_neg (by omega), if_neg]
  intro h1
  have h2 := h1.2
  simp only [Int.reduceMul, Int.reduceToNat, Int.reducePow, ne_eq] at h2
  omega
theorem good2 {v : Int} (h0 : 0 ≤ v) (h : v ≤ 65535) : putErr 2 (IntKind.wrap .u64 v) = 0 := by
  rw [u64_in h0 (by omega), putErr, if_neg (by omega), if_neg]
  intro h1
  have h2 := h1.2
  simp only [Int.reduceMul, Int.reduceToNat, Int.reducePow, ne_eq] at h2
  omega
theorem good4 {v : Int} (h0 : 0 ≤ v) (h : v ≤ 4294967295) : putErr 4 (IntKind.wrap .u64 v) = 0 := by
  rw [u64_in h0 (by omega), putErr, if_neg (by omega), if_neg]
  intro h1
  have h2 := h1.2
  simp only [Int.reduceMul, Int.reduceToNat, Int.reducePow, ne_eq] at h2
  omega
end Go.Mat

namespace Go.Mat
open Go Go.Den Go.Proofs
noncomputable def addF : Tr := fun vs objs k => match vs, objs with
  | [.ptr p o, .val (.int .i64) d], [(i, .box [.val (.int .i64) x])] =>
    (p = 2097153 ∧ o = 0 ∧ i = 2097153) ∧ k (.ret [vi (.i (IntKind.wrap .i64 (x.int + d.int)))]) [(2097153, .box [vi (.i (IntKind.wrap .i64 (x.int + d.int)))])]
  | _, _ => False
noncomputable def loadF : Tr := fun vs objs k => match vs, objs with
  | [.ptr p o], [(i, .box [.val (.int .i64) x])] => (p = 2097153 ∧ o = 0 ∧ i = 2097153) ∧ k (.ret [vi x]) [(2097153, .box [vi x])]
  | _, _ => False
theorem add_tree (R : RT) (d x : U) : (runD (K0.withExt 78 .add) Try.f68 [.ptr 2097153 0, vi d] [(2097153, .box [vi x])] R) = (R (Out.ret [SV.val (Ct.int IntKind.i64) (U.i (IntKind.wrap IntKind.i64 (U.int x + U.int d)))]) [(nat_lit 2097153, Obj.box [SV.val (Ct.int IntKind.i64) (U.i (IntKind.wrap IntKind.i64 (U.int x + U.int d)))])]) := by kernel_rfl
theorem load_tree (R : RT) (x : U) : (runD (K0.withExt 79 .load) Try.f69 [.ptr 2097153 0] [(2097153, .box [vi x])] R) = (R (Out.ret [SV.val (Ct.int IntKind.i64) x]) [(nat_lit 2097153, Obj.box [SV.val (Ct.int IntKind.i64) x])]) := by kernel_rfl
def strU (s : ByteArray) : List U := s.data.toList.map fun b => .i (b.toNat : Int)
def longB (s : ByteArray) : Bool := decide ((s.size : Int) > 65535)
def textB (b : List U) (s : ByteArray) : List U := bif longB s then [] else num b 2 s.size ++ strU s
def textE (s : ByteArray) : Int := bif longB s then 2 else 0
def textP : List (List U) → Prop := fun us => (nth (.i 0) (nth [] us 0) 0).list.length ≤ 536870912
def textS : List (List U) → List (List U) := fun us => [[.l (textB (nth (.i 0) (nth [] us 0) 0).list (nth (.i 0) (nth [] us 1) 0).str)], [.i (textE (nth (.i 0) (nth [] us 1) 0).str)]]
noncomputable def textC : Ctx := mkC PR eqs0 fnsNil (trsCons 68 [false, false] addF (trsCons 69 [false] loadF (trsCons 49 [false, false, false, false] putF trsNil))) noLoops noOut noOut
theorem text_tree (R : RF) (b s : U) : (run textC Try.f50 [[b], [s]] R) = ((nat_lit 2097153 = nat_lit 2097153 ∧ nat_lit 0 = nat_lit 0 ∧ nat_lit 2097153 = nat_lit 2097153) ∧ (nat_lit 2097153 = nat_lit 2097153 ∧ nat_lit 0 = nat_lit 0 ∧ nat_lit 2097153 = nat_lit 2097153) ∧ bif decide
  (IntKind.wrap IntKind.i64 ((0 : Int) + (↑(ByteArray.size (U.str s)) : Int)) > (65535 : Int)) then R [[U.l []], [U.i (2 : Int)]] else (nat_lit 2097153 = nat_lit 2097153 ∧ nat_lit 0 = nat_lit 0 ∧ nat_lit
  2097153 = nat_lit 2097153) ∧ List.length (U.list b) ≤ (536870912 : Nat) ∧ bif decide (List.length (putX (U.list b) (2 : Int) false (IntKind.wrap IntKind.u64 (IntKind.wrap IntKind.i64 ((0 : Int) + (↑(ByteArray.size
  (U.str s)) : Int))))) + List.length (List.map (fun b => U.i (↑(UInt8.toNat b) : Int)) (Array.toList (ByteArray.data (U.str s)))) ≤ room) && !oddB ((2319 : Nat) + (1 : Nat)) then R [[U.l (putX (U.list b)
  (2 : Int) false (IntKind.wrap IntKind.u64 (IntKind.wrap IntKind.i64 ((0 : Int) + (↑(ByteArray.size (U.str s)) : Int)))) ++ List.map (fun b => U.i (↑(UInt8.toNat b) : Int)) (Array.toList (ByteArray.data
  (U.str s))))], [U.i (putErr (2 : Int) (IntKind.wrap IntKind.u64 (IntKind.wrap IntKind.i64 ((0 : Int) + (↑(ByteArray.size (U.str s)) : Int)))))]] else False) := by kernel_rfl
end Go.Mat

namespace Go.Mat
open Go Go.Den Go.Proofs
theorem run_add64 {x y : Int} {w : World} : (Op.intArith .add .i64 x y).run PR w = .ok (.int .i64 (IntKind.wrap .i64 (x + y))) w := rfl
theorem ext_load : ExtOk PR 79 .load := fun a x w h => by
  have hf : PR.funcs[(79 : Nat)]? = some Try.f79 := by kernel_rfl
  exact run_call_load hf (by kernel_rfl) (by kernel_rfl) (by kernel_rfl) .i64 (by kernel_rfl) h
theorem ext_add : ExtOk PR 78 .add := fun a x y w h hz => by
  have hf : PR.funcs[(78 : Nat)]? = some Try.f78 := by kernel_rfl
  exact run_call_add hf (by kernel_rfl) (by kernel_rfl) (by kernel_rfl) .i64 (by kernel_rfl) h hz run_add64
theorem add_ok : SpecT PR 68 addF := fun fn hfn => by
  have hf : PR.funcs[(68 : Nat)]? = some Try.f68 := by kernel_rfl
  rw [hf] at hfn; cases hfn
  refine fnT_okH (C := K0.withExt 78 .add) (Ctx.Ok.withExt (mkC_ok eqs0_ok mixed_ok .nil .nil) ext_add) hf (by kernel_rfl) (loops_none (by kernel_rfl)) fun vs objs R h1 h2 h => ?_
  unfold addF at h
  split at h
  · rename_i p o d i x
    obtain ⟨⟨rfl, rfl, rfl⟩, h⟩ := h
    refine .eq (add_tree R d x) ?_
    exact h
  · exact h.elim
theorem load_ok : SpecT PR 69 loadF := fun fn hfn => by
  have hf : PR.funcs[(69 : Nat)]? = some Try.f69 := by kernel_rfl
  rw [hf] at hfn; cases hfn
  refine fnT_okH (C := K0.withExt 79 .load) (Ctx.Ok.withExt (mkC_ok eqs0_ok mixed_ok .nil .nil) ext_load) hf (by kernel_rfl) (loops_none (by kernel_rfl)) fun vs objs R h1 h2 h => ?_
  unfold loadF at h
  split at h
  · rename_i p o i x
    obtain ⟨⟨rfl, rfl, rfl⟩, h⟩ := h
    refine .eq (load_tree R x) ?_
    exact h
  · exact h.elim
theorem text_ok : SpecFP PR 50 textP textS := fun fn us hfn hpre => by
  have hf : PR.funcs[(50 : Nat)]? = some Try.f50 := by kernel_rfl
  rw [hf] at hfn; cases hfn
  refine fn_okH (C := textC) (mkC_ok eqs0_ok mixed_ok .nil (.cons add_ok (.cons load_ok (.cons put_ok .nil)))) hf (by kernel_rfl) (loops_none (by kernel_rfl)) fun hok => ?_
  have hp : Try.f50.params.toList = [32, 9] := by kernel_rfl
  rw [hp] at hok
  obtain ⟨b, s, hus⟩ : ∃ b s, us = [[b], [s]] := by
    obtain ⟨u, u2, rfl, h1, h2⟩ := shape2 (by kernel_rfl : Cs PR 32 = some (false, [.sl false [.int .u8]])) (by kernel_rfl : Cs PR 9 = some (false, [.str])) hok.1
    obtain ⟨b, rfl⟩ := len1 h1
    obtain ⟨s, rfl⟩ := len1 h2
    exact ⟨b, s, rfl⟩
  subst hus
  refine .eq (text_tree _ _ _) ?_
  have hs : s.str.size ≤ maxLen := (hok.2 [vl (.int .u8) b, vs s] (by kernel_rfl)).2.1
  unfold maxLen at hs
  unfold textP at hpre
  unfold textS textB textE
  simp only [nth_zero, nth_succ] at hpre ⊢
  rw [i64_in (by omega) (by omega), Int.zero_add]
  refine ⟨⟨by trivial, by trivial, by trivial⟩, ⟨by trivial, by trivial, by trivial⟩, ?_⟩
  refine bi (fun h => by rw [show longB s.str = true from h]; rfl) (fun h => ?_)
  rw [show longB s.str = false from h]
  have h := of_decide_eq_false h
  have hg := good2 (v := s.str.size) (by omega) (by omega)
  have h4 := num_len b.list 2 s.str.size
  simp only [Int.reduceToNat] at h4
  have hl : (List.map (fun b : UInt8 => U.i (b.toNat : Int)) s.str.data.toList).length = s.str.size := by rw [List.length_map, str_len]
  refine ⟨⟨by trivial, by trivial, by trivial⟩, hpre, broom ?_ rfl ?_⟩
  · rw [hl]
    show (num b.list 2 s.str.size).length + _ ≤ 1073741824
    omega
  · rw [hg]; rfl
end Go.Mat

namespace Go.Mat
open Go Go.Den Go.Proofs
abbrev wIs (p o i q j : Nat) (t : TypeId) : Prop := p = 2097153 ∧ o = 0 ∧ i = 2097153 ∧ q = 2097280 ∧ j = 2097280 ∧ t = u8T
abbrev wObjs (xs : List U) : Objs := [(2097153, .box [.own 2097280]), (2097280, .arr u8T xs)]
noncomputable def wnumF : Tr := fun vs objs k => match vs, objs with
  | [.ptr p o, .val (.int .i64) n, .val (.int .i64) v], [(i, .box [.own q]), (j, .arr t xs)] =>
    (wIs p o i q j t ∧ n.int ≤ 8 ∧ xs.length ≤ 800000000) ∧ k (.ret []) (wObjs (xs ++ num [] n.int v.int))
  | _, _ => False
noncomputable def wtextF : Tr := fun vs objs k => match vs, objs with
  | [.ptr p o, .val .str s], [(i, .box [.own q]), (j, .arr t xs)] =>
    (wIs p o i q j t ∧ xs.length ≤ 800000000) ∧ k (.ret []) (wObjs (xs ++ textB [] s.str))
  | _, _ => False
def tabX (L : List U) (k : Int) : List U := bif tableR L 4096 k then tputB L k else []
noncomputable def wtableF : Tr := fun vs objs k => match vs, objs with
  | [.ptr p o, .agg [.val (.sl false [.sl true ec]) L], .val (.int .i64) c], [(i, .box [.own q]), (j, .arr t xs)] =>
    (wIs p o i q j t ∧ ec = EC ∧ L.list.length ≤ 1099511627776 ∧ xs.length ≤ 800000000) ∧ k (.ret []) (wObjs (xs ++ tabX L.list c.int))
  | _, _ => False
def spansB : List U → List U
  | [] => []
  | s :: r => num [] 2 (e0 s).int ++ num [] 2 (e1 s).int ++ spansB r
def onB (b : Bool) : Int := bif b then 1 else 0
def mapB (nm : ByteArray) (on : Bool) (L : List U) : List U := textB [] nm ++ num [] 1 (onB on) ++ num [] 2 L.length ++ spansB L
noncomputable def wmapF : Tr := fun vs objs k => match vs, objs with
  | [.ptr p o, .agg [.val .str nm, .val .bool on, .val (.sl true ec) L]], [(i, .box [.own q]), (j, .arr t xs)] =>
    (wIs p o i q j t ∧ ec = SpC ∧ (xs.length : Int) + 8 * L.list.length ≤ 700000000) ∧ k (.ret []) (wObjs (xs ++ mapB nm.str on.bool L.list))
  | _, _ => False
def runsB (x n : Int) : List U → List U
  | [] => num [] 2 n ++ num [] 2 x
  | y :: r => bif decide (n < 65535) && (y.int == x) then runsB x (n + 1) r else num [] 2 n ++ num [] 2 x ++ runsB y.int 1 r
def countsB : List U → List U
  | [] => []
  | x :: r => runsB x.int 1 r
def lead (x n : Int) : List U → Int
  | [] => n
  | y :: r => bif decide (n < 65535) && (y.int == x) then lead x (n + 1) r else n
noncomputable def wcountsF : Tr := fun vs objs k => match vs, objs with
  | [.ptr p o, .val (.sl false [.int .i64]) L], [(i, .box [.own q]), (j, .arr t xs)] =>
    (wIs p o i q j t ∧ (xs.length : Int) + 8 * L.list.length ≤ 700000000) ∧ k (.ret []) (wObjs (xs ++ (num [] 4 L.list.length ++ countsB L.list)))
  | _, _ => False
noncomputable def wtextC : Ctx := mkC PR eqs0 (fnsConsP 50 textP textS fnsNil) trsNil noLoops noOut noOut
noncomputable def wtableC : Ctx := mkC PR eqs0 (fnsConsP 51 tputP tputS fnsNil) trsNil noLoops noOut noOut
noncomputable def wmapLoop : LoopF := fun _ svs os k => match svs, os with
  | [.val (.int .i64) i, .val (.int .i64) n, .val (.sl true ec) L, .ptr p o], [.box [.own q], .arr t xs] =>
    ((p = 2097153 ∧ o = 0 ∧ q = 2097280 ∧ t = u8T) ∧ ec = SpC ∧ n.int = (L.list.length : Int) ∧ 0 ≤ i.int ∧ i.int ≤ n.int ∧ (xs.length : Int) + 8 * (n.int - i.int) ≤ 750000000) ∧ k (.exit 0) ⟨[], wObjs (xs ++ spansB (L.list.drop i.int.toNat))⟩
  | _, _ => False
noncomputable def wmapC : Ctx := mkC PR eqs0 fnsNil (trsCons 22 [false, false, false] wnumF (trsCons 23 [false, false] wtextF trsNil))
  (loopCons 0 [24, 23, 22, 0] [2097153, 2097280] wmapLoop noLoops) (outCons 0 [] [2097153, 2097280] noOut) noOut
noncomputable def wcLoop2 : LoopF := fun _ svs os k => match svs, os with
  | [.val (.int .i64) n, .val (.int .i64) i, .val (.sl false [.int .i64]) L, .ptr p o], [.box [.own q], .arr t xs] =>
    ((p = 2097153 ∧ o = 0 ∧ q = 2097280 ∧ t = u8T) ∧ n = .i n.int ∧ 0 ≤ i.int ∧ 1 ≤ n.int ∧ n.int ≤ 65535 ∧ i.int + n.int ≤ L.list.length ∧ L.list.length ≤ 1000000000) ∧
    k (.exit 2) ⟨[(5, vi (.i (lead (U.at L.list i.int.toNat).int n.int (L.list.drop (i.int + n.int).toNat)))), (4, vi i), (1, vl (.int .i64) L), (0, .ptr 2097153 0)], wObjs xs⟩
  | _, _ => False
noncomputable def wcLoop0 : LoopF := fun _ svs os k => match svs, os with
  | [.val (.int .i64) i, .val (.sl false [.int .i64]) L, .ptr p o], [.box [.own q], .arr t xs] =>
    ((p = 2097153 ∧ o = 0 ∧ q = 2097280 ∧ t = u8T) ∧ 0 ≤ i.int ∧ i.int ≤ L.list.length ∧ L.list.length ≤ 1000000000 ∧ (xs.length : Int) + 8 * (L.list.length - i.int) ≤ 750000000) ∧
    k (.exit 0) ⟨[], wObjs (xs ++ countsB (L.list.drop i.int.toNat))⟩
  | _, _ => False
noncomputable def wcC : Ctx := mkC PR eqs0 fnsNil (trsCons 22 [false, false, false] wnumF trsNil)
  (loopCons 2 [5, 4, 1, 0] [2097153, 2097280] wcLoop2 (loopCons 0 [4, 1, 0] [2097153, 2097280] wcLoop0 noLoops)) (outCons 2 [5, 4, 1, 0] [2097153, 2097280] (outCons 0 [] [2097153, 2097280] noOut)) noOut
theorem wtext_tree (R : RT) (s : U) (xs : List U) : (runD wtextC Try.f23 [.ptr 2097153 0, vs s] (wObjs xs) R) = (textP [[U.l []], [s]] ∧ bif decide (List.length xs + List.length (textB [] (U.str s)) ≤ room) && !oddB (2097280 : Nat) then R (Out.ret []) [(nat_lit 2097153, Obj.box [SV.own (nat_lit 2097280)]), (nat_lit
  2097280, Obj.arr (nat_lit 5) (xs ++ textB [] (U.str s)))] else False) := by kernel_rfl
theorem wtable_tree (R : RT) (L c : U) (xs : List U) : (runD wtableC Try.f24 [.ptr 2097153 0, .agg [vl (.sl true EC) L], vi c] (wObjs xs) R) = (tputP [[L], [c]] ∧ bif decide (List.length xs + List.length (bif tableR (U.list L) (4096 : Int) (U.int c) then tputB (U.list L) (U.int c) else []) ≤ room) && !oddB (2097280 : Nat) then R (Out.ret []) [(nat_lit
  2097153, Obj.box [SV.own (nat_lit 2097280)]), (nat_lit 2097280, Obj.arr (nat_lit 5) (xs ++ bif tableR (U.list L) (4096 : Int) (U.int c) then tputB (U.list L) (U.int c) else []))] else False) := by kernel_rfl
theorem wmap_round (pan : KP) (μ : Mu) (N : Nat) (k : KE) (i n L : U) (xs : List U) : (exec (wmapC.panics pan) (loopBody Try.f25 0) 0 ⟨[(24, vi i), (23, vi n), (22, vt SpC L), (0, .ptr 2097153 0)], wObjs xs⟩ (again PR (some ([], [2097153, 2097280])) none pan [24, 23, 22, 0] [2097153, 2097280] wmapLoop μ N k)) = (bif decide (U.int i < U.int n) then bif decide ((0 : Int) ≤ U.int i ∧ U.int i < (↑(List.length (U.list L)) : Int)) then (wIs ((2097152 : Nat) + (1 : Nat)) (0 : Nat) ((2097152 : Nat) + (1 : Nat)) ((2097279
  : Nat) + (1 : Nat)) ((2097279 : Nat) + (1 : Nat)) ((4 : Nat) + (1 : Nat)) ∧ (2 : Int) ≤ (8 : Int) ∧ List.length xs ≤ (800000000 : Nat)) ∧ (wIs ((2097152 : Nat) + (1 : Nat)) (0 : Nat) ((2097152 : Nat) +
  (1 : Nat)) ((2097279 : Nat) + (1 : Nat)) ((2097279 : Nat) + (1 : Nat)) ((4 : Nat) + (1 : Nat)) ∧ (2 : Int) ≤ (8 : Int) ∧ List.length (xs ++ num [] (2 : Int) (U.int (nth (U.i (0 : Int)) (U.list (nth (U.i
  (0 : Int)) (U.list L) (Int.toNat (U.int i)))) (0 : Nat)))) ≤ (800000000 : Nat)) ∧ bif Nat.blt (μ [SV.val (Ct.int IntKind.i64) (U.i (IntKind.wrap IntKind.i64 (U.int i + (1 : Int)))), SV.val (Ct.int IntKind.i64)
  n, SV.val (Ct.sl true [Ct.int IntKind.i64, Ct.int IntKind.i64]) L, SV.ptr (nat_lit 2097153) (nat_lit 0)] [Obj.box [SV.own (nat_lit 2097280)], Obj.arr (nat_lit 5) (xs ++ num [] (2 : Int) (U.int (nth (U.i
  (0 : Int)) (U.list (nth (U.i (0 : Int)) (U.list L) (Int.toNat (U.int i)))) (0 : Nat))) ++ num [] (2 : Int) (U.int (nth (U.i (0 : Int)) (List.tail (U.list (nth (U.i (0 : Int)) (U.list L) (Int.toNat (U.int
  i))))) (0 : Nat))))]) N then ((nat_lit 2097153 = nat_lit 2097153 ∧ nat_lit 0 = nat_lit 0 ∧ nat_lit 2097280 = nat_lit 2097280 ∧ nat_lit 5 = nat_lit 5) ∧ [Ct.int IntKind.i64, Ct.int IntKind.i64] = [Ct.int
  IntKind.i64, Ct.int IntKind.i64] ∧ U.int n = (↑(List.length (U.list L)) : Int) ∧ (0 : Int) ≤ IntKind.wrap IntKind.i64 (U.int i + (1 : Int)) ∧ IntKind.wrap IntKind.i64 (U.int i + (1 : Int)) ≤ U.int n ∧
  (↑(List.length (xs ++ num [] (2 : Int) (U.int (nth (U.i (0 : Int)) (U.list (nth (U.i (0 : Int)) (U.list L) (Int.toNat (U.int i)))) (0 : Nat))) ++ num [] (2 : Int) (U.int (nth (U.i (0 : Int)) (List.tail
  (U.list (nth (U.i (0 : Int)) (U.list L) (Int.toNat (U.int i))))) (0 : Nat))))) : Int) + (8 : Int) * (U.int n - IntKind.wrap IntKind.i64 (U.int i + (1 : Int))) ≤ (750000000 : Int)) ∧ k (Ex.exit (nat_lit
  0)) (St.mk [] [(nat_lit 2097153, Obj.box [SV.own (nat_lit 2097280)]), (nat_lit 2097280, Obj.arr (nat_lit 5) (xs ++ num [] (2 : Int) (U.int (nth (U.i (0 : Int)) (U.list (nth (U.i (0 : Int)) (U.list L) (Int.toNat
  (U.int i)))) (0 : Nat))) ++ num [] (2 : Int) (U.int (nth (U.i (0 : Int)) (List.tail (U.list (nth (U.i (0 : Int)) (U.list L) (Int.toNat (U.int i))))) (0 : Nat))) ++ spansB (List.drop (Int.toNat (IntKind.wrap
  IntKind.i64 (U.int i + (1 : Int)))) (U.list L))))]) else False else False else k (Ex.exit (nat_lit 0)) (St.mk [] [(nat_lit 2097153, Obj.box [SV.own (nat_lit 2097280)]), (nat_lit 2097280, Obj.arr (nat_lit
  5) xs)])) := by kernel_rfl
theorem wmap_tree (R : RT) (nm on L : U) (xs : List U) : (runD wmapC Try.f25 [.ptr 2097153 0, .agg [vs nm, vb on, vt SpC L]] (wObjs xs) R) = ((wIs ((2097152 : Nat) + (1 : Nat)) (0 : Nat) ((2097152 : Nat) + (1 : Nat)) ((2097279 : Nat) + (1 : Nat)) ((2097279 : Nat) + (1 : Nat)) ((4 : Nat) + (1 : Nat)) ∧ List.length xs ≤ (800000000 : Nat)) ∧ bif
  U.bool on then (wIs ((2097152 : Nat) + (1 : Nat)) (0 : Nat) ((2097152 : Nat) + (1 : Nat)) ((2097279 : Nat) + (1 : Nat)) ((2097279 : Nat) + (1 : Nat)) ((4 : Nat) + (1 : Nat)) ∧ (1 : Int) ≤ (8 : Int) ∧ List.length
  (xs ++ textB [] (U.str nm)) ≤ (800000000 : Nat)) ∧ (wIs ((2097152 : Nat) + (1 : Nat)) (0 : Nat) ((2097152 : Nat) + (1 : Nat)) ((2097279 : Nat) + (1 : Nat)) ((2097279 : Nat) + (1 : Nat)) ((4 : Nat) + (1
  : Nat)) ∧ (2 : Int) ≤ (8 : Int) ∧ List.length (xs ++ textB [] (U.str nm) ++ num [] (1 : Int) (1 : Int)) ≤ (800000000 : Nat)) ∧ ((nat_lit 2097153 = nat_lit 2097153 ∧ nat_lit 0 = nat_lit 0 ∧ nat_lit 2097280
  = nat_lit 2097280 ∧ nat_lit 5 = nat_lit 5) ∧ [Ct.int IntKind.i64, Ct.int IntKind.i64] = [Ct.int IntKind.i64, Ct.int IntKind.i64] ∧ (↑(List.length (U.list L)) : Int) = (↑(List.length (U.list L)) : Int)
  ∧ (0 : Int) ≤ (0 : Int) ∧ (0 : Int) ≤ (↑(List.length (U.list L)) : Int) ∧ (↑(List.length (xs ++ textB [] (U.str nm) ++ num [] (1 : Int) (1 : Int) ++ num [] (2 : Int) (↑(List.length (U.list L)) : Int)))
  : Int) + (8 : Int) * ((↑(List.length (U.list L)) : Int) - (0 : Int)) ≤ (750000000 : Int)) ∧ R (Out.ret []) [(nat_lit 2097153, Obj.box [SV.own (nat_lit 2097280)]), (nat_lit 2097280, Obj.arr (nat_lit 5)
  (xs ++ textB [] (U.str nm) ++ num [] (1 : Int) (1 : Int) ++ num [] (2 : Int) (↑(List.length (U.list L)) : Int) ++ spansB (List.drop (Int.toNat (0 : Int)) (U.list L))))] else (wIs ((2097152 : Nat) + (1
  : Nat)) (0 : Nat) ((2097152 : Nat) + (1 : Nat)) ((2097279 : Nat) + (1 : Nat)) ((2097279 : Nat) + (1 : Nat)) ((4 : Nat) + (1 : Nat)) ∧ (1 : Int) ≤ (8 : Int) ∧ List.length (xs ++ textB [] (U.str nm)) ≤ (800000000
  : Nat)) ∧ (wIs ((2097152 : Nat) + (1 : Nat)) (0 : Nat) ((2097152 : Nat) + (1 : Nat)) ((2097279 : Nat) + (1 : Nat)) ((2097279 : Nat) + (1 : Nat)) ((4 : Nat) + (1 : Nat)) ∧ (2 : Int) ≤ (8 : Int) ∧ List.length
  (xs ++ textB [] (U.str nm) ++ num [] (1 : Int) (0 : Int)) ≤ (800000000 : Nat)) ∧ ((nat_lit 2097153 = nat_lit 2097153 ∧ nat_lit 0 = nat_lit 0 ∧ nat_lit 2097280 = nat_lit 2097280 ∧ nat_lit 5 = nat_lit 5)
  ∧ [Ct.int IntKind.i64, Ct.int IntKind.i64] = [Ct.int IntKind.i64, Ct.int IntKind.i64] ∧ (↑(List.length (U.list L)) : Int) = (↑(List.length (U.list L)) : Int) ∧ (0 : Int) ≤ (0 : Int) ∧ (0 : Int) ≤ (↑(List.length
  (U.list L)) : Int) ∧ (↑(List.length (xs ++ textB [] (U.str nm) ++ num [] (1 : Int) (0 : Int) ++ num [] (2 : Int) (↑(List.length (U.list L)) : Int))) : Int) + (8 : Int) * ((↑(List.length (U.list L)) : Int)
  - (0 : Int)) ≤ (750000000 : Int)) ∧ R (Out.ret []) [(nat_lit 2097153, Obj.box [SV.own (nat_lit 2097280)]), (nat_lit 2097280, Obj.arr (nat_lit 5) (xs ++ textB [] (U.str nm) ++ num [] (1 : Int) (0 : Int)
  ++ num [] (2 : Int) (↑(List.length (U.list L)) : Int) ++ spansB (List.drop (Int.toNat (0 : Int)) (U.list L))))]) := by kernel_rfl
theorem wc_round2 (pan : KP) (μ : Mu) (N : Nat) (k : KE) (n i L : U) (xs : List U) : (exec (wcC.panics pan) (loopBody Try.f26 1) 2 ⟨[(5, vi n), (4, vi i), (1, vl (.int .i64) L), (0, .ptr 2097153 0)], wObjs xs⟩ (again PR (some ([5, 4, 1, 0], [2097153, 2097280])) none pan [5, 4, 1, 0] [2097153, 2097280] wcLoop2 μ N k)) = (bif decide (U.int n < (65535 : Int)) then bif decide (IntKind.wrap IntKind.i64 (U.int i + U.int n) < (↑(List.length (U.list L)) : Int)) then bif decide ((0 : Int) ≤ IntKind.wrap IntKind.i64 (U.int i +
  U.int n) ∧ IntKind.wrap IntKind.i64 (U.int i + U.int n) < (↑(List.length (U.list L)) : Int)) then bif decide ((0 : Int) ≤ U.int i ∧ U.int i < (↑(List.length (U.list L)) : Int)) then bif U.int (nth (U.i
  (0 : Int)) (U.list L) (Int.toNat (IntKind.wrap IntKind.i64 (U.int i + U.int n)))) == U.int (nth (U.i (0 : Int)) (U.list L) (Int.toNat (U.int i))) then bif Nat.blt (μ [SV.val (Ct.int IntKind.i64) (U.i (IntKind.wrap
  IntKind.i64 (U.int n + (1 : Int)))), SV.val (Ct.int IntKind.i64) i, SV.val (Ct.sl false [Ct.int IntKind.i64]) L, SV.ptr (nat_lit 2097153) (nat_lit 0)] [Obj.box [SV.own (nat_lit 2097280)], Obj.arr (nat_lit
  5) xs]) N then ((nat_lit 2097153 = nat_lit 2097153 ∧ nat_lit 0 = nat_lit 0 ∧ nat_lit 2097280 = nat_lit 2097280 ∧ nat_lit 5 = nat_lit 5) ∧ U.i (IntKind.wrap IntKind.i64 (U.int n + (1 : Int))) = U.i (IntKind.wrap
  IntKind.i64 (U.int n + (1 : Int))) ∧ (0 : Int) ≤ U.int i ∧ (1 : Int) ≤ IntKind.wrap IntKind.i64 (U.int n + (1 : Int)) ∧ IntKind.wrap IntKind.i64 (U.int n + (1 : Int)) ≤ (65535 : Int) ∧ U.int i + IntKind.wrap
  IntKind.i64 (U.int n + (1 : Int)) ≤ (↑(List.length (U.list L)) : Int) ∧ List.length (U.list L) ≤ (1000000000 : Nat)) ∧ k (Ex.exit (nat_lit 2)) (St.mk [(nat_lit 5, SV.val (Ct.int IntKind.i64) (U.i (lead
  (U.int (nth (U.i (0 : Int)) (U.list L) (Int.toNat (U.int i)))) (IntKind.wrap IntKind.i64 (U.int n + (1 : Int))) (List.drop (Int.toNat (U.int i + IntKind.wrap IntKind.i64 (U.int n + (1 : Int)))) (U.list
  L))))), (nat_lit 4, SV.val (Ct.int IntKind.i64) i), (nat_lit 1, SV.val (Ct.sl false [Ct.int IntKind.i64]) L), (nat_lit 0, SV.ptr (nat_lit 2097153) (nat_lit 0))] [(nat_lit 2097153, Obj.box [SV.own (nat_lit
  2097280)]), (nat_lit 2097280, Obj.arr (nat_lit 5) xs)]) else False else k (Ex.exit (nat_lit 2)) (St.mk [(nat_lit 5, SV.val (Ct.int IntKind.i64) n), (nat_lit 4, SV.val (Ct.int IntKind.i64) i), (nat_lit
  1, SV.val (Ct.sl false [Ct.int IntKind.i64]) L), (nat_lit 0, SV.ptr (nat_lit 2097153) (nat_lit 0))] [(nat_lit 2097153, Obj.box [SV.own (nat_lit 2097280)]), (nat_lit 2097280, Obj.arr (nat_lit 5) xs)]) else
  False else False else k (Ex.exit (nat_lit 2)) (St.mk [(nat_lit 5, SV.val (Ct.int IntKind.i64) n), (nat_lit 4, SV.val (Ct.int IntKind.i64) i), (nat_lit 1, SV.val (Ct.sl false [Ct.int IntKind.i64]) L), (nat_lit
  0, SV.ptr (nat_lit 2097153) (nat_lit 0))] [(nat_lit 2097153, Obj.box [SV.own (nat_lit 2097280)]), (nat_lit 2097280, Obj.arr (nat_lit 5) xs)]) else k (Ex.exit (nat_lit 2)) (St.mk [(nat_lit 5, SV.val (Ct.int
  IntKind.i64) n), (nat_lit 4, SV.val (Ct.int IntKind.i64) i), (nat_lit 1, SV.val (Ct.sl false [Ct.int IntKind.i64]) L), (nat_lit 0, SV.ptr (nat_lit 2097153) (nat_lit 0))] [(nat_lit 2097153, Obj.box [SV.own
  (nat_lit 2097280)]), (nat_lit 2097280, Obj.arr (nat_lit 5) xs)])) := by kernel_rfl
theorem wc_round0 (pan : KP) (μ : Mu) (N : Nat) (k : KE) (i L : U) (xs : List U) : (exec (wcC.panics pan) (loopBody Try.f26 0) 0 ⟨[(4, vi i), (1, vl (.int .i64) L), (0, .ptr 2097153 0)], wObjs xs⟩ (again PR (some ([], [2097153, 2097280])) none pan [4, 1, 0] [2097153, 2097280] wcLoop0 μ N k)) = (bif decide (U.int i < (↑(List.length (U.list L)) : Int)) then ((nat_lit 2097153 = nat_lit 2097153 ∧ nat_lit 0 = nat_lit 0 ∧ nat_lit 2097280 = nat_lit 2097280 ∧ nat_lit 5 = nat_lit 5) ∧ U.i (1 : Int) =
  U.i (1 : Int) ∧ (0 : Int) ≤ U.int i ∧ (1 : Int) ≤ (1 : Int) ∧ (1 : Int) ≤ (65535 : Int) ∧ U.int i + (1 : Int) ≤ (↑(List.length (U.list L)) : Int) ∧ List.length (U.list L) ≤ (1000000000 : Nat)) ∧ (wIs ((2097152
  : Nat) + (1 : Nat)) (0 : Nat) ((2097152 : Nat) + (1 : Nat)) ((2097279 : Nat) + (1 : Nat)) ((2097279 : Nat) + (1 : Nat)) ((4 : Nat) + (1 : Nat)) ∧ (2 : Int) ≤ (8 : Int) ∧ List.length xs ≤ (800000000 : Nat))
  ∧ bif decide ((0 : Int) ≤ U.int i ∧ U.int i < (↑(List.length (U.list L)) : Int)) then (wIs ((2097152 : Nat) + (1 : Nat)) (0 : Nat) ((2097152 : Nat) + (1 : Nat)) ((2097279 : Nat) + (1 : Nat)) ((2097279
  : Nat) + (1 : Nat)) ((4 : Nat) + (1 : Nat)) ∧ (2 : Int) ≤ (8 : Int) ∧ List.length (xs ++ num [] (2 : Int) (lead (U.int (nth (U.i (0 : Int)) (U.list L) (Int.toNat (U.int i)))) (1 : Int) (List.drop (Int.toNat
  (U.int i + (1 : Int))) (U.list L)))) ≤ (800000000 : Nat)) ∧ bif Nat.blt (μ [SV.val (Ct.int IntKind.i64) (U.i (IntKind.wrap IntKind.i64 (U.int i + lead (U.int (nth (U.i (0 : Int)) (U.list L) (Int.toNat
  (U.int i)))) (1 : Int) (List.drop (Int.toNat (U.int i + (1 : Int))) (U.list L))))), SV.val (Ct.sl false [Ct.int IntKind.i64]) L, SV.ptr (nat_lit 2097153) (nat_lit 0)] [Obj.box [SV.own (nat_lit 2097280)],
  Obj.arr (nat_lit 5) (xs ++ num [] (2 : Int) (lead (U.int (nth (U.i (0 : Int)) (U.list L) (Int.toNat (U.int i)))) (1 : Int) (List.drop (Int.toNat (U.int i + (1 : Int))) (U.list L))) ++ num [] (2 : Int)
  (U.int (nth (U.i (0 : Int)) (U.list L) (Int.toNat (U.int i)))))]) N then ((nat_lit 2097153 = nat_lit 2097153 ∧ nat_lit 0 = nat_lit 0 ∧ nat_lit 2097280 = nat_lit 2097280 ∧ nat_lit 5 = nat_lit 5) ∧ (0 :
  Int) ≤ IntKind.wrap IntKind.i64 (U.int i + lead (U.int (nth (U.i (0 : Int)) (U.list L) (Int.toNat (U.int i)))) (1 : Int) (List.drop (Int.toNat (U.int i + (1 : Int))) (U.list L))) ∧ IntKind.wrap IntKind.i64
  (U.int i + lead (U.int (nth (U.i (0 : Int)) (U.list L) (Int.toNat (U.int i)))) (1 : Int) (List.drop (Int.toNat (U.int i + (1 : Int))) (U.list L))) ≤ (↑(List.length (U.list L)) : Int) ∧ List.length (U.list
  L) ≤ (1000000000 : Nat) ∧ (↑(List.length (xs ++ num [] (2 : Int) (lead (U.int (nth (U.i (0 : Int)) (U.list L) (Int.toNat (U.int i)))) (1 : Int) (List.drop (Int.toNat (U.int i + (1 : Int))) (U.list L)))
  ++ num [] (2 : Int) (U.int (nth (U.i (0 : Int)) (U.list L) (Int.toNat (U.int i)))))) : Int) + (8 : Int) * ((↑(List.length (U.list L)) : Int) - IntKind.wrap IntKind.i64 (U.int i + lead (U.int (nth (U.i
  (0 : Int)) (U.list L) (Int.toNat (U.int i)))) (1 : Int) (List.drop (Int.toNat (U.int i + (1 : Int))) (U.list L)))) ≤ (750000000 : Int)) ∧ k (Ex.exit (nat_lit 0)) (St.mk [] [(nat_lit 2097153, Obj.box [SV.own
  (nat_lit 2097280)]), (nat_lit 2097280, Obj.arr (nat_lit 5) (xs ++ num [] (2 : Int) (lead (U.int (nth (U.i (0 : Int)) (U.list L) (Int.toNat (U.int i)))) (1 : Int) (List.drop (Int.toNat (U.int i + (1 : Int)))
  (U.list L))) ++ num [] (2 : Int) (U.int (nth (U.i (0 : Int)) (U.list L) (Int.toNat (U.int i)))) ++ countsB (List.drop (Int.toNat (IntKind.wrap IntKind.i64 (U.int i + lead (U.int (nth (U.i (0 : Int)) (U.list
  L) (Int.toNat (U.int i)))) (1 : Int) (List.drop (Int.toNat (U.int i + (1 : Int))) (U.list L))))) (U.list L))))]) else False else False else k (Ex.exit (nat_lit 0)) (St.mk [] [(nat_lit 2097153, Obj.box
  [SV.own (nat_lit 2097280)]), (nat_lit 2097280, Obj.arr (nat_lit 5) xs)])) := by kernel_rfl
theorem wc_tree (R : RT) (L : U) (xs : List U) : (runD wcC Try.f26 [.ptr 2097153 0, vl (.int .i64) L] (wObjs xs) R) = ((wIs ((2097152 : Nat) + (1 : Nat)) (0 : Nat) ((2097152 : Nat) + (1 : Nat)) ((2097279 : Nat) + (1 : Nat)) ((2097279 : Nat) + (1 : Nat)) ((4 : Nat) + (1 : Nat)) ∧ (4 : Int) ≤ (8 : Int) ∧ List.length xs ≤
  (800000000 : Nat)) ∧ ((nat_lit 2097153 = nat_lit 2097153 ∧ nat_lit 0 = nat_lit 0 ∧ nat_lit 2097280 = nat_lit 2097280 ∧ nat_lit 5 = nat_lit 5) ∧ (0 : Int) ≤ (0 : Int) ∧ (0 : Int) ≤ (↑(List.length (U.list
  L)) : Int) ∧ List.length (U.list L) ≤ (1000000000 : Nat) ∧ (↑(List.length (xs ++ num [] (4 : Int) (↑(List.length (U.list L)) : Int))) : Int) + (8 : Int) * ((↑(List.length (U.list L)) : Int) - (0 : Int))
  ≤ (750000000 : Int)) ∧ R (Out.ret []) [(nat_lit 2097153, Obj.box [SV.own (nat_lit 2097280)]), (nat_lit 2097280, Obj.arr (nat_lit 5) (xs ++ num [] (4 : Int) (↑(List.length (U.list L)) : Int) ++ countsB
  (List.drop (Int.toNat (0 : Int)) (U.list L))))]) := by kernel_rfl
end Go.Mat

namespace Go.Mat
open Go Go.Den Go.Proofs
theorem wis : wIs 2097153 0 2097153 2097280 2097280 u8T := ⟨rfl, rfl, rfl, rfl, rfl, rfl⟩
theorem num8 {n v : Int} (h : n ≤ 8) : (num [] n v).length ≤ 8 := by
  have := num_len [] n v
  simp only [List.length_nil] at this
  omega
theorem num2 (v : Int) : (num [] 2 v).length ≤ 2 := by
  have := num_len [] 2 v
  simp only [List.length_nil, Int.reduceToNat] at this
  omega
theorem num1 (v : Int) : (num [] 1 v).length ≤ 1 := by
  have := num_len [] 1 v
  simp only [List.length_nil, Int.reduceToNat] at this
  omega
theorem num4 (v : Int) : (num [] 4 v).length ≤ 4 := by
  have := num_len [] 4 v
  simp only [List.length_nil, Int.reduceToNat] at this
  omega
theorem strU_len (s : ByteArray) : (strU s).length = s.size := by rw [strU, List.length_map, str_len]
theorem textB_len (s : ByteArray) : (textB [] s).length ≤ 65537 := by
  unfold textB
  cases h : longB s with
  | true => simp
  | false =>
    have h := of_decide_eq_false h
    have := num2 s.size
    have := strU_len s
    simp only [cond_false, List.length_append]
    omega
theorem tabX_len {L : List U} (k : Int) (hl : L.length ≤ 1099511627776) : (tabX L k).length ≤ 66562 := by
  unfold tabX tputB
  cases h : tableR L 4096 k with
  | false => simp
  | true =>
    obtain ⟨h1, h2, _⟩ := tableR_low hl h
    have h3 := leavesB_len k L 0 h2
    have h4 := num2 (countB L)
    simp only [cond_true, List.length_append]
    omega
theorem spansB_len : ∀ L : List U, (spansB L).length ≤ 4 * L.length
  | [] => by simp [spansB]
  | s :: r => by
    have h1 := spansB_len r
    have h2 := num2 (e0 s).int
    have h3 := num2 (e1 s).int
    rw [spansB, List.length_append, List.length_append, List.length_cons]
    omega
theorem lead_ge (x : Int) : ∀ (l : List U) (n : Int), n ≤ lead x n l ∧ lead x n l ≤ n + l.length ∧ (n ≤ 65535 → lead x n l ≤ 65535)
  | [], n => by simp [lead]
  | y :: r, n => by
    unfold lead
    cases h : decide (n < 65535) && (y.int == x) with
    | false => simp; omega
    | true =>
      rw [Bool.and_eq_true, decide_eq_true_eq] at h
      have := lead_ge x r (n + 1)
      simp only [cond_true, List.length_cons]
      omega
theorem runsB_eq (x : Int) : ∀ (l : List U) (n : Int), runsB x n l = num [] 2 (lead x n l) ++ num [] 2 x ++ countsB (l.drop (lead x n l - n).toNat)
  | [], n => by simp [runsB, lead, countsB]
  | y :: r, n => by
    unfold runsB lead
    cases h : decide (n < 65535) && (y.int == x) with
    | false => simp [countsB]
    | true =>
      have h1 := lead_ge x r (n + 1)
      simp only [cond_true]
      rw [runsB_eq x r (n + 1), show (lead x (n + 1) r - n).toNat = (lead x (n + 1) r - (n + 1)).toNat + 1 by omega]
      rfl
theorem countsB_cons (x : U) (r : List U) : countsB (x :: r) = num [] 2 (lead x.int 1 r) ++ num [] 2 x.int ++ countsB (r.drop (lead x.int 1 r - 1).toNat) := runsB_eq ..
theorem wnum_ok : SpecT PR 22 wnumF := fun fn hfn => by
  have hf : PR.funcs[(22 : Nat)]? = some Try.f22 := by kernel_rfl
  rw [hf] at hfn; cases hfn
  refine fnT_okH (C := wnumC) (mkC_ok eqs0_ok mixed_ok .nil (.cons put_ok .nil)) hf (by kernel_rfl) (loops_none (by kernel_rfl)) fun vs objs R h1 h2 h => ?_
  clear h1 h2
  unfold wnumF at h
  split at h
  · rename_i p o n v i q j t xs
    obtain ⟨⟨⟨rfl, rfl, rfl, rfl, rfl, rfl⟩, h8, hx⟩, h⟩ := h
    refine .eq (wnum_tree R n v xs) ?_
    have hl := num8 (v := v.int) h8
    refine ⟨by trivial, broom ?_ rfl h⟩
    show xs.length + (num [] n.int v.int).length ≤ 1073741824
    omega
  · exact h.elim
theorem wtext_ok : SpecT PR 23 wtextF := fun fn hfn => by
  have hf : PR.funcs[(23 : Nat)]? = some Try.f23 := by kernel_rfl
  rw [hf] at hfn; cases hfn
  refine fnT_okH (C := wtextC) (mkC_ok eqs0_ok mixed_ok (.consP text_ok .nil) .nil) hf (by kernel_rfl) (loops_none (by kernel_rfl)) fun vs objs R h1 h2 h => ?_
  clear h1 h2
  unfold wtextF at h
  split at h
  · rename_i p o s i q j t xs
    obtain ⟨⟨⟨rfl, rfl, rfl, rfl, rfl, rfl⟩, hx⟩, h⟩ := h
    refine .eq (wtext_tree R s xs) ?_
    have hl := textB_len s.str
    refine ⟨by show (0 : Nat) ≤ _; omega, broom ?_ rfl h⟩
    show xs.length + (textB [] s.str).length ≤ 1073741824
    omega
  · exact h.elim
theorem wtable_ok : SpecT PR 24 wtableF := fun fn hfn => by
  have hf : PR.funcs[(24 : Nat)]? = some Try.f24 := by kernel_rfl
  rw [hf] at hfn; cases hfn
  refine fnT_okH (C := wtableC) (mkC_ok eqs0_ok mixed_ok (.consP tput_ok .nil) .nil) hf (by kernel_rfl) (loops_none (by kernel_rfl)) fun vs objs R h1 h2 h => ?_
  clear h1 h2
  unfold wtableF at h
  split at h
  · rename_i p o ec L c i q j t xs
    obtain ⟨⟨⟨rfl, rfl, rfl, rfl, rfl, rfl⟩, rfl, hT, hx⟩, h⟩ := h
    refine .eq (wtable_tree R L c xs) ?_
    have hl := tabX_len c.int hT
    unfold tabX at hl
    refine ⟨hT, broom ?_ rfl h⟩
    show xs.length + _ ≤ 1073741824
    omega
  · exact h.elim
theorem wmap_loop : LoopOk wmapC 0 (loopBody Try.f25 0) := by
  refine loopOk_of (F := wmapLoop) (ts := [24, 23, 22, 0]) (os := [2097153, 2097280]) rfl (fun svs _ => match svs with | .val _ i :: .val _ m :: _ => (m.int - i.int).toNat | _ => 0) ?_
  intro pan svs os k ho1 ho2 h
  unfold wmapLoop at h
  split at h
  · rename_i i n ec L p o q t xs
    obtain ⟨⟨⟨rfl, rfl, rfl, rfl⟩, rfl, hn, h0, hi, hx⟩, hk⟩ := h
    have hL : L.list.length ≤ maxLen := ho1.2.2.1.1
    refine .eq (wmap_round pan _ _ k i n L xs) ?_
    refine bd (fun hlt => dt ⟨h0, by omega⟩ ?_) (fun hlt => ?_)
    · rw [drop_at (by omega), spansB] at hk
      simp only [U.at, e0, e1, ← List.append_assoc] at hk
      have h1 := num2 (nth (.i 0) (nth (.i 0) L.list i.int.toNat).list 0).int
      have h2 := num2 (nth (.i 0) (nth (.i 0) L.list i.int.toNat).list 1).int
      have hw : IntKind.wrap .i64 (i.int + 1) = i.int + 1 := i64_in (by omega) (by unfold maxLen at hL; omega)
      have hc : (i.int + 1).toNat = i.int.toNat + 1 := by omega
      have hlt' : (n.int - (i.int + 1)).toNat < (n.int - i.int).toNat := by omega
      simp only [nth_tail, Nat.zero_add, Nat.reduceAdd, hw, hc]
      refine ⟨⟨wis, by omega, by omega⟩, ⟨wis, by omega, by rw [List.length_append]; omega⟩, blt hlt' ⟨⟨by trivial, by trivial, hn, by omega, by omega, by rw [List.length_append, List.length_append]; omega⟩, hk⟩⟩
    · rw [List.drop_of_length_le (by omega), spansB, List.append_nil] at hk
      exact hk
  · exact h.elim
theorem wmap_ok : SpecT PR 25 wmapF := fun fn hfn => by
  have hf : PR.funcs[(25 : Nat)]? = some Try.f25 := by kernel_rfl
  rw [hf] at hfn; cases hfn
  refine fnT_okH (C := wmapC) (mkC_ok eqs0_ok mixed_ok .nil (.cons wnum_ok (.cons wtext_ok .nil))) hf (by kernel_rfl) (loops_one (by kernel_rfl) wmap_loop) fun vs objs R h1 h2 h => ?_
  clear h1 h2
  unfold wmapF at h
  split at h
  · rename_i p o nm on ec L i q j t xs
    obtain ⟨⟨⟨rfl, rfl, rfl, rfl, rfl, rfl⟩, rfl, hx⟩, h⟩ := h
    refine .eq (wmap_tree R nm on L xs) ?_
    have h1 := textB_len nm.str
    have h2 := num2 L.list.length
    unfold mapB at h
    simp only [List.drop_zero, Int.toNat_zero]
    refine ⟨⟨wis, by omega⟩, bi (fun hb => ?_) (fun hb => ?_)⟩
    · have h3 := num1 1
      rw [hb] at h
      simp only [onB, cond_true, ← List.append_assoc] at h
      exact ⟨⟨wis, by omega, by rw [List.length_append]; omega⟩, ⟨wis, by omega, by rw [List.length_append, List.length_append]; omega⟩, ⟨by trivial, by trivial, by trivial, by trivial, by omega, by rw [List.length_append, List.length_append, List.length_append]; omega⟩, h⟩
    · have h3 := num1 0
      rw [hb] at h
      simp only [onB, cond_false, ← List.append_assoc] at h
      exact ⟨⟨wis, by omega, by rw [List.length_append]; omega⟩, ⟨wis, by omega, by rw [List.length_append, List.length_append]; omega⟩, ⟨by trivial, by trivial, by trivial, by trivial, by omega, by rw [List.length_append, List.length_append, List.length_append]; omega⟩, h⟩
  · exact h.elim
theorem wc_loop2 : LoopOk wcC 2 (loopBody Try.f26 1) := by
  refine loopOk_of (F := wcLoop2) (ts := [5, 4, 1, 0]) (os := [2097153, 2097280]) rfl (fun svs _ => match svs with | .val _ n :: _ => (65535 - n.int).toNat | _ => 0) ?_
  intro pan svs os k ho1 ho2 h
  unfold wcLoop2 at h
  split at h
  · rename_i n i L p o q t xs
    obtain ⟨⟨⟨rfl, rfl, rfl, rfl⟩, hnn, h0, hn1, hn, hi, hL⟩, hk⟩ := h
    refine .eq (wc_round2 pan _ _ k n i L xs) ?_
    have hw : IntKind.wrap .i64 (i.int + n.int) = i.int + n.int := i64_in (by omega) (by omega)
    have hw2 : IntKind.wrap .i64 (n.int + 1) = n.int + 1 := i64_in (by omega) (by omega)
    simp only [hw, hw2]
    refine bd (fun h1 => bd (fun h2 => dt (by omega) (dt (by omega) ?_)) (fun h2 => ?_)) (fun h1 => ?_)
    · rw [drop_at (by omega), lead, decide_eq_true h1, Bool.true_and] at hk
      simp only [U.at] at hk
      have hc : (i.int + (n.int + 1)).toNat = (i.int + n.int).toNat + 1 := by omega
      rw [hc]
      refine bi (fun h3 => ?_) (fun h3 => ?_)
      · rw [h3] at hk
        exact blt (by show (65535 - (n.int + 1)).toNat < (65535 - n.int).toNat; omega) ⟨⟨by trivial, by trivial, h0, by omega, by omega, by omega, hL⟩, hk⟩
      · rw [h3, cond_false, ← hnn] at hk
        exact hk
    · rw [List.drop_of_length_le (by omega), lead, ← hnn] at hk
      exact hk
    · by_cases h2 : (i.int + n.int).toNat < L.list.length
      · rw [drop_at h2, lead, decide_eq_false h1, Bool.false_and, cond_false, ← hnn] at hk
        exact hk
      · rw [List.drop_of_length_le (by omega), lead, ← hnn] at hk
        exact hk
  · exact h.elim
theorem wc_loop0 : LoopOk wcC 0 (loopBody Try.f26 0) := by
  refine loopOk_of (F := wcLoop0) (ts := [4, 1, 0]) (os := [2097153, 2097280]) rfl (fun svs _ => match svs with | .val _ i :: .val _ L :: _ => ((L.list.length : Int) - i.int).toNat | _ => 0) ?_
  intro pan svs os k ho1 ho2 h
  unfold wcLoop0 at h
  split at h
  · rename_i i L p o q t xs
    obtain ⟨⟨⟨rfl, rfl, rfl, rfl⟩, h0, hi, hL, hx⟩, hk⟩ := h
    refine .eq (wc_round0 pan _ _ k i L xs) ?_
    refine bd (fun hlt => ?_) (fun hlt => ?_)
    · rw [drop_at (by omega), countsB_cons, List.drop_drop] at hk
      simp only [U.at] at hk
      have hd : (i.int + 1).toNat = i.int.toNat + 1 := by omega
      have hge := lead_ge (nth (.i 0) L.list i.int.toNat).int (L.list.drop (i.int.toNat + 1)) 1
      simp only [List.length_drop] at hge
      simp only [hd]
      generalize lead (nth (.i 0) L.list i.int.toNat).int 1 (L.list.drop (i.int.toNat + 1)) = m at hk hge ⊢
      have hw : IntKind.wrap .i64 (i.int + m) = i.int + m := i64_in (by omega) (by omega)
      have hm : (i.int + m).toNat = i.int.toNat + 1 + (m - 1).toNat := by omega
      have h1 := num2 m
      have h2 := num2 (nth (.i 0) L.list i.int.toNat).int
      have hlt' : ((L.list.length : Int) - (i.int + m)).toNat < ((L.list.length : Int) - i.int).toNat := by omega
      simp only [← List.append_assoc] at hk
      simp only [hw, hm]
      exact ⟨⟨by trivial, by trivial, h0, by omega, by omega, by omega, by omega⟩, ⟨wis, by omega, by omega⟩, dt (by omega) ⟨⟨wis, by omega, by rw [List.length_append]; omega⟩, blt hlt' ⟨⟨by trivial, by omega, by omega, hL, by rw [List.length_append, List.length_append]; omega⟩, hk⟩⟩⟩
    · rw [List.drop_of_length_le (by omega), countsB, List.append_nil] at hk
      exact hk
  · exact h.elim
theorem wcounts_ok : SpecT PR 26 wcountsF := fun fn hfn => by
  have hf : PR.funcs[(26 : Nat)]? = some Try.f26 := by kernel_rfl
  rw [hf] at hfn; cases hfn
  refine fnT_okH (C := wcC) (mkC_ok eqs0_ok mixed_ok .nil (.cons wnum_ok .nil)) hf (by kernel_rfl) (loops_two (by kernel_rfl) wc_loop0 wc_loop2) fun vs objs R h1 h2 h => ?_
  clear h1 h2
  unfold wcountsF at h
  split at h
  · rename_i p o L i q j t xs
    obtain ⟨⟨⟨rfl, rfl, rfl, rfl, rfl, rfl⟩, hx⟩, h⟩ := h
    refine .eq (wc_tree R L xs) ?_
    have h1 := num4 L.list.length
    simp only [← List.append_assoc] at h
    simp only [List.drop_zero, Int.toNat_zero]
    exact ⟨⟨wis, by omega, by omega⟩, ⟨by trivial, by trivial, by omega, by omega, by rw [List.length_append]; omega⟩, h⟩
  · exact h.elim
end Go.Mat

namespace Go.Mat
open Go Go.Den Go.Proofs
def shotsB (c : Int) : List U → List U
  | [] => []
  | s :: r => textB [] (e0 s).str ++ num [] 2 (e1 s).int ++ tabX (e2 s).list c ++ shotsB c r
def mapsB : List U → List U
  | [] => []
  | b :: r => mapB (e0 b).str (e1 b).bool (e2 b).list ++ mapsB r
def metaB (c sz : Int) (bk : ByteArray) (T S M Q : List U) : List U :=
  num [] 1 c ++ num [] 2 sz ++ textB [] bk ++ tabX T c ++ num [] 1 S.length ++ shotsB c S ++ num [] 1 M.length ++ mapsB M ++ num [] 4 Q.length ++ countsB Q
def metaL (c sz : Int) (bk : ByteArray) (T S M Q : List U) : Bool := decide (((metaB c sz bk T S M Q).length : Int) > 1048576)
def metaX (c sz bk T S M Q : U) : List U := bif metaR c sz bk T S M Q then (bif metaL c.int sz.int bk.str T.list S.list M.list Q.list then [] else metaB c.int sz.int bk.str T.list S.list M.list Q.list) else []
def metaE (c sz bk T S M Q : U) : Int := bif metaR c sz bk T S M Q then (bif metaL c.int sz.int bk.str T.list S.list M.list Q.list then 2 else 0) else 1
def sizeOk (T S M : U) : Prop := T.list.length ≤ 1099511627776 ∧ (∀ s ∈ S.list, (e2 s).list.length ≤ 1099511627776) ∧ ∀ b ∈ M.list, (e2 b).list.length ≤ 1000000
def mputP : List (List U) → Prop := fun us => sizeOk (nth (.i 0) (nth [] us 0) 3) (nth (.i 0) (nth [] us 0) 4) (nth (.i 0) (nth [] us 0) 5)
def mputS : List (List U) → List (List U) := fun us => [[.l (metaX (nth (.i 0) (nth [] us 0) 0) (nth (.i 0) (nth [] us 0) 1) (nth (.i 0) (nth [] us 0) 2) (nth (.i 0) (nth [] us 0) 3) (nth (.i 0) (nth [] us 0) 4) (nth (.i 0) (nth [] us 0) 5) (nth (.i 0) (nth [] us 0) 6))],
  [.i (metaE (nth (.i 0) (nth [] us 0) 0) (nth (.i 0) (nth [] us 0) 1) (nth (.i 0) (nth [] us 0) 2) (nth (.i 0) (nth [] us 0) 3) (nth (.i 0) (nth [] us 0) 4) (nth (.i 0) (nth [] us 0) 5) (nth (.i 0) (nth [] us 0) 6))]]
abbrev mCells (c sz bk T S M Q : U) : List SV := [vi c, vi sz, vs bk, vl (.sl true EC) T, vt SC S, vt BC M, vl (.int .i64) Q]
abbrev mIs (p o p1 o1 q : Nat) (t : TypeId) : Prop := p = 1664 ∧ o = 0 ∧ p1 = 128 ∧ o1 = 0 ∧ q = 1666 ∧ t = u8T
noncomputable def mputLoop0 : LoopF := fun _ svs os k => match svs, os with
  | [.val (.int .i64) i, .val (.int .i64) n, .val (.sl true ec) L, .ptr p o, .ptr p1 o1], [.box [.own q], .arr t xs, .box [.val (.int .i64) c, .val (.int .i64) sz, .val .str bk, .val (.sl false [.sl true x1]) T, .val (.sl true x2) S, .val (.sl true x3) M, .val (.sl false [.int .i64]) Q]] =>
    (mIs p o p1 o1 q t ∧ (ec = SC ∧ x1 = EC ∧ x2 = SC ∧ x3 = BC) ∧ n.int = (L.list.length : Int) ∧ n.int ≤ 8 ∧ 0 ≤ i.int ∧ i.int ≤ n.int ∧ (∀ s ∈ L.list, (e2 s).list.length ≤ 1099511627776) ∧ (xs.length : Int) + 200000 * (n.int - i.int) ≤ 300000000) ∧
    k (.exit 0) ⟨[(4, .ptr 1664 0), (1, .ptr 128 0)], [(1664, .box [.own 1666]), (1666, .arr u8T (xs ++ shotsB c.int (L.list.drop i.int.toNat))), (128, .box (mCells c sz bk T S M Q))]⟩
  | _, _ => False
noncomputable def mputLoop2 : LoopF := fun _ svs os k => match svs, os with
  | [.val (.int .i64) i, .val (.int .i64) n, .val (.sl true ec) L, .ptr p o, .ptr p1 o1], [.box [.own q], .arr t xs, .box [.val (.int .i64) c, .val (.int .i64) sz, .val .str bk, .val (.sl false [.sl true x1]) T, .val (.sl true x2) S, .val (.sl true x3) M, .val (.sl false [.int .i64]) Q]] =>
    (mIs p o p1 o1 q t ∧ (ec = BC ∧ x1 = EC ∧ x2 = SC ∧ x3 = BC) ∧ n.int = (L.list.length : Int) ∧ n.int ≤ 8 ∧ 0 ≤ i.int ∧ i.int ≤ n.int ∧ (∀ b ∈ L.list, (e2 b).list.length ≤ 1000000) ∧ (xs.length : Int) + 9000000 * (n.int - i.int) ≤ 400000000) ∧
    k (.exit 2) ⟨[(4, .ptr 1664 0), (1, .ptr 128 0)], [(1664, .box [.own 1666]), (1666, .arr u8T (xs ++ mapsB (L.list.drop i.int.toNat))), (128, .box (mCells c sz bk T S M Q))]⟩
  | _, _ => False
noncomputable def mputC : Ctx := mkC PR eqs0 (fnsCons 21 metaS fnsNil)
  (trsCons 22 [false, false, false] wnumF (trsCons 23 [false, false] wtextF (trsCons 24 [false, false, false] wtableF (trsCons 25 [false, false] wmapF (trsCons 26 [false, false] wcountsF trsNil)))))
  (loopCons 2 [67, 66, 65, 4, 1] [1664, 1666, 128] mputLoop2 (loopCons 0 [40, 39, 38, 4, 1] [1664, 1666, 128] mputLoop0 noLoops)) (outCons 2 [4, 1] [1664, 1666, 128] (outCons 0 [4, 1] [1664, 1666, 128] noOut)) noOut
theorem mput_round0 (pan : KP) (μ : Mu) (N : Nat) (k : KE) (i n L c sz bk T S M Q : U) (xs : List U) : (exec (mputC.panics pan) (loopBody Try.f12 0) 0 ⟨[(40, vi i), (39, vi n), (38, vt SC L), (4, .ptr 1664 0), (1, .ptr 128 0)], [(1664, .box [.own 1666]), (1666, .arr u8T xs), (128, .box (mCells c sz bk T S M Q))]⟩ (again PR (some ([4, 1], [1664, 1666, 128])) none pan [40, 39, 38, 4, 1] [1664, 1666, 128] mputLoop0 μ N k)) = (bif decide (U.int i < U.int n) then bif decide ((0 : Int) ≤ U.int i ∧ U.int i < (↑(List.length (U.list L)) : Int)) then (wIs ((2097152 : Nat) + (1 : Nat)) (0 : Nat) ((2097152 : Nat) + (1 : Nat)) ((2097279
  : Nat) + (1 : Nat)) ((2097279 : Nat) + (1 : Nat)) ((4 : Nat) + (1 : Nat)) ∧ List.length xs ≤ (800000000 : Nat)) ∧ (wIs ((2097152 : Nat) + (1 : Nat)) (0 : Nat) ((2097152 : Nat) + (1 : Nat)) ((2097279 :
  Nat) + (1 : Nat)) ((2097279 : Nat) + (1 : Nat)) ((4 : Nat) + (1 : Nat)) ∧ (2 : Int) ≤ (8 : Int) ∧ List.length (xs ++ textB [] (U.str (nth (U.i (0 : Int)) (U.list (nth (U.i (0 : Int)) (U.list L) (Int.toNat
  (U.int i)))) (0 : Nat)))) ≤ (800000000 : Nat)) ∧ (wIs ((2097152 : Nat) + (1 : Nat)) (0 : Nat) ((2097152 : Nat) + (1 : Nat)) ((2097279 : Nat) + (1 : Nat)) ((2097279 : Nat) + (1 : Nat)) ((4 : Nat) + (1 :
  Nat)) ∧ [Ct.int IntKind.i64, Ct.int IntKind.i64, Ct.int IntKind.i64, Ct.int IntKind.i64, Ct.int IntKind.u32] = [Ct.int IntKind.i64, Ct.int IntKind.i64, Ct.int IntKind.i64, Ct.int IntKind.i64, Ct.int IntKind.u32]
  ∧ List.length (U.list (nth (U.i (0 : Int)) (List.tail (List.tail (U.list (nth (U.i (0 : Int)) (U.list L) (Int.toNat (U.int i)))))) (0 : Nat))) ≤ (1099511627776 : Nat) ∧ List.length (xs ++ textB [] (U.str
  (nth (U.i (0 : Int)) (U.list (nth (U.i (0 : Int)) (U.list L) (Int.toNat (U.int i)))) (0 : Nat))) ++ num [] (2 : Int) (U.int (nth (U.i (0 : Int)) (List.tail (U.list (nth (U.i (0 : Int)) (U.list L) (Int.toNat
  (U.int i))))) (0 : Nat)))) ≤ (800000000 : Nat)) ∧ bif Nat.blt (μ [SV.val (Ct.int IntKind.i64) (U.i (IntKind.wrap IntKind.i64 (U.int i + (1 : Int)))), SV.val (Ct.int IntKind.i64) n, SV.val (Ct.sl true [Ct.str,
  Ct.int IntKind.i64, Ct.sl false [Ct.sl true [Ct.int IntKind.i64, Ct.int IntKind.i64, Ct.int IntKind.i64, Ct.int IntKind.i64, Ct.int IntKind.u32]]]) L, SV.ptr (nat_lit 1664) (nat_lit 0), SV.ptr (nat_lit
  128) (nat_lit 0)] [Obj.box [SV.own (nat_lit 1666)], Obj.arr (nat_lit 5) (xs ++ textB [] (U.str (nth (U.i (0 : Int)) (U.list (nth (U.i (0 : Int)) (U.list L) (Int.toNat (U.int i)))) (0 : Nat))) ++ num []
  (2 : Int) (U.int (nth (U.i (0 : Int)) (List.tail (U.list (nth (U.i (0 : Int)) (U.list L) (Int.toNat (U.int i))))) (0 : Nat))) ++ tabX (U.list (nth (U.i (0 : Int)) (List.tail (List.tail (U.list (nth (U.i
  (0 : Int)) (U.list L) (Int.toNat (U.int i)))))) (0 : Nat))) (U.int c)), Obj.box [SV.val (Ct.int IntKind.i64) c, SV.val (Ct.int IntKind.i64) sz, SV.val Ct.str bk, SV.val (Ct.sl false [Ct.sl true [Ct.int
  IntKind.i64, Ct.int IntKind.i64, Ct.int IntKind.i64, Ct.int IntKind.i64, Ct.int IntKind.u32]]) T, SV.val (Ct.sl true [Ct.str, Ct.int IntKind.i64, Ct.sl false [Ct.sl true [Ct.int IntKind.i64, Ct.int IntKind.i64,
  Ct.int IntKind.i64, Ct.int IntKind.i64, Ct.int IntKind.u32]]]) S, SV.val (Ct.sl true [Ct.str, Ct.bool, Ct.sl true [Ct.int IntKind.i64, Ct.int IntKind.i64]]) M, SV.val (Ct.sl false [Ct.int IntKind.i64])
  Q]]) N then (mIs ((1663 : Nat) + (1 : Nat)) (0 : Nat) ((127 : Nat) + (1 : Nat)) (0 : Nat) ((1665 : Nat) + (1 : Nat)) ((4 : Nat) + (1 : Nat)) ∧ ([Ct.str, Ct.int IntKind.i64, Ct.sl false [Ct.sl true [Ct.int
  IntKind.i64, Ct.int IntKind.i64, Ct.int IntKind.i64, Ct.int IntKind.i64, Ct.int IntKind.u32]]] = [Ct.str, Ct.int IntKind.i64, Ct.sl false [Ct.sl true [Ct.int IntKind.i64, Ct.int IntKind.i64, Ct.int IntKind.i64,
  Ct.int IntKind.i64, Ct.int IntKind.u32]]] ∧ [Ct.int IntKind.i64, Ct.int IntKind.i64, Ct.int IntKind.i64, Ct.int IntKind.i64, Ct.int IntKind.u32] = [Ct.int IntKind.i64, Ct.int IntKind.i64, Ct.int IntKind.i64,
  Ct.int IntKind.i64, Ct.int IntKind.u32] ∧ [Ct.str, Ct.int IntKind.i64, Ct.sl false [Ct.sl true [Ct.int IntKind.i64, Ct.int IntKind.i64, Ct.int IntKind.i64, Ct.int IntKind.i64, Ct.int IntKind.u32]]] = [Ct.str,
  Ct.int IntKind.i64, Ct.sl false [Ct.sl true [Ct.int IntKind.i64, Ct.int IntKind.i64, Ct.int IntKind.i64, Ct.int IntKind.i64, Ct.int IntKind.u32]]] ∧ [Ct.str, Ct.bool, Ct.sl true [Ct.int IntKind.i64, Ct.int
  IntKind.i64]] = [Ct.str, Ct.bool, Ct.sl true [Ct.int IntKind.i64, Ct.int IntKind.i64]]) ∧ U.int n = (↑(List.length (U.list L)) : Int) ∧ U.int n ≤ (8 : Int) ∧ (0 : Int) ≤ IntKind.wrap IntKind.i64 (U.int
  i + (1 : Int)) ∧ IntKind.wrap IntKind.i64 (U.int i + (1 : Int)) ≤ U.int n ∧ (∀ (s : U), s ∈ U.list L → List.length (U.list (e2 s)) ≤ (1099511627776 : Nat)) ∧ (↑(List.length (xs ++ textB [] (U.str (nth
  (U.i (0 : Int)) (U.list (nth (U.i (0 : Int)) (U.list L) (Int.toNat (U.int i)))) (0 : Nat))) ++ num [] (2 : Int) (U.int (nth (U.i (0 : Int)) (List.tail (U.list (nth (U.i (0 : Int)) (U.list L) (Int.toNat
  (U.int i))))) (0 : Nat))) ++ tabX (U.list (nth (U.i (0 : Int)) (List.tail (List.tail (U.list (nth (U.i (0 : Int)) (U.list L) (Int.toNat (U.int i)))))) (0 : Nat))) (U.int c))) : Int) + (200000 : Int) *
  (U.int n - IntKind.wrap IntKind.i64 (U.int i + (1 : Int))) ≤ (300000000 : Int)) ∧ k (Ex.exit (nat_lit 0)) (St.mk [(nat_lit 4, SV.ptr (nat_lit 1664) (nat_lit 0)), (nat_lit 1, SV.ptr (nat_lit 128) (nat_lit
  0))] [(nat_lit 1664, Obj.box [SV.own (nat_lit 1666)]), (nat_lit 1666, Obj.arr (nat_lit 5) (xs ++ textB [] (U.str (nth (U.i (0 : Int)) (U.list (nth (U.i (0 : Int)) (U.list L) (Int.toNat (U.int i)))) (0
  : Nat))) ++ num [] (2 : Int) (U.int (nth (U.i (0 : Int)) (List.tail (U.list (nth (U.i (0 : Int)) (U.list L) (Int.toNat (U.int i))))) (0 : Nat))) ++ tabX (U.list (nth (U.i (0 : Int)) (List.tail (List.tail
  (U.list (nth (U.i (0 : Int)) (U.list L) (Int.toNat (U.int i)))))) (0 : Nat))) (U.int c) ++ shotsB (U.int c) (List.drop (Int.toNat (IntKind.wrap IntKind.i64 (U.int i + (1 : Int)))) (U.list L)))), (nat_lit
  128, Obj.box [SV.val (Ct.int IntKind.i64) c, SV.val (Ct.int IntKind.i64) sz, SV.val Ct.str bk, SV.val (Ct.sl false [Ct.sl true [Ct.int IntKind.i64, Ct.int IntKind.i64, Ct.int IntKind.i64, Ct.int IntKind.i64,
  Ct.int IntKind.u32]]) T, SV.val (Ct.sl true [Ct.str, Ct.int IntKind.i64, Ct.sl false [Ct.sl true [Ct.int IntKind.i64, Ct.int IntKind.i64, Ct.int IntKind.i64, Ct.int IntKind.i64, Ct.int IntKind.u32]]])
  S, SV.val (Ct.sl true [Ct.str, Ct.bool, Ct.sl true [Ct.int IntKind.i64, Ct.int IntKind.i64]]) M, SV.val (Ct.sl false [Ct.int IntKind.i64]) Q])]) else False else False else k (Ex.exit (nat_lit 0)) (St.mk
  [(nat_lit 4, SV.ptr (nat_lit 1664) (nat_lit 0)), (nat_lit 1, SV.ptr (nat_lit 128) (nat_lit 0))] [(nat_lit 1664, Obj.box [SV.own (nat_lit 1666)]), (nat_lit 1666, Obj.arr (nat_lit 5) xs), (nat_lit 128, Obj.box
  [SV.val (Ct.int IntKind.i64) c, SV.val (Ct.int IntKind.i64) sz, SV.val Ct.str bk, SV.val (Ct.sl false [Ct.sl true [Ct.int IntKind.i64, Ct.int IntKind.i64, Ct.int IntKind.i64, Ct.int IntKind.i64, Ct.int
  IntKind.u32]]) T, SV.val (Ct.sl true [Ct.str, Ct.int IntKind.i64, Ct.sl false [Ct.sl true [Ct.int IntKind.i64, Ct.int IntKind.i64, Ct.int IntKind.i64, Ct.int IntKind.i64, Ct.int IntKind.u32]]]) S, SV.val
  (Ct.sl true [Ct.str, Ct.bool, Ct.sl true [Ct.int IntKind.i64, Ct.int IntKind.i64]]) M, SV.val (Ct.sl false [Ct.int IntKind.i64]) Q])])) := by kernel_rfl
theorem mput_round2 (pan : KP) (μ : Mu) (N : Nat) (k : KE) (i n L c sz bk T S M Q : U) (xs : List U) : (exec (mputC.panics pan) (loopBody Try.f12 1) 2 ⟨[(67, vi i), (66, vi n), (65, vt BC L), (4, .ptr 1664 0), (1, .ptr 128 0)], [(1664, .box [.own 1666]), (1666, .arr u8T xs), (128, .box (mCells c sz bk T S M Q))]⟩ (again PR (some ([4, 1], [1664, 1666, 128])) none pan [67, 66, 65, 4, 1] [1664, 1666, 128] mputLoop2 μ N k)) = (bif decide (U.int i < U.int n) then bif decide ((0 : Int) ≤ U.int i ∧ U.int i < (↑(List.length (U.list L)) : Int)) then (wIs ((2097152 : Nat) + (1 : Nat)) (0 : Nat) ((2097152 : Nat) + (1 : Nat)) ((2097279
  : Nat) + (1 : Nat)) ((2097279 : Nat) + (1 : Nat)) ((4 : Nat) + (1 : Nat)) ∧ [Ct.int IntKind.i64, Ct.int IntKind.i64] = [Ct.int IntKind.i64, Ct.int IntKind.i64] ∧ (↑(List.length xs) : Int) + (8 : Int) *
  (↑(List.length (U.list (nth (U.i (0 : Int)) (List.tail (List.tail (U.list (nth (U.i (0 : Int)) (U.list L) (Int.toNat (U.int i)))))) (0 : Nat)))) : Int) ≤ (700000000 : Int)) ∧ bif Nat.blt (μ [SV.val (Ct.int
  IntKind.i64) (U.i (IntKind.wrap IntKind.i64 (U.int i + (1 : Int)))), SV.val (Ct.int IntKind.i64) n, SV.val (Ct.sl true [Ct.str, Ct.bool, Ct.sl true [Ct.int IntKind.i64, Ct.int IntKind.i64]]) L, SV.ptr
  (nat_lit 1664) (nat_lit 0), SV.ptr (nat_lit 128) (nat_lit 0)] [Obj.box [SV.own (nat_lit 1666)], Obj.arr (nat_lit 5) (xs ++ mapB (U.str (nth (U.i (0 : Int)) (U.list (nth (U.i (0 : Int)) (U.list L) (Int.toNat
  (U.int i)))) (0 : Nat))) (U.bool (nth (U.i (0 : Int)) (List.tail (U.list (nth (U.i (0 : Int)) (U.list L) (Int.toNat (U.int i))))) (0 : Nat))) (U.list (nth (U.i (0 : Int)) (List.tail (List.tail (U.list
  (nth (U.i (0 : Int)) (U.list L) (Int.toNat (U.int i)))))) (0 : Nat)))), Obj.box [SV.val (Ct.int IntKind.i64) c, SV.val (Ct.int IntKind.i64) sz, SV.val Ct.str bk, SV.val (Ct.sl false [Ct.sl true [Ct.int
  IntKind.i64, Ct.int IntKind.i64, Ct.int IntKind.i64, Ct.int IntKind.i64, Ct.int IntKind.u32]]) T, SV.val (Ct.sl true [Ct.str, Ct.int IntKind.i64, Ct.sl false [Ct.sl true [Ct.int IntKind.i64, Ct.int IntKind.i64,
  Ct.int IntKind.i64, Ct.int IntKind.i64, Ct.int IntKind.u32]]]) S, SV.val (Ct.sl true [Ct.str, Ct.bool, Ct.sl true [Ct.int IntKind.i64, Ct.int IntKind.i64]]) M, SV.val (Ct.sl false [Ct.int IntKind.i64])
  Q]]) N then (mIs ((1663 : Nat) + (1 : Nat)) (0 : Nat) ((127 : Nat) + (1 : Nat)) (0 : Nat) ((1665 : Nat) + (1 : Nat)) ((4 : Nat) + (1 : Nat)) ∧ ([Ct.str, Ct.bool, Ct.sl true [Ct.int IntKind.i64, Ct.int
  IntKind.i64]] = [Ct.str, Ct.bool, Ct.sl true [Ct.int IntKind.i64, Ct.int IntKind.i64]] ∧ [Ct.int IntKind.i64, Ct.int IntKind.i64, Ct.int IntKind.i64, Ct.int IntKind.i64, Ct.int IntKind.u32] = [Ct.int IntKind.i64,
  Ct.int IntKind.i64, Ct.int IntKind.i64, Ct.int IntKind.i64, Ct.int IntKind.u32] ∧ [Ct.str, Ct.int IntKind.i64, Ct.sl false [Ct.sl true [Ct.int IntKind.i64, Ct.int IntKind.i64, Ct.int IntKind.i64, Ct.int
  IntKind.i64, Ct.int IntKind.u32]]] = [Ct.str, Ct.int IntKind.i64, Ct.sl false [Ct.sl true [Ct.int IntKind.i64, Ct.int IntKind.i64, Ct.int IntKind.i64, Ct.int IntKind.i64, Ct.int IntKind.u32]]] ∧ [Ct.str,
  Ct.bool, Ct.sl true [Ct.int IntKind.i64, Ct.int IntKind.i64]] = [Ct.str, Ct.bool, Ct.sl true [Ct.int IntKind.i64, Ct.int IntKind.i64]]) ∧ U.int n = (↑(List.length (U.list L)) : Int) ∧ U.int n ≤ (8 : Int)
  ∧ (0 : Int) ≤ IntKind.wrap IntKind.i64 (U.int i + (1 : Int)) ∧ IntKind.wrap IntKind.i64 (U.int i + (1 : Int)) ≤ U.int n ∧ (∀ (b : U), b ∈ U.list L → List.length (U.list (e2 b)) ≤ (1000000 : Nat)) ∧ (↑(List.length
  (xs ++ mapB (U.str (nth (U.i (0 : Int)) (U.list (nth (U.i (0 : Int)) (U.list L) (Int.toNat (U.int i)))) (0 : Nat))) (U.bool (nth (U.i (0 : Int)) (List.tail (U.list (nth (U.i (0 : Int)) (U.list L) (Int.toNat
  (U.int i))))) (0 : Nat))) (U.list (nth (U.i (0 : Int)) (List.tail (List.tail (U.list (nth (U.i (0 : Int)) (U.list L) (Int.toNat (U.int i)))))) (0 : Nat))))) : Int) + (9000000 : Int) * (U.int n - IntKind.wrap
  IntKind.i64 (U.int i + (1 : Int))) ≤ (400000000 : Int)) ∧ k (Ex.exit (nat_lit 2)) (St.mk [(nat_lit 4, SV.ptr (nat_lit 1664) (nat_lit 0)), (nat_lit 1, SV.ptr (nat_lit 128) (nat_lit 0))] [(nat_lit 1664,
  Obj.box [SV.own (nat_lit 1666)]), (nat_lit 1666, Obj.arr (nat_lit 5) (xs ++ mapB (U.str (nth (U.i (0 : Int)) (U.list (nth (U.i (0 : Int)) (U.list L) (Int.toNat (U.int i)))) (0 : Nat))) (U.bool (nth (U.i
  (0 : Int)) (List.tail (U.list (nth (U.i (0 : Int)) (U.list L) (Int.toNat (U.int i))))) (0 : Nat))) (U.list (nth (U.i (0 : Int)) (List.tail (List.tail (U.list (nth (U.i (0 : Int)) (U.list L) (Int.toNat
  (U.int i)))))) (0 : Nat))) ++ mapsB (List.drop (Int.toNat (IntKind.wrap IntKind.i64 (U.int i + (1 : Int)))) (U.list L)))), (nat_lit 128, Obj.box [SV.val (Ct.int IntKind.i64) c, SV.val (Ct.int IntKind.i64)
  sz, SV.val Ct.str bk, SV.val (Ct.sl false [Ct.sl true [Ct.int IntKind.i64, Ct.int IntKind.i64, Ct.int IntKind.i64, Ct.int IntKind.i64, Ct.int IntKind.u32]]) T, SV.val (Ct.sl true [Ct.str, Ct.int IntKind.i64,
  Ct.sl false [Ct.sl true [Ct.int IntKind.i64, Ct.int IntKind.i64, Ct.int IntKind.i64, Ct.int IntKind.i64, Ct.int IntKind.u32]]]) S, SV.val (Ct.sl true [Ct.str, Ct.bool, Ct.sl true [Ct.int IntKind.i64, Ct.int
  IntKind.i64]]) M, SV.val (Ct.sl false [Ct.int IntKind.i64]) Q])]) else False else False else k (Ex.exit (nat_lit 2)) (St.mk [(nat_lit 4, SV.ptr (nat_lit 1664) (nat_lit 0)), (nat_lit 1, SV.ptr (nat_lit
  128) (nat_lit 0))] [(nat_lit 1664, Obj.box [SV.own (nat_lit 1666)]), (nat_lit 1666, Obj.arr (nat_lit 5) xs), (nat_lit 128, Obj.box [SV.val (Ct.int IntKind.i64) c, SV.val (Ct.int IntKind.i64) sz, SV.val
  Ct.str bk, SV.val (Ct.sl false [Ct.sl true [Ct.int IntKind.i64, Ct.int IntKind.i64, Ct.int IntKind.i64, Ct.int IntKind.i64, Ct.int IntKind.u32]]) T, SV.val (Ct.sl true [Ct.str, Ct.int IntKind.i64, Ct.sl
  false [Ct.sl true [Ct.int IntKind.i64, Ct.int IntKind.i64, Ct.int IntKind.i64, Ct.int IntKind.i64, Ct.int IntKind.u32]]]) S, SV.val (Ct.sl true [Ct.str, Ct.bool, Ct.sl true [Ct.int IntKind.i64, Ct.int
  IntKind.i64]]) M, SV.val (Ct.sl false [Ct.int IntKind.i64]) Q])])) := by kernel_rfl
theorem mput_tree (R : RF) (c sz bk T S M Q : U) : (run mputC Try.f12 [[c, sz, bk, T, S, M, Q]] R) = (bif !metaR c sz bk T S M Q then R [[U.l []], [U.i (1 : Int)]] else (wIs ((2097152 : Nat) + (1 : Nat)) (0 : Nat) ((2097152 : Nat) + (1 : Nat)) ((2097279 : Nat) + (1 : Nat)) ((2097279 : Nat) + (1 : Nat))
  ((4 : Nat) + (1 : Nat)) ∧ (1 : Int) ≤ (8 : Int) ∧ (0 : Nat) ≤ (800000000 : Nat)) ∧ (wIs ((2097152 : Nat) + (1 : Nat)) (0 : Nat) ((2097152 : Nat) + (1 : Nat)) ((2097279 : Nat) + (1 : Nat)) ((2097279 : Nat)
  + (1 : Nat)) ((4 : Nat) + (1 : Nat)) ∧ (2 : Int) ≤ (8 : Int) ∧ List.length ([] ++ num [] (1 : Int) (U.int c)) ≤ (800000000 : Nat)) ∧ (wIs ((2097152 : Nat) + (1 : Nat)) (0 : Nat) ((2097152 : Nat) + (1 :
  Nat)) ((2097279 : Nat) + (1 : Nat)) ((2097279 : Nat) + (1 : Nat)) ((4 : Nat) + (1 : Nat)) ∧ List.length ([] ++ num [] (1 : Int) (U.int c) ++ num [] (2 : Int) (U.int sz)) ≤ (800000000 : Nat)) ∧ (wIs ((2097152
  : Nat) + (1 : Nat)) (0 : Nat) ((2097152 : Nat) + (1 : Nat)) ((2097279 : Nat) + (1 : Nat)) ((2097279 : Nat) + (1 : Nat)) ((4 : Nat) + (1 : Nat)) ∧ [Ct.int IntKind.i64, Ct.int IntKind.i64, Ct.int IntKind.i64,
  Ct.int IntKind.i64, Ct.int IntKind.u32] = [Ct.int IntKind.i64, Ct.int IntKind.i64, Ct.int IntKind.i64, Ct.int IntKind.i64, Ct.int IntKind.u32] ∧ List.length (U.list T) ≤ (1099511627776 : Nat) ∧ List.length
  ([] ++ num [] (1 : Int) (U.int c) ++ num [] (2 : Int) (U.int sz) ++ textB [] (U.str bk)) ≤ (800000000 : Nat)) ∧ (wIs ((2097152 : Nat) + (1 : Nat)) (0 : Nat) ((2097152 : Nat) + (1 : Nat)) ((2097279 : Nat)
  + (1 : Nat)) ((2097279 : Nat) + (1 : Nat)) ((4 : Nat) + (1 : Nat)) ∧ (1 : Int) ≤ (8 : Int) ∧ List.length ([] ++ num [] (1 : Int) (U.int c) ++ num [] (2 : Int) (U.int sz) ++ textB [] (U.str bk) ++ tabX
  (U.list T) (U.int c)) ≤ (800000000 : Nat)) ∧ (mIs ((1663 : Nat) + (1 : Nat)) (0 : Nat) ((127 : Nat) + (1 : Nat)) (0 : Nat) ((1665 : Nat) + (1 : Nat)) ((4 : Nat) + (1 : Nat)) ∧ ([Ct.str, Ct.int IntKind.i64,
  Ct.sl false [Ct.sl true [Ct.int IntKind.i64, Ct.int IntKind.i64, Ct.int IntKind.i64, Ct.int IntKind.i64, Ct.int IntKind.u32]]] = [Ct.str, Ct.int IntKind.i64, Ct.sl false [Ct.sl true [Ct.int IntKind.i64,
  Ct.int IntKind.i64, Ct.int IntKind.i64, Ct.int IntKind.i64, Ct.int IntKind.u32]]] ∧ [Ct.int IntKind.i64, Ct.int IntKind.i64, Ct.int IntKind.i64, Ct.int IntKind.i64, Ct.int IntKind.u32] = [Ct.int IntKind.i64,
  Ct.int IntKind.i64, Ct.int IntKind.i64, Ct.int IntKind.i64, Ct.int IntKind.u32] ∧ [Ct.str, Ct.int IntKind.i64, Ct.sl false [Ct.sl true [Ct.int IntKind.i64, Ct.int IntKind.i64, Ct.int IntKind.i64, Ct.int
  IntKind.i64, Ct.int IntKind.u32]]] = [Ct.str, Ct.int IntKind.i64, Ct.sl false [Ct.sl true [Ct.int IntKind.i64, Ct.int IntKind.i64, Ct.int IntKind.i64, Ct.int IntKind.i64, Ct.int IntKind.u32]]] ∧ [Ct.str,
  Ct.bool, Ct.sl true [Ct.int IntKind.i64, Ct.int IntKind.i64]] = [Ct.str, Ct.bool, Ct.sl true [Ct.int IntKind.i64, Ct.int IntKind.i64]]) ∧ (↑(List.length (U.list S)) : Int) = (↑(List.length (U.list S))
  : Int) ∧ (↑(List.length (U.list S)) : Int) ≤ (8 : Int) ∧ (0 : Int) ≤ (0 : Int) ∧ (0 : Int) ≤ (↑(List.length (U.list S)) : Int) ∧ (∀ (s : U), s ∈ U.list S → List.length (U.list (e2 s)) ≤ (1099511627776
  : Nat)) ∧ (↑(List.length ([] ++ num [] (1 : Int) (U.int c) ++ num [] (2 : Int) (U.int sz) ++ textB [] (U.str bk) ++ tabX (U.list T) (U.int c) ++ num [] (1 : Int) (↑(List.length (U.list S)) : Int))) : Int)
  + (200000 : Int) * ((↑(List.length (U.list S)) : Int) - (0 : Int)) ≤ (300000000 : Int)) ∧ (wIs ((2097152 : Nat) + (1 : Nat)) (0 : Nat) ((2097152 : Nat) + (1 : Nat)) ((2097279 : Nat) + (1 : Nat)) ((2097279
  : Nat) + (1 : Nat)) ((4 : Nat) + (1 : Nat)) ∧ (1 : Int) ≤ (8 : Int) ∧ List.length ([] ++ num [] (1 : Int) (U.int c) ++ num [] (2 : Int) (U.int sz) ++ textB [] (U.str bk) ++ tabX (U.list T) (U.int c) ++
  num [] (1 : Int) (↑(List.length (U.list S)) : Int) ++ shotsB (U.int c) (List.drop (Int.toNat (0 : Int)) (U.list S))) ≤ (800000000 : Nat)) ∧ (mIs ((1663 : Nat) + (1 : Nat)) (0 : Nat) ((127 : Nat) + (1 :
  Nat)) (0 : Nat) ((1665 : Nat) + (1 : Nat)) ((4 : Nat) + (1 : Nat)) ∧ ([Ct.str, Ct.bool, Ct.sl true [Ct.int IntKind.i64, Ct.int IntKind.i64]] = [Ct.str, Ct.bool, Ct.sl true [Ct.int IntKind.i64, Ct.int IntKind.i64]]
  ∧ [Ct.int IntKind.i64, Ct.int IntKind.i64, Ct.int IntKind.i64, Ct.int IntKind.i64, Ct.int IntKind.u32] = [Ct.int IntKind.i64, Ct.int IntKind.i64, Ct.int IntKind.i64, Ct.int IntKind.i64, Ct.int IntKind.u32]
  ∧ [Ct.str, Ct.int IntKind.i64, Ct.sl false [Ct.sl true [Ct.int IntKind.i64, Ct.int IntKind.i64, Ct.int IntKind.i64, Ct.int IntKind.i64, Ct.int IntKind.u32]]] = [Ct.str, Ct.int IntKind.i64, Ct.sl false
  [Ct.sl true [Ct.int IntKind.i64, Ct.int IntKind.i64, Ct.int IntKind.i64, Ct.int IntKind.i64, Ct.int IntKind.u32]]] ∧ [Ct.str, Ct.bool, Ct.sl true [Ct.int IntKind.i64, Ct.int IntKind.i64]] = [Ct.str, Ct.bool,
  Ct.sl true [Ct.int IntKind.i64, Ct.int IntKind.i64]]) ∧ (↑(List.length (U.list M)) : Int) = (↑(List.length (U.list M)) : Int) ∧ (↑(List.length (U.list M)) : Int) ≤ (8 : Int) ∧ (0 : Int) ≤ (0 : Int) ∧ (0
  : Int) ≤ (↑(List.length (U.list M)) : Int) ∧ (∀ (b : U), b ∈ U.list M → List.length (U.list (e2 b)) ≤ (1000000 : Nat)) ∧ (↑(List.length ([] ++ num [] (1 : Int) (U.int c) ++ num [] (2 : Int) (U.int sz)
  ++ textB [] (U.str bk) ++ tabX (U.list T) (U.int c) ++ num [] (1 : Int) (↑(List.length (U.list S)) : Int) ++ shotsB (U.int c) (List.drop (Int.toNat (0 : Int)) (U.list S)) ++ num [] (1 : Int) (↑(List.length
  (U.list M)) : Int))) : Int) + (9000000 : Int) * ((↑(List.length (U.list M)) : Int) - (0 : Int)) ≤ (400000000 : Int)) ∧ (wIs ((2097152 : Nat) + (1 : Nat)) (0 : Nat) ((2097152 : Nat) + (1 : Nat)) ((2097279
  : Nat) + (1 : Nat)) ((2097279 : Nat) + (1 : Nat)) ((4 : Nat) + (1 : Nat)) ∧ (↑(List.length ([] ++ num [] (1 : Int) (U.int c) ++ num [] (2 : Int) (U.int sz) ++ textB [] (U.str bk) ++ tabX (U.list T) (U.int
  c) ++ num [] (1 : Int) (↑(List.length (U.list S)) : Int) ++ shotsB (U.int c) (List.drop (Int.toNat (0 : Int)) (U.list S)) ++ num [] (1 : Int) (↑(List.length (U.list M)) : Int) ++ mapsB (List.drop (Int.toNat
  (0 : Int)) (U.list M)))) : Int) + (8 : Int) * (↑(List.length (U.list Q)) : Int) ≤ (700000000 : Int)) ∧ bif decide ((↑(List.length ([] ++ num [] (1 : Int) (U.int c) ++ num [] (2 : Int) (U.int sz) ++ textB
  [] (U.str bk) ++ tabX (U.list T) (U.int c) ++ num [] (1 : Int) (↑(List.length (U.list S)) : Int) ++ shotsB (U.int c) (List.drop (Int.toNat (0 : Int)) (U.list S)) ++ num [] (1 : Int) (↑(List.length (U.list
  M)) : Int) ++ mapsB (List.drop (Int.toNat (0 : Int)) (U.list M)) ++ (num [] (4 : Int) (↑(List.length (U.list Q)) : Int) ++ countsB (U.list Q)))) : Int) > (1048576 : Int)) then R [[U.l []], [U.i (2 : Int)]]
  else R [[U.l ([] ++ num [] (1 : Int) (U.int c) ++ num [] (2 : Int) (U.int sz) ++ textB [] (U.str bk) ++ tabX (U.list T) (U.int c) ++ num [] (1 : Int) (↑(List.length (U.list S)) : Int) ++ shotsB (U.int
  c) (List.drop (Int.toNat (0 : Int)) (U.list S)) ++ num [] (1 : Int) (↑(List.length (U.list M)) : Int) ++ mapsB (List.drop (Int.toNat (0 : Int)) (U.list M)) ++ (num [] (4 : Int) (↑(List.length (U.list Q))
  : Int) ++ countsB (U.list Q)))], [U.i (0 : Int)]]) := by kernel_rfl
end Go.Mat

namespace Go.Mat
open Go Go.Den Go.Proofs
theorem shotsB_len (c : Int) : ∀ L : List U, (∀ s ∈ L, (e2 s).list.length ≤ 1099511627776) → (shotsB c L).length ≤ 140000 * L.length
  | [], _ => by simp [shotsB]
  | s :: r, h => by
    have h1 := shotsB_len c r fun s hs => h s (List.mem_cons_of_mem _ hs)
    have h2 := textB_len (e0 s).str
    have h3 := num2 (e1 s).int
    have h4 := tabX_len c (h s (List.mem_cons_self ..))
    rw [shotsB]
    simp only [List.length_append, List.length_cons]
    omega
theorem mapB_len (nm : ByteArray) (on : Bool) (L : List U) : (mapB nm on L).length ≤ 65540 + 4 * L.length := by
  have h2 := textB_len nm
  have h3 := num1 (onB on)
  have h4 := num2 L.length
  have h5 := spansB_len L
  rw [mapB]
  simp only [List.length_append]
  omega
theorem mapsB_len : ∀ L : List U, (∀ b ∈ L, (e2 b).list.length ≤ 1000000) → (mapsB L).length ≤ 5000000 * L.length
  | [], _ => by simp [mapsB]
  | b :: r, h => by
    have h1 := mapsB_len r fun s hs => h s (List.mem_cons_of_mem _ hs)
    have h2 := mapB_len (e0 b).str (e1 b).bool (e2 b).list
    have h3 := h b (List.mem_cons_self ..)
    rw [mapsB]
    simp only [List.length_append, List.length_cons]
    omega
theorem mem_at {L : List U} {i : Nat} (h : i < L.length) : U.at L i ∈ L := by
  have hd : L.drop i = U.at L i :: _ := drop_at h
  exact List.mem_of_mem_drop (by rw [hd]; exact List.mem_cons_self ..)
theorem mis : mIs 1664 0 128 0 1666 u8T := ⟨rfl, rfl, rfl, rfl, rfl, rfl⟩
theorem mput_loop0 : LoopOk mputC 0 (loopBody Try.f12 0) := by
  refine loopOk_of (F := mputLoop0) (ts := [40, 39, 38, 4, 1]) (os := [1664, 1666, 128]) rfl (fun svs _ => match svs with | .val _ i :: .val _ m :: _ => (m.int - i.int).toNat | _ => 0) ?_
  intro pan svs os k ho1 ho2 h
  unfold mputLoop0 at h
  split at h
  · rename_i i n ec L p o p1 o1 q t xs c sz bk x1 T x2 S x3 M Q
    obtain ⟨⟨⟨rfl, rfl, rfl, rfl, rfl, rfl⟩, ⟨rfl, rfl, rfl, rfl⟩, hn, hn8, h0, hi, hT, hx⟩, hk⟩ := h
    refine .eq (mput_round0 pan _ _ k i n L c sz bk T S M Q xs) ?_
    refine bd (fun hlt => dt ⟨h0, by omega⟩ ?_) (fun hlt => ?_)
    · have hT' := hT _ (mem_at (L := L.list) (i := i.int.toNat) (by omega))
      rw [drop_at (by omega), shotsB] at hk
      simp only [U.at, e0, e1, e2, ← List.append_assoc] at hk hT'
      have h1 := textB_len (nth (.i 0) (nth (.i 0) L.list i.int.toNat).list 0).str
      have h2 := num2 (nth (.i 0) (nth (.i 0) L.list i.int.toNat).list 1).int
      have h3 := tabX_len c.int hT'
      have hw : IntKind.wrap .i64 (i.int + 1) = i.int + 1 := i64_in (by omega) (by omega)
      have hc : (i.int + 1).toNat = i.int.toNat + 1 := by omega
      have hlt' : (n.int - (i.int + 1)).toNat < (n.int - i.int).toNat := by omega
      simp only [nth_tail, Nat.zero_add, Nat.reduceAdd, hw, hc]
      exact ⟨⟨wis, by omega⟩, ⟨wis, by omega, by rw [List.length_append]; omega⟩, ⟨wis, by trivial, hT', by rw [List.length_append, List.length_append]; omega⟩, blt hlt' ⟨⟨mis, ⟨by trivial, by trivial, by trivial, by trivial⟩, hn, hn8, by omega, by omega, hT, by simp only [List.length_append]; omega⟩, hk⟩⟩
    · rw [List.drop_of_length_le (by omega), shotsB, List.append_nil] at hk
      exact hk
  · exact h.elim
theorem mput_loop2 : LoopOk mputC 2 (loopBody Try.f12 1) := by
  refine loopOk_of (F := mputLoop2) (ts := [67, 66, 65, 4, 1]) (os := [1664, 1666, 128]) rfl (fun svs _ => match svs with | .val _ i :: .val _ m :: _ => (m.int - i.int).toNat | _ => 0) ?_
  intro pan svs os k ho1 ho2 h
  unfold mputLoop2 at h
  split at h
  · rename_i i n ec L p o p1 o1 q t xs c sz bk x1 T x2 S x3 M Q
    obtain ⟨⟨⟨rfl, rfl, rfl, rfl, rfl, rfl⟩, ⟨rfl, rfl, rfl, rfl⟩, hn, hn8, h0, hi, hT, hx⟩, hk⟩ := h
    refine .eq (mput_round2 pan _ _ k i n L c sz bk T S M Q xs) ?_
    refine bd (fun hlt => dt ⟨h0, by omega⟩ ?_) (fun hlt => ?_)
    · have hT' := hT _ (mem_at (L := L.list) (i := i.int.toNat) (by omega))
      rw [drop_at (by omega), mapsB] at hk
      simp only [U.at, e0, e1, e2, ← List.append_assoc] at hk hT'
      have h1 := mapB_len (nth (.i 0) (nth (.i 0) L.list i.int.toNat).list 0).str (nth (.i 0) (nth (.i 0) L.list i.int.toNat).list 1).bool (nth (.i 0) (nth (.i 0) L.list i.int.toNat).list 2).list
      have hw : IntKind.wrap .i64 (i.int + 1) = i.int + 1 := i64_in (by omega) (by omega)
      have hc : (i.int + 1).toNat = i.int.toNat + 1 := by omega
      have hlt' : (n.int - (i.int + 1)).toNat < (n.int - i.int).toNat := by omega
      simp only [nth_tail, Nat.zero_add, Nat.reduceAdd, hw, hc]
      exact ⟨⟨wis, by trivial, by omega⟩, blt hlt' ⟨⟨mis, ⟨by trivial, by trivial, by trivial, by trivial⟩, hn, hn8, by omega, by omega, hT, by simp only [List.length_append]; omega⟩, hk⟩⟩
    · rw [List.drop_of_length_le (by omega), mapsB, List.append_nil] at hk
      exact hk
  · exact h.elim
theorem mput_ok : SpecFP PR 12 mputP mputS := fun fn us hfn hpre => by
  have hf : PR.funcs[(12 : Nat)]? = some Try.f12 := by kernel_rfl
  rw [hf] at hfn; cases hfn
  refine fn_okH (C := mputC) (mkC_ok eqs0_ok mixed_ok (.cons meta_ok .nil) (.cons wnum_ok (.cons wtext_ok (.cons wtable_ok (.cons wmap_ok (.cons wcounts_ok .nil)))))) hf (by kernel_rfl) (loops_two (by kernel_rfl) mput_loop0 mput_loop2) fun hok => ?_
  have hp : Try.f12.params.toList = [29] := by kernel_rfl
  rw [hp] at hok
  obtain ⟨c, sz, bk, T, S, M, Q, hus⟩ : ∃ c sz bk T S M Q, us = [[c, sz, bk, T, S, M, Q]] := by
    obtain ⟨u, rfl, h1⟩ := shape1 (by kernel_rfl : Cs PR 29 = some (true, [.int .i64, .int .i64, .str, .sl false [.sl true EC], .sl true SC, .sl true BC, .sl false [.int .i64]])) hok.1
    obtain ⟨c, sz, bk, T, S, M, Q, rfl⟩ := len7 h1
    exact ⟨c, sz, bk, T, S, M, Q, rfl⟩
  subst hus
  refine .eq (mput_tree _ c sz bk T S M Q) ?_
  unfold mputP sizeOk at hpre
  simp only [nth_zero, nth_succ] at hpre
  obtain ⟨hT, hS, hM⟩ := hpre
  unfold mputS metaX metaE
  simp only [nth_zero, nth_succ]
  refine bi (fun h => by rw [nt h]; rfl) (fun h => ?_)
  have hr := nf h
  rw [hr]
  obtain ⟨_, _, _, _, _, hS8, hM8, hQ, _⟩ := (metaR_iff ..).1 hr
  have l1 := num1 c.int
  have l2 := num2 sz.int
  have l3 := textB_len bk.str
  have l4 := tabX_len c.int hT
  have l5 := num1 S.list.length
  have l6 := shotsB_len c.int S.list hS
  have l7 := num1 M.list.length
  have l8 := mapsB_len M.list hM
  have hB : [] ++ num [] 1 c.int ++ num [] 2 sz.int ++ textB [] bk.str ++ tabX T.list c.int ++ num [] 1 S.list.length ++ shotsB c.int S.list ++ num [] 1 M.list.length ++ mapsB M.list ++ (num [] 4 Q.list.length ++ countsB Q.list) = metaB c.int sz.int bk.str T.list S.list M.list Q.list := by
    simp [metaB]
  simp only [List.drop_zero, Int.toNat_zero, hB]
  refine ⟨⟨wis, by omega, by omega⟩, ⟨wis, by omega, ?_⟩, ⟨wis, ?_⟩, ⟨wis, by trivial, hT, ?_⟩, ⟨wis, by omega, ?_⟩, ⟨mis, ⟨by trivial, by trivial, by trivial, by trivial⟩, by trivial, by omega, by trivial, by omega, hS, ?_⟩, ⟨wis, by omega, ?_⟩, ⟨mis, ⟨by trivial, by trivial, by trivial, by trivial⟩, by trivial, by omega, by trivial, by omega, hM, ?_⟩, ⟨wis, ?_⟩, ?_⟩
  all_goals try (simp only [List.length_append, List.length_nil]; omega)
  refine bi (fun h => ?_) (fun h => ?_)
  · rw [show metaL c.int sz.int bk.str T.list S.list M.list Q.list = true from h]; rfl
  · rw [show metaL c.int sz.int bk.str T.list S.list M.list Q.list = false from h]; rfl
end Go.Mat

namespace Go.Mat
open Go Go.Den Go.Proofs
def shotOk (s : U) : Prop := (e0 s).str.size ≤ 65535 ∧ 0 ≤ (e1 s).int ∧ (e1 s).int ≤ 65535 ∧ (e2 s).list.length ≤ 1099511627776
def spanOk (s : U) : Prop := 0 ≤ (e0 s).int ∧ (e0 s).int ≤ 65535 ∧ 0 ≤ (e1 s).int ∧ (e1 s).int ≤ 65535
def bmapOk (b : U) : Prop := (e0 b).str.size ≤ 65535 ∧ (e2 b).list.length ≤ 65535 ∧ ∀ s ∈ (e2 b).list, spanOk s
def cntOk (n : U) : Prop := 0 ≤ n.int ∧ n.int ≤ 65535
end Go.Mat

namespace Go.Mat
open Go Go.Den Go.Proofs
theorem name_size {s : ByteArray} (h : nameR s = true) : s.size ≤ 16 := by
  unfold nameR at h
  simp only [Bool.and_eq_true, decide_eq_true_eq] at h
  have := h.1.2
  rw [str_len] at this
  exact this
theorem back_size {s : ByteArray} (h : backR s = true) : s.size ≤ 16 := by
  unfold backR at h
  rw [Bool.or_eq_true] at h
  rcases h with h | h
  · have : s.data.toList = [] := by simpa using h
    rw [← str_len, this]; simp
  · exact name_size h
theorem size_low {n c : Int} (h : sizeR n c = true) : 0 ≤ n ∧ n ≤ 4096 := by
  unfold sizeR at h
  simp only [Bool.and_eq_true, decide_eq_true_eq] at h
  exact h.1
theorem rshots_each {c : Int} {S : List U} : ∀ {r : List U} {i : Int}, rshotsR c S i r = true → ∀ s ∈ r, nameR (e0 s).str = true ∧ sizeR (e1 s).int c = true
  | [], _, _, s, hs => by cases hs
  | x :: r, i, h, s, hs => by
    rw [rshotsR] at h
    simp only [Bool.and_eq_true] at h
    rcases List.mem_cons.1 hs with rfl | hs
    · exact ⟨h.1.1.1.1, h.1.1.2⟩
    · exact rshots_each h.2 s hs
theorem rmaps_each {M : List U} : ∀ {r : List U} {i : Int}, rmapsR M i r = true → ∀ s ∈ r, nameR (e0 s).str = true ∧ spansR (-1) (e2 s).list = true ∧ lastR (e2 s).list = true
  | [], _, _, s, hs => by cases hs
  | x :: r, i, h, s, hs => by
    rw [rmapsR] at h
    simp only [Bool.and_eq_true] at h
    rcases List.mem_cons.1 hs with rfl | hs
    · exact ⟨h.1.1.1.1, h.1.1.2, h.1.2⟩
    · exact rmaps_each h.2 s hs
theorem counts_each : ∀ {r : List U}, countsR r = true → ∀ s ∈ r, cntOk s
  | [], _, s, hs => by cases hs
  | x :: r, h, s, hs => by
    rw [countsR] at h
    simp only [Bool.and_eq_true, decide_eq_true_eq] at h
    rcases List.mem_cons.1 hs with rfl | hs
    · exact ⟨h.1.1, h.1.2⟩
    · exact counts_each h.2 s hs
abbrev topE (L : List U) : Int := (e1 (U.at L (L.length - 1))).int
theorem spans_up : ∀ (L : List U) (last : Int), spansR last L = true → (L = [] ∨ last + L.length ≤ topE L) ∧ ∀ s ∈ L, 0 ≤ (e0 s).int ∧ (e0 s).int < (e1 s).int ∧ (e1 s).int ≤ topE L
  | [], _, _ => ⟨.inl rfl, fun s hs => by cases hs⟩
  | x :: r, last, h => by
    rw [spansR] at h
    unfold spanMay at h
    simp only [Bool.and_eq_true, decide_eq_true_eq] at h
    obtain ⟨⟨⟨⟨h1, h2⟩, h3⟩, h4⟩, h5⟩ := h
    obtain ⟨g1, g2⟩ := spans_up r _ h5
    by_cases hr : r = []
    · subst hr
      have ht : topE [x] = (e1 x).int := rfl
      refine ⟨.inr (by rw [ht]; simp; omega), fun s hs => ?_⟩
      have : s = x := by simpa using hs
      subst this
      exact ⟨h1, h2, by rw [ht]; omega⟩
    · have ht : topE (x :: r) = topE r := by
        unfold topE U.at
        cases r with
        | nil => exact absurd rfl hr
        | cons y s => simp
      have g1 := g1.resolve_left hr
      rw [ht]
      refine ⟨.inr (by rw [List.length_cons]; omega), fun s hs => ?_⟩
      rcases List.mem_cons.1 hs with rfl | hs
      · exact ⟨h1, h2, by omega⟩
      · exact g2 s hs
theorem span_ok {L : List U} (h : spansR (-1) L = true) (hl : lastR L = true) : L.length ≤ 65535 ∧ ∀ s ∈ L, spanOk s := by
  obtain ⟨g1, g2⟩ := spans_up L _ h
  by_cases h0 : L = []
  · subst h0; exact ⟨by simp, fun s hs => by cases hs⟩
  · have hp : 0 < L.length := List.length_pos_iff.2 h0
    have ht : topE L ≤ 4096 := by
      unfold lastR at hl
      rw [decide_eq_true hp] at hl
      simpa using hl
    have g1 := g1.resolve_left h0
    refine ⟨by omega, fun s hs => ?_⟩
    have := g2 s hs
    exact ⟨this.1, by omega, by omega, by omega⟩
end Go.Mat

namespace Go.Mat
open Go Go.Den Go.Proofs
def errS : List (List U) → List (List U) := fun us => [[nth (.i 0) (nth [] us 0) 0]]
def trueS : List (List U) → List (List U) := fun _ => [[.b true]]
theorem err_tree (R : RF) (e : U) : (run K0 Try.f14 [[e]] R) = (R [[e]]) := by kernel_rfl
noncomputable def awakeC : Ctx := mkC PR eqs0 (fnsConsP 12 mputP mputS (fnsCons 14 errS fnsNil)) trsNil noLoops noOut noOut
theorem awake_tree (R : RF) : (run awakeC Try.f11 [] R) = (mputP [[U.i (0 : Int), U.i (0 : Int), U.s (ByteArray.mk #[]), U.l [], U.l [], U.l [], U.l []]] ∧ R [[U.b ((↑(List.length (metaX (U.i (0 : Int)) (U.i (0 : Int)) (U.s (ByteArray.mk #[])) (U.l []) (U.l [])
  (U.l []) (U.l []))) : Int) == (13 : Int))]]) := by kernel_rfl
end Go.Mat

namespace Go.Mat
open Go Go.Den Go.Proofs
theorem err_ok : SpecF PR 14 errS := fun fn us hfn => by
  have hf : PR.funcs[(14 : Nat)]? = some Try.f14 := by kernel_rfl
  rw [hf] at hfn; cases hfn
  refine fn_okH (C := K0) (mkC_ok eqs0_ok mixed_ok .nil .nil) hf (by kernel_rfl) (loops_none (by kernel_rfl)) fun hok => ?_
  have hp : Try.f14.params.toList = [33] := by kernel_rfl
  rw [hp] at hok
  obtain ⟨e, hus⟩ : ∃ e, us = [[e]] := by
    obtain ⟨u, rfl, h1⟩ := shape1 (by kernel_rfl : Cs PR 33 = some (false, [.int .i64])) hok.1
    obtain ⟨e, rfl⟩ := len1 h1
    exact ⟨e, rfl⟩
  subst hus
  refine .eq (err_tree _ e) ?_
  rfl
theorem awake_ok : SpecF PR 11 trueS := fun fn us hfn => by
  have hf : PR.funcs[(11 : Nat)]? = some Try.f11 := by kernel_rfl
  rw [hf] at hfn; cases hfn
  refine fn_okH (C := awakeC) (mkC_ok eqs0_ok mixed_ok (.consP mput_ok (.cons err_ok .nil)) .nil) hf (by kernel_rfl) (loops_none (by kernel_rfl)) fun hok => ?_
  have hp : Try.f11.params.toList = [] := by kernel_rfl
  rw [hp] at hok
  have hus : us = [] := hok.1
  subst hus
  refine .eq (awake_tree _) ?_
  refine ⟨⟨by show 0 ≤ _; omega, (fun s hs => by cases hs), (fun s hs => by cases hs)⟩, ?_⟩
  show [[U.b _]] = [[U.b true]]
  rw [show (metaX (U.i 0) (U.i 0) (U.s ⟨#[]⟩) (U.l []) (U.l []) (U.l []) (U.l [])).length = 13 from by kernel_rfl]
  rfl
end Go.Mat

namespace Go.Mat
open Go Go.Den Go.Proofs
theorem countB_le : ∀ L : List U, 0 ≤ countB L ∧ countB L ≤ L.length
  | [] => by simp [countB]
  | l :: r => by
    have := countB_le r
    rw [countB, List.length_cons]
    cases decide (l.list = []) with
    | true => simp only [cond_true]; omega
    | false => simp only [cond_false]; omega
end Go.Mat

namespace Go.Mat
open Go Go.Den Go.Proofs
theorem num_eq {n v : Int} (h : putErr n (IntKind.wrap .u64 v) = 0) : (num [] n v).length = n.toNat := by
  unfold num putX
  rw [if_pos h, List.nil_append, putFrom_len]
theorem num2_eq {v : Int} (h0 : 0 ≤ v) (h : v ≤ 65535) : (num [] 2 v).length = 2 := num_eq (good2 h0 h)
theorem num4_eq {v : Int} (h0 : 0 ≤ v) (h : v ≤ 4294967295) : (num [] 4 v).length = 4 := num_eq (good4 h0 h)
def sumOk (e : U) : Prop := 0 ≤ (e4 e).int ∧ (e4 e).int ≤ 4294967295
def tabOk (L : List U) : Prop := ∀ l ∈ L, ∀ e ∈ l.list, sumOk e
theorem may_low {k st ct sz sm c : Int} (h : mayR k st ct sz sm c = true) : 0 ≤ k ∧ k ≤ 3 ∧ 0 ≤ st ∧ st ≤ 65536 ∧ 0 ≤ ct ∧ ct ≤ 64 ∧ 0 ≤ sz ∧ sz ≤ 1024 := by
  unfold mayR at h
  split at h
  · cases h
  · rename_i hc
    have hp := pow_le (c := c) (by omega) (by omega)
    split at h
    · have := of_decide_eq_true h
      omega
    · split at h
      · simp only [Bool.and_eq_true, placeR, decide_eq_true_eq] at h
        omega
      · split at h
        · simp only [Bool.and_eq_true, placeR, decide_eq_true_eq] at h
          omega
        · cases h
theorem entB_len {a b c d e k : Int} (h : mayR a b c d e k = true) (he : 0 ≤ e ∧ e ≤ 4294967295) : (entB a b c d e).length = 16 := by
  obtain ⟨_, _, hb0, hb, hc0, hc, hd0, hd⟩ := may_low h
  have hw : IntKind.wrap .i64 e = e := i64_in (by omega) (by omega)
  unfold entB
  rw [hw, num_app (v := e) (good4 he.1 he.2), List.length_append, num_app (v := d) (good4 (by omega) (by omega)), List.length_append, num_app (v := b) (good4 (by omega) (by omega)), List.length_append, num_app (v := c) (good2 (by omega) (by omega)), List.length_append,
    num4_eq he.1 he.2, num4_eq (by omega) (by omega), num4_eq (by omega) (by omega), num2_eq (by omega) (by omega)]
  rfl
theorem leafB_eq {n c i : Int} : ∀ {l : List U} {k : Int}, entsR n c i k l = true → (∀ e ∈ l, sumOk e) → (leafB c l).length = 16 * l.length
  | [], _, _, _ => by simp [leafB]
  | e :: r, k, h, hs => by
    rw [entsR, Bool.and_eq_true] at h
    have h1 := h.1
    unfold entOk at h1
    rw [Bool.and_eq_true] at h1
    have hl := leafB_eq h.2 fun e he => hs e (List.mem_cons_of_mem _ he)
    rw [leafB, entX, h1.1, cond_true, List.length_append, entB_len h1.1 (hs e (List.mem_cons_self ..)), hl, List.length_cons]
    omega
theorem leavesB_eq {n c : Int} : ∀ {L : List U} {i : Int}, leavesR n c i L = true → 0 ≤ i → i + L.length ≤ 65535 → tabOk L → ((leavesB c i L).length : Int) = 130 * countB L
  | [], _, _, _, _, _ => by simp [leavesB, countB]
  | l :: r, i, h, h0, hi, hs => by
    simp only [List.length_cons] at hi
    rw [leavesR] at h
    have key : leavesR n c (i + 1) r = true ∧ (l.list = [] ∨ (l.list.length = 8 ∧ entsR n c i 0 l.list = true)) := by
      split at h
      · rename_i hh; exact ⟨h, .inl hh.1⟩
      · rw [Bool.and_eq_true] at h
        have h1 := h.1
        unfold leafR at h1
        simp only [Bool.and_eq_true, decide_eq_true_eq] at h1
        exact ⟨h.2, .inr h1.1⟩
    have ih := leavesB_eq key.1 (by omega) (by omega) fun l hl => hs l (List.mem_cons_of_mem _ hl)
    rw [leavesB, countB, List.length_append]
    rcases key.2 with hl | ⟨hl, he⟩
    · rw [hl]; simp only [decide_true, cond_true, List.length_nil]; omega
    · rw [decide_eq_false (by intro h0; rw [h0] at hl; simp at hl)]
      simp only [cond_false, List.length_append]
      have h2 := leafB_eq he (hs l (List.mem_cons_self ..))
      have h3 := num2_eq (v := i) h0 (by omega)
      omega
theorem tabX_eq {L : List U} {n c : Int} (hl : L.length ≤ 1099511627776) (h : tableR L n c = true) (hs : tabOk L) : ((tabX L c).length : Int) = 2 + 130 * countB L ∧ countB L ≤ 512 := by
  obtain ⟨h1, h2, h3, h4, h5, h6⟩ := tableR_low hl h
  have h7 : leavesR n c 0 L = true := by
    unfold tableR at h
    split at h
    · cases h
    · exact h
  have hc := countB_le L
  have hm : ∀ {m : Int}, n ≤ m → ∀ {L : List U} {i : Int}, leavesR n c i L = true → leavesR m c i L = true := fun {m} hm => by
    have he : ∀ {l : List U} {i k : Int}, entsR n c i k l = true → entsR m c i k l = true := by
      intro l
      induction l with
      | nil => intro i k _; rfl
      | cons e r ih =>
        intro i k h
        rw [entsR, Bool.and_eq_true] at h ⊢
        refine ⟨?_, ih h.2⟩
        have h1 := h.1
        unfold entOk at h1 ⊢
        rw [Bool.and_eq_true, Bool.or_eq_true] at h1 ⊢
        refine ⟨h1.1, h1.2.imp id fun h => ?_⟩
        have := of_decide_eq_true h
        exact decide_eq_true (by omega)
    intro L
    induction L with
    | nil => intro i _; rfl
    | cons l r ih =>
      intro i h
      rw [leavesR] at h ⊢
      split at h
      · rename_i hc; rw [if_pos hc]; exact ih h
      · rename_i hc
        rw [if_neg hc]
        rw [Bool.and_eq_true] at h ⊢
        refine ⟨?_, ih h.2⟩
        have h1 := h.1
        unfold leafR at h1 ⊢
        simp only [Bool.and_eq_true] at h1 ⊢
        exact ⟨⟨h1.1.1, he h1.1.2⟩, h1.2⟩
  have ht : tableR L 4096 c = true := by
    unfold tableR
    rw [if_neg (by omega)]
    exact hm h4 h7
  have hB := leavesB_eq h7 (by omega) (by omega) hs
  unfold tabX tputB
  rw [ht, cond_true, List.length_append]
  have h9 := num2_eq (v := countB L) hc.1 (by omega)
  omega
structure RightFacts (c sz bk T S M Q : U) : Prop where
  c0 : 0 ≤ c.int
  c6 : c.int ≤ 6
  sz0 : 0 ≤ sz.int
  sz1 : sz.int ≤ 4096
  bk : bk.str.size ≤ 16
  t : tableR T.list (sz.int / 2 ^ c.int.toNat) c.int = true
  s8 : S.list.length ≤ 8
  m8 : M.list.length ≤ 8
  q : Q.list.length ≤ 65536
  shots : ∀ s ∈ S.list, (e0 s).str.size ≤ 16 ∧ 0 ≤ (e1 s).int ∧ (e1 s).int ≤ 4096 ∧ ∃ n, tableR (e2 s).list n c.int = true
  maps : ∀ s ∈ M.list, bmapOk s ∧ (e0 s).str.size ≤ 16
  counts : ∀ x ∈ Q.list, cntOk x
theorem shotsR_each {c : Int} : ∀ {r : List U}, shotsR c r = true → ∀ s ∈ r, ∃ n, tableR (e2 s).list n c = true
  | [], _, s, hs => by cases hs
  | x :: r, h, s, hs => by
    rw [shotsR] at h
    simp only [Bool.and_eq_true] at h
    rcases List.mem_cons.1 hs with rfl | hs
    · exact ⟨_, h.1.2⟩
    · exact shotsR_each h.2 s hs
theorem right_facts {c sz bk T S M Q : U} (hT : T.list.length ≤ 1099511627776) (hS : ∀ s ∈ S.list, (e2 s).list.length ≤ 1099511627776) (h : rmetaR c sz bk T S M Q = true) : RightFacts c sz bk T S M Q := by
  have hr2 := h
  rw [rmetaR_eq hT hS, metaR_iff] at hr2
  rw [rmetaR] at h
  simp only [Bool.and_eq_true, decide_eq_true_eq] at h
  obtain ⟨⟨⟨⟨⟨⟨⟨⟨⟨⟨hc0, hc6⟩, hsz⟩, hbk⟩, hS8⟩, hM8⟩, hQ⟩, _⟩, hSr⟩, hMr⟩, hQr⟩ := h
  have hsz := size_low hsz
  exact { c0 := hc0, c6 := hc6, sz0 := hsz.1, sz1 := hsz.2, bk := back_size hbk, t := hr2.2.2.2.2.1, s8 := hS8, m8 := hM8, q := hQ
          shots := fun s hs => by
            obtain ⟨h1, h2⟩ := rshots_each hSr s hs
            have h3 := size_low h2
            exact ⟨name_size h1, h3.1, h3.2, shotsR_each hr2.2.2.2.2.2.2.2.2.1 s hs⟩
          maps := fun s hs => by
            obtain ⟨h1, h2, h3⟩ := rmaps_each hMr s hs
            have := name_size h1
            have := span_ok h2 h3
            exact ⟨⟨by omega, this.1, this.2⟩, by omega⟩
          counts := counts_each hQr }
end Go.Mat

namespace Go.Mat
open Go Go.Den Go.Proofs
noncomputable def eqs1 (t : TypeId) : Option (List IntKind) := bif Nat.beq t 72 then some [.i64, .i64] else eqs0 t
def intsE : List U → List U → Bool
  | [], [] => true
  | x :: r, y :: s => (x.int == y.int) && intsE r s
  | _, _ => false
def spanE (x y : U) : Bool := (e0 x).int == (e0 y).int && ((e1 x).int == (e1 y).int && true)
def spansE : List U → List U → Bool
  | [], [] => true
  | x :: r, y :: s => spanE x y && spansE r s
  | _, _ => false
def entE (x y : U) : Bool := (e0 x).int == (e0 y).int && ((e1 x).int == (e1 y).int && ((e2 x).int == (e2 y).int && ((e3 x).int == (e3 y).int && ((e4 x).int == (e4 y).int && true))))
def entsE : List U → List U → Bool
  | [], [] => true
  | x :: r, y :: s => entE x y && entsE r s
  | _, _ => false
def tabE : List U → List U → Bool
  | [], [] => true
  | x :: r, y :: s => entsE x.list y.list && tabE r s
  | _, _ => false
def mapE (x y : U) : Bool := ((e0 x).str.toList == (e0 y).str.toList) && ((e1 x).bool == (e1 y).bool) && spansE (e2 x).list (e2 y).list
def mapsE : List U → List U → Bool
  | [], [] => true
  | x :: r, y :: s => mapE x y && mapsE r s
  | _, _ => false
def lists2 (f : List U → List U → Bool) : List (List U) → List (List U) := fun us => [[.b (f (nth (.i 0) (nth [] us 0) 0).list (nth (.i 0) (nth [] us 1) 0).list)]]
noncomputable def intsLoop : LoopF := fun _ svs _ k => match svs with
  | [.val (.int .i64) i, .val (.sl false [.int .i64]) a, .val (.sl false [.int .i64]) b] =>
    (a.list.length = b.list.length ∧ 0 ≤ i.int ∧ i.int ≤ a.list.length) ∧
    (bif intsE (a.list.drop i.int.toNat) (b.list.drop i.int.toNat) then k (.exit 0) ⟨[(4, .unk)], []⟩ else k .ret ⟨[(4, vb (.b false))], []⟩)
  | _ => False
noncomputable def intsC : Ctx := mkC PR eqs1 fnsNil trsNil (loopCons 0 [5, 0, 1] [] intsLoop noLoops) (outCons 0 [4] [] noOut) noOut
theorem ints_round (pan : KP) (μ : Mu) (N : Nat) (k : KE) (i a b : U) : (exec (intsC.panics pan) (loopBody Try.f38 0) 0 ⟨[(5, vi i), (0, vl (.int .i64) a), (1, vl (.int .i64) b)], []⟩ (again PR (some ([4], [])) none pan [5, 0, 1] [] intsLoop μ N k)) = (bif decide (U.int i < (↑(List.length (U.list a)) : Int)) then bif decide ((0 : Int) ≤ U.int i ∧ U.int i < (↑(List.length (U.list a)) : Int)) then bif decide ((0 : Int) ≤ U.int i ∧ U.int i < (↑(List.length
  (U.list b)) : Int)) then bif U.int (nth (U.i (0 : Int)) (U.list a) (Int.toNat (U.int i))) != U.int (nth (U.i (0 : Int)) (U.list b) (Int.toNat (U.int i))) then k Ex.ret (St.mk [(nat_lit 4, SV.val Ct.bool
  (U.b false))] []) else bif Nat.blt (μ [SV.val (Ct.int IntKind.i64) (U.i (IntKind.wrap IntKind.i64 (U.int i + (1 : Int)))), SV.val (Ct.sl false [Ct.int IntKind.i64]) a, SV.val (Ct.sl false [Ct.int IntKind.i64])
  b] []) N then (List.length (U.list a) = List.length (U.list b) ∧ (0 : Int) ≤ IntKind.wrap IntKind.i64 (U.int i + (1 : Int)) ∧ IntKind.wrap IntKind.i64 (U.int i + (1 : Int)) ≤ (↑(List.length (U.list a))
  : Int)) ∧ bif intsE (List.drop (Int.toNat (IntKind.wrap IntKind.i64 (U.int i + (1 : Int)))) (U.list a)) (List.drop (Int.toNat (IntKind.wrap IntKind.i64 (U.int i + (1 : Int)))) (U.list b)) then k (Ex.exit
  (nat_lit 0)) (St.mk [(nat_lit 4, SV.unk)] []) else k Ex.ret (St.mk [(nat_lit 4, SV.val Ct.bool (U.b false))] []) else False else False else False else k (Ex.exit (nat_lit 0)) (St.mk [(nat_lit 4, SV.unk)]
  [])) := by kernel_rfl
theorem ints_tree (R : RF) (a b : U) : (run intsC Try.f38 [[a], [b]] R) = (bif (↑(List.length (U.list a)) : Int) != (↑(List.length (U.list b)) : Int) then R [[U.b false]] else (List.length (U.list a) = List.length (U.list b) ∧ (0 : Int) ≤ (0 : Int) ∧ (0 : Int) ≤ (↑(List.length
  (U.list a)) : Int)) ∧ bif intsE (List.drop (Int.toNat (0 : Int)) (U.list a)) (List.drop (Int.toNat (0 : Int)) (U.list b)) then R [[U.b true]] else R [[U.b false]]) := by kernel_rfl
noncomputable def spsLoop : LoopF := fun _ svs _ k => match svs with
  | [.val (.int .i64) i, .val (.sl true ca) a, .val (.sl true cb) b] =>
    (ca = SpC ∧ cb = SpC ∧ a.list.length = b.list.length ∧ 0 ≤ i.int ∧ i.int ≤ a.list.length) ∧
    (bif spansE (a.list.drop i.int.toNat) (b.list.drop i.int.toNat) then k (.exit 0) ⟨[(4, .unk)], []⟩ else k .ret ⟨[(4, vb (.b false))], []⟩)
  | _ => False
noncomputable def spsC : Ctx := mkC PR eqs1 fnsNil trsNil (loopCons 0 [5, 0, 1] [] spsLoop noLoops) (outCons 0 [4] [] noOut) noOut
theorem sps_round (pan : KP) (μ : Mu) (N : Nat) (k : KE) (i a b : U) : (exec (spsC.panics pan) (loopBody Try.f56 0) 0 ⟨[(5, vi i), (0, vt SpC a), (1, vt SpC b)], []⟩ (again PR (some ([4], [])) none pan [5, 0, 1] [] spsLoop μ N k)) = (bif decide (U.int i < (↑(List.length (U.list a)) : Int)) then bif decide ((0 : Int) ≤ U.int i ∧ U.int i < (↑(List.length (U.list a)) : Int)) then bif decide ((0 : Int) ≤ U.int i ∧ U.int i < (↑(List.length
  (U.list b)) : Int)) then bif !(U.int (nth (U.i (0 : Int)) (U.list (nth (U.i (0 : Int)) (U.list a) (Int.toNat (U.int i)))) (0 : Nat)) == U.int (nth (U.i (0 : Int)) (U.list (nth (U.i (0 : Int)) (U.list b)
  (Int.toNat (U.int i)))) (0 : Nat)) && (U.int (nth (U.i (0 : Int)) (List.tail (U.list (nth (U.i (0 : Int)) (U.list a) (Int.toNat (U.int i))))) (0 : Nat)) == U.int (nth (U.i (0 : Int)) (List.tail (U.list
  (nth (U.i (0 : Int)) (U.list b) (Int.toNat (U.int i))))) (0 : Nat)) && true)) then k Ex.ret (St.mk [(nat_lit 4, SV.val Ct.bool (U.b false))] []) else bif Nat.blt (μ [SV.val (Ct.int IntKind.i64) (U.i (IntKind.wrap
  IntKind.i64 (U.int i + (1 : Int)))), SV.val (Ct.sl true [Ct.int IntKind.i64, Ct.int IntKind.i64]) a, SV.val (Ct.sl true [Ct.int IntKind.i64, Ct.int IntKind.i64]) b] []) N then ([Ct.int IntKind.i64, Ct.int
  IntKind.i64] = [Ct.int IntKind.i64, Ct.int IntKind.i64] ∧ [Ct.int IntKind.i64, Ct.int IntKind.i64] = [Ct.int IntKind.i64, Ct.int IntKind.i64] ∧ List.length (U.list a) = List.length (U.list b) ∧ (0 : Int)
  ≤ IntKind.wrap IntKind.i64 (U.int i + (1 : Int)) ∧ IntKind.wrap IntKind.i64 (U.int i + (1 : Int)) ≤ (↑(List.length (U.list a)) : Int)) ∧ bif spansE (List.drop (Int.toNat (IntKind.wrap IntKind.i64 (U.int
  i + (1 : Int)))) (U.list a)) (List.drop (Int.toNat (IntKind.wrap IntKind.i64 (U.int i + (1 : Int)))) (U.list b)) then k (Ex.exit (nat_lit 0)) (St.mk [(nat_lit 4, SV.unk)] []) else k Ex.ret (St.mk [(nat_lit
  4, SV.val Ct.bool (U.b false))] []) else False else False else False else k (Ex.exit (nat_lit 0)) (St.mk [(nat_lit 4, SV.unk)] [])) := by kernel_rfl
theorem sps_tree (R : RF) (a b : U) : (run spsC Try.f56 [[a], [b]] R) = (bif (↑(List.length (U.list a)) : Int) != (↑(List.length (U.list b)) : Int) then R [[U.b false]] else ([Ct.int IntKind.i64, Ct.int IntKind.i64] = [Ct.int IntKind.i64, Ct.int IntKind.i64] ∧ [Ct.int IntKind.i64,
  Ct.int IntKind.i64] = [Ct.int IntKind.i64, Ct.int IntKind.i64] ∧ List.length (U.list a) = List.length (U.list b) ∧ (0 : Int) ≤ (0 : Int) ∧ (0 : Int) ≤ (↑(List.length (U.list a)) : Int)) ∧ bif spansE (List.drop
  (Int.toNat (0 : Int)) (U.list a)) (List.drop (Int.toNat (0 : Int)) (U.list b)) then R [[U.b true]] else R [[U.b false]]) := by kernel_rfl
noncomputable def mpsLoop : LoopF := fun _ svs _ k => match svs with
  | [.val (.int .i64) i, .val (.sl true ca) a, .val (.sl true cb) b] =>
    (ca = BC ∧ cb = BC ∧ a.list.length = b.list.length ∧ 0 ≤ i.int ∧ i.int ≤ a.list.length) ∧
    (bif mapsE (a.list.drop i.int.toNat) (b.list.drop i.int.toNat) then k (.exit 0) ⟨[(4, .unk)], []⟩ else k .ret ⟨[(4, vb (.b false))], []⟩)
  | _ => False
noncomputable def mpsC : Ctx := mkC PR eqs1 (fnsCons 56 (lists2 spansE) fnsNil) trsNil (loopCons 0 [5, 0, 1] [] mpsLoop noLoops) (outCons 0 [4] [] noOut) noOut
theorem mps_round (pan : KP) (μ : Mu) (N : Nat) (k : KE) (i a b : U) : (exec (mpsC.panics pan) (loopBody Try.f37 0) 0 ⟨[(5, vi i), (0, vt BC a), (1, vt BC b)], []⟩ (again PR (some ([4], [])) none pan [5, 0, 1] [] mpsLoop μ N k)) = (bif decide (U.int i < (↑(List.length (U.list a)) : Int)) then bif decide ((0 : Int) ≤ U.int i ∧ U.int i < (↑(List.length (U.list a)) : Int)) then bif decide ((0 : Int) ≤ U.int i ∧ U.int i < (↑(List.length
  (U.list b)) : Int)) then bif !ByteArray.toList (U.str (nth (U.i (0 : Int)) (List.drop (0 : Nat) (U.list (nth (U.i (0 : Int)) (U.list a) (Int.toNat (U.int i))))) (0 : Nat))) == ByteArray.toList (U.str (nth
  (U.i (0 : Int)) (List.drop (0 : Nat) (U.list (nth (U.i (0 : Int)) (U.list b) (Int.toNat (U.int i))))) (0 : Nat))) then k Ex.ret (St.mk [(nat_lit 4, SV.val Ct.bool (U.b false))] []) else bif decide ((0
  : Int) ≤ U.int i ∧ U.int i < (↑(List.length (U.list a)) : Int)) then bif decide ((0 : Int) ≤ U.int i ∧ U.int i < (↑(List.length (U.list b)) : Int)) then bif !U.bool (nth (U.i (0 : Int)) (List.drop (1 :
  Nat) (U.list (nth (U.i (0 : Int)) (U.list a) (Int.toNat (U.int i))))) (0 : Nat)) == U.bool (nth (U.i (0 : Int)) (List.drop (1 : Nat) (U.list (nth (U.i (0 : Int)) (U.list b) (Int.toNat (U.int i))))) (0
  : Nat)) then k Ex.ret (St.mk [(nat_lit 4, SV.val Ct.bool (U.b false))] []) else bif decide ((0 : Int) ≤ U.int i ∧ U.int i < (↑(List.length (U.list a)) : Int)) then bif decide ((0 : Int) ≤ U.int i ∧ U.int
  i < (↑(List.length (U.list b)) : Int)) then bif !spansE (U.list (nth (U.i (0 : Int)) (List.drop (2 : Nat) (U.list (nth (U.i (0 : Int)) (U.list a) (Int.toNat (U.int i))))) (0 : Nat))) (U.list (nth (U.i
  (0 : Int)) (List.drop (2 : Nat) (U.list (nth (U.i (0 : Int)) (U.list b) (Int.toNat (U.int i))))) (0 : Nat))) then k Ex.ret (St.mk [(nat_lit 4, SV.val Ct.bool (U.b false))] []) else bif Nat.blt (μ [SV.val
  (Ct.int IntKind.i64) (U.i (IntKind.wrap IntKind.i64 (U.int i + (1 : Int)))), SV.val (Ct.sl true [Ct.str, Ct.bool, Ct.sl true [Ct.int IntKind.i64, Ct.int IntKind.i64]]) a, SV.val (Ct.sl true [Ct.str, Ct.bool,
  Ct.sl true [Ct.int IntKind.i64, Ct.int IntKind.i64]]) b] []) N then ([Ct.str, Ct.bool, Ct.sl true [Ct.int IntKind.i64, Ct.int IntKind.i64]] = [Ct.str, Ct.bool, Ct.sl true [Ct.int IntKind.i64, Ct.int IntKind.i64]]
  ∧ [Ct.str, Ct.bool, Ct.sl true [Ct.int IntKind.i64, Ct.int IntKind.i64]] = [Ct.str, Ct.bool, Ct.sl true [Ct.int IntKind.i64, Ct.int IntKind.i64]] ∧ List.length (U.list a) = List.length (U.list b) ∧ (0
  : Int) ≤ IntKind.wrap IntKind.i64 (U.int i + (1 : Int)) ∧ IntKind.wrap IntKind.i64 (U.int i + (1 : Int)) ≤ (↑(List.length (U.list a)) : Int)) ∧ bif mapsE (List.drop (Int.toNat (IntKind.wrap IntKind.i64
  (U.int i + (1 : Int)))) (U.list a)) (List.drop (Int.toNat (IntKind.wrap IntKind.i64 (U.int i + (1 : Int)))) (U.list b)) then k (Ex.exit (nat_lit 0)) (St.mk [(nat_lit 4, SV.unk)] []) else k Ex.ret (St.mk
  [(nat_lit 4, SV.val Ct.bool (U.b false))] []) else False else False else False else False else False else False else False else k (Ex.exit (nat_lit 0)) (St.mk [(nat_lit 4, SV.unk)] [])) := by kernel_rfl
theorem mps_tree (R : RF) (a b : U) : (run mpsC Try.f37 [[a], [b]] R) = (bif (↑(List.length (U.list a)) : Int) != (↑(List.length (U.list b)) : Int) then R [[U.b false]] else ([Ct.str, Ct.bool, Ct.sl true [Ct.int IntKind.i64, Ct.int IntKind.i64]] = [Ct.str, Ct.bool, Ct.sl true
  [Ct.int IntKind.i64, Ct.int IntKind.i64]] ∧ [Ct.str, Ct.bool, Ct.sl true [Ct.int IntKind.i64, Ct.int IntKind.i64]] = [Ct.str, Ct.bool, Ct.sl true [Ct.int IntKind.i64, Ct.int IntKind.i64]] ∧ List.length
  (U.list a) = List.length (U.list b) ∧ (0 : Int) ≤ (0 : Int) ∧ (0 : Int) ≤ (↑(List.length (U.list a)) : Int)) ∧ bif mapsE (List.drop (Int.toNat (0 : Int)) (U.list a)) (List.drop (Int.toNat (0 : Int)) (U.list
  b)) then R [[U.b true]] else R [[U.b false]]) := by kernel_rfl
noncomputable def tabELoop2 : LoopF := fun _ svs os k => match svs, os with
  | [.val (.int .i64) j, .val (.int .i64) i, .ptr p o, .ptr p' o'], [.box [.val (.sl false [.sl true ca]) a], .box [.val (.sl false [.sl true cb]) b]] =>
    (p = 256 ∧ o = 0 ∧ p' = 384 ∧ o' = 0 ∧ ca = EC ∧ cb = EC ∧ 0 ≤ i.int ∧ i.int < a.list.length ∧ i.int < b.list.length ∧ (U.at a.list i.int.toNat).list.length = (U.at b.list i.int.toNat).list.length ∧ 0 ≤ j.int ∧ j.int ≤ (U.at a.list i.int.toNat).list.length) ∧
    (bif entsE ((U.at a.list i.int.toNat).list.drop j.int.toNat) ((U.at b.list i.int.toNat).list.drop j.int.toNat) then k (.exit 2) ⟨[(5, vi i), (2, .ptr 256 0), (3, .ptr 384 0)], [(256, .box [vl (.sl true EC) a]), (384, .box [vl (.sl true EC) b])]⟩ else k .ret ⟨[(4, vb (.b false))], []⟩)
  | _, _ => False
noncomputable def tabELoop0 : LoopF := fun _ svs os k => match svs, os with
  | [.val (.int .i64) i, .ptr p o, .ptr p' o'], [.box [.val (.sl false [.sl true ca]) a], .box [.val (.sl false [.sl true cb]) b]] =>
    (p = 256 ∧ o = 0 ∧ p' = 384 ∧ o' = 0 ∧ ca = EC ∧ cb = EC ∧ a.list.length = b.list.length ∧ 0 ≤ i.int ∧ i.int ≤ a.list.length) ∧
    (bif tabE (a.list.drop i.int.toNat) (b.list.drop i.int.toNat) then k (.exit 0) ⟨[(4, .unk)], []⟩ else k .ret ⟨[(4, vb (.b false))], []⟩)
  | _, _ => False
noncomputable def tabEC : Ctx := mkC PR eqs1 fnsNil trsNil (loopCons 2 [6, 5, 2, 3] [256, 384] tabELoop2 (loopCons 0 [5, 2, 3] [256, 384] tabELoop0 noLoops)) (outCons 2 [5, 2, 3] [256, 384] (outCons 0 [4] [] (outCons 1048578 [4] [] noOut))) noOut
theorem tabE_round2 (pan : KP) (μ : Mu) (N : Nat) (k : KE) (j i a b : U) : (exec (tabEC.panics pan) (loopBody Try.f36 1) 2 ⟨[(6, vi j), (5, vi i), (2, .ptr 256 0), (3, .ptr 384 0)], [(256, .box [vl (.sl true EC) a]), (384, .box [vl (.sl true EC) b])]⟩ (again PR (some ([5, 2, 3], [256, 384])) (some ([4], [])) pan [6, 5, 2, 3] [256, 384] tabELoop2 μ N k)) = (bif decide ((0 : Int) ≤ U.int i ∧ U.int i < (↑(List.length (U.list a)) : Int)) then bif decide (U.int j < (↑(List.length (U.list (nth (U.i (0 : Int)) (U.list a) (Int.toNat (U.int i))))) : Int)) then bif
  decide ((0 : Int) ≤ U.int i ∧ U.int i < (↑(List.length (U.list a)) : Int)) then bif decide ((0 : Int) ≤ U.int j ∧ U.int j < (↑(List.length (U.list (nth (U.i (0 : Int)) (U.list a) (Int.toNat (U.int i)))))
  : Int)) then bif decide ((0 : Int) ≤ U.int i ∧ U.int i < (↑(List.length (U.list b)) : Int)) then bif decide ((0 : Int) ≤ U.int j ∧ U.int j < (↑(List.length (U.list (nth (U.i (0 : Int)) (U.list b) (Int.toNat
  (U.int i))))) : Int)) then bif !(U.int (nth (U.i (0 : Int)) (U.list (nth (U.i (0 : Int)) (U.list (nth (U.i (0 : Int)) (U.list a) (Int.toNat (U.int i)))) (Int.toNat (U.int j)))) (0 : Nat)) == U.int (nth
  (U.i (0 : Int)) (U.list (nth (U.i (0 : Int)) (U.list (nth (U.i (0 : Int)) (U.list b) (Int.toNat (U.int i)))) (Int.toNat (U.int j)))) (0 : Nat)) && (U.int (nth (U.i (0 : Int)) (List.tail (U.list (nth (U.i
  (0 : Int)) (U.list (nth (U.i (0 : Int)) (U.list a) (Int.toNat (U.int i)))) (Int.toNat (U.int j))))) (0 : Nat)) == U.int (nth (U.i (0 : Int)) (List.tail (U.list (nth (U.i (0 : Int)) (U.list (nth (U.i (0
  : Int)) (U.list b) (Int.toNat (U.int i)))) (Int.toNat (U.int j))))) (0 : Nat)) && (U.int (nth (U.i (0 : Int)) (List.tail (List.tail (U.list (nth (U.i (0 : Int)) (U.list (nth (U.i (0 : Int)) (U.list a)
  (Int.toNat (U.int i)))) (Int.toNat (U.int j)))))) (0 : Nat)) == U.int (nth (U.i (0 : Int)) (List.tail (List.tail (U.list (nth (U.i (0 : Int)) (U.list (nth (U.i (0 : Int)) (U.list b) (Int.toNat (U.int i))))
  (Int.toNat (U.int j)))))) (0 : Nat)) && (U.int (nth (U.i (0 : Int)) (List.tail (List.tail (List.tail (U.list (nth (U.i (0 : Int)) (U.list (nth (U.i (0 : Int)) (U.list a) (Int.toNat (U.int i)))) (Int.toNat
  (U.int j))))))) (0 : Nat)) == U.int (nth (U.i (0 : Int)) (List.tail (List.tail (List.tail (U.list (nth (U.i (0 : Int)) (U.list (nth (U.i (0 : Int)) (U.list b) (Int.toNat (U.int i)))) (Int.toNat (U.int
  j))))))) (0 : Nat)) && (U.int (nth (U.i (0 : Int)) (List.tail (List.tail (List.tail (List.tail (U.list (nth (U.i (0 : Int)) (U.list (nth (U.i (0 : Int)) (U.list a) (Int.toNat (U.int i)))) (Int.toNat (U.int
  j)))))))) (0 : Nat)) == U.int (nth (U.i (0 : Int)) (List.tail (List.tail (List.tail (List.tail (U.list (nth (U.i (0 : Int)) (U.list (nth (U.i (0 : Int)) (U.list b) (Int.toNat (U.int i)))) (Int.toNat (U.int
  j)))))))) (0 : Nat)) && true))))) then k Ex.ret (St.mk [(nat_lit 4, SV.val Ct.bool (U.b false))] []) else bif Nat.blt (μ [SV.val (Ct.int IntKind.i64) (U.i (IntKind.wrap IntKind.i64 (U.int j + (1 : Int)))),
  SV.val (Ct.int IntKind.i64) i, SV.ptr (nat_lit 256) (nat_lit 0), SV.ptr (nat_lit 384) (nat_lit 0)] [Obj.box [SV.val (Ct.sl false [Ct.sl true [Ct.int IntKind.i64, Ct.int IntKind.i64, Ct.int IntKind.i64,
  Ct.int IntKind.i64, Ct.int IntKind.u32]]) a], Obj.box [SV.val (Ct.sl false [Ct.sl true [Ct.int IntKind.i64, Ct.int IntKind.i64, Ct.int IntKind.i64, Ct.int IntKind.i64, Ct.int IntKind.u32]]) b]]) N then
  (nat_lit 256 = nat_lit 256 ∧ nat_lit 0 = nat_lit 0 ∧ nat_lit 384 = nat_lit 384 ∧ nat_lit 0 = nat_lit 0 ∧ [Ct.int IntKind.i64, Ct.int IntKind.i64, Ct.int IntKind.i64, Ct.int IntKind.i64, Ct.int IntKind.u32]
  = [Ct.int IntKind.i64, Ct.int IntKind.i64, Ct.int IntKind.i64, Ct.int IntKind.i64, Ct.int IntKind.u32] ∧ [Ct.int IntKind.i64, Ct.int IntKind.i64, Ct.int IntKind.i64, Ct.int IntKind.i64, Ct.int IntKind.u32]
  = [Ct.int IntKind.i64, Ct.int IntKind.i64, Ct.int IntKind.i64, Ct.int IntKind.i64, Ct.int IntKind.u32] ∧ (0 : Int) ≤ U.int i ∧ U.int i < (↑(List.length (U.list a)) : Int) ∧ U.int i < (↑(List.length (U.list
  b)) : Int) ∧ List.length (U.list (nth (U.i (0 : Int)) (U.list a) (Int.toNat (U.int i)))) = List.length (U.list (nth (U.i (0 : Int)) (U.list b) (Int.toNat (U.int i)))) ∧ (0 : Int) ≤ IntKind.wrap IntKind.i64
  (U.int j + (1 : Int)) ∧ IntKind.wrap IntKind.i64 (U.int j + (1 : Int)) ≤ (↑(List.length (U.list (nth (U.i (0 : Int)) (U.list a) (Int.toNat (U.int i))))) : Int)) ∧ bif entsE (List.drop (Int.toNat (IntKind.wrap
  IntKind.i64 (U.int j + (1 : Int)))) (U.list (nth (U.i (0 : Int)) (U.list a) (Int.toNat (U.int i))))) (List.drop (Int.toNat (IntKind.wrap IntKind.i64 (U.int j + (1 : Int)))) (U.list (nth (U.i (0 : Int))
  (U.list b) (Int.toNat (U.int i))))) then k (Ex.exit (nat_lit 2)) (St.mk [(nat_lit 5, SV.val (Ct.int IntKind.i64) i), (nat_lit 2, SV.ptr (nat_lit 256) (nat_lit 0)), (nat_lit 3, SV.ptr (nat_lit 384) (nat_lit
  0))] [(nat_lit 256, Obj.box [SV.val (Ct.sl false [Ct.sl true [Ct.int IntKind.i64, Ct.int IntKind.i64, Ct.int IntKind.i64, Ct.int IntKind.i64, Ct.int IntKind.u32]]) a]), (nat_lit 384, Obj.box [SV.val (Ct.sl
  false [Ct.sl true [Ct.int IntKind.i64, Ct.int IntKind.i64, Ct.int IntKind.i64, Ct.int IntKind.i64, Ct.int IntKind.u32]]) b])]) else k Ex.ret (St.mk [(nat_lit 4, SV.val Ct.bool (U.b false))] []) else False
  else False else False else False else False else k (Ex.exit (nat_lit 2)) (St.mk [(nat_lit 5, SV.val (Ct.int IntKind.i64) i), (nat_lit 2, SV.ptr (nat_lit 256) (nat_lit 0)), (nat_lit 3, SV.ptr (nat_lit 384)
  (nat_lit 0))] [(nat_lit 256, Obj.box [SV.val (Ct.sl false [Ct.sl true [Ct.int IntKind.i64, Ct.int IntKind.i64, Ct.int IntKind.i64, Ct.int IntKind.i64, Ct.int IntKind.u32]]) a]), (nat_lit 384, Obj.box [SV.val
  (Ct.sl false [Ct.sl true [Ct.int IntKind.i64, Ct.int IntKind.i64, Ct.int IntKind.i64, Ct.int IntKind.i64, Ct.int IntKind.u32]]) b])]) else False) := by kernel_rfl
theorem tabE_round0 (pan : KP) (μ : Mu) (N : Nat) (k : KE) (i a b : U) : (exec (tabEC.panics pan) (loopBody Try.f36 0) 0 ⟨[(5, vi i), (2, .ptr 256 0), (3, .ptr 384 0)], [(256, .box [vl (.sl true EC) a]), (384, .box [vl (.sl true EC) b])]⟩ (again PR (some ([4], [])) none pan [5, 2, 3] [256, 384] tabELoop0 μ N k)) = (bif decide (U.int i < (↑(List.length (U.list a)) : Int)) then bif decide ((0 : Int) ≤ U.int i ∧ U.int i < (↑(List.length (U.list a)) : Int)) then bif decide ((0 : Int) ≤ U.int i ∧ U.int i < (↑(List.length
  (U.list b)) : Int)) then bif (↑(List.length (U.list (nth (U.i (0 : Int)) (U.list a) (Int.toNat (U.int i))))) : Int) != (↑(List.length (U.list (nth (U.i (0 : Int)) (U.list b) (Int.toNat (U.int i))))) :
  Int) then k Ex.ret (St.mk [(nat_lit 4, SV.val Ct.bool (U.b false))] []) else (nat_lit 256 = nat_lit 256 ∧ nat_lit 0 = nat_lit 0 ∧ nat_lit 384 = nat_lit 384 ∧ nat_lit 0 = nat_lit 0 ∧ [Ct.int IntKind.i64,
  Ct.int IntKind.i64, Ct.int IntKind.i64, Ct.int IntKind.i64, Ct.int IntKind.u32] = [Ct.int IntKind.i64, Ct.int IntKind.i64, Ct.int IntKind.i64, Ct.int IntKind.i64, Ct.int IntKind.u32] ∧ [Ct.int IntKind.i64,
  Ct.int IntKind.i64, Ct.int IntKind.i64, Ct.int IntKind.i64, Ct.int IntKind.u32] = [Ct.int IntKind.i64, Ct.int IntKind.i64, Ct.int IntKind.i64, Ct.int IntKind.i64, Ct.int IntKind.u32] ∧ (0 : Int) ≤ U.int
  i ∧ U.int i < (↑(List.length (U.list a)) : Int) ∧ U.int i < (↑(List.length (U.list b)) : Int) ∧ List.length (U.list (nth (U.i (0 : Int)) (U.list a) (Int.toNat (U.int i)))) = List.length (U.list (nth (U.i
  (0 : Int)) (U.list b) (Int.toNat (U.int i)))) ∧ (0 : Int) ≤ (0 : Int) ∧ (0 : Int) ≤ (↑(List.length (U.list (nth (U.i (0 : Int)) (U.list a) (Int.toNat (U.int i))))) : Int)) ∧ bif entsE (List.drop (Int.toNat
  (0 : Int)) (U.list (nth (U.i (0 : Int)) (U.list a) (Int.toNat (U.int i))))) (List.drop (Int.toNat (0 : Int)) (U.list (nth (U.i (0 : Int)) (U.list b) (Int.toNat (U.int i))))) then bif Nat.blt (μ [SV.val
  (Ct.int IntKind.i64) (U.i (IntKind.wrap IntKind.i64 (U.int i + (1 : Int)))), SV.ptr (nat_lit 256) (nat_lit 0), SV.ptr (nat_lit 384) (nat_lit 0)] [Obj.box [SV.val (Ct.sl false [Ct.sl true [Ct.int IntKind.i64,
  Ct.int IntKind.i64, Ct.int IntKind.i64, Ct.int IntKind.i64, Ct.int IntKind.u32]]) a], Obj.box [SV.val (Ct.sl false [Ct.sl true [Ct.int IntKind.i64, Ct.int IntKind.i64, Ct.int IntKind.i64, Ct.int IntKind.i64,
  Ct.int IntKind.u32]]) b]]) N then (nat_lit 256 = nat_lit 256 ∧ nat_lit 0 = nat_lit 0 ∧ nat_lit 384 = nat_lit 384 ∧ nat_lit 0 = nat_lit 0 ∧ [Ct.int IntKind.i64, Ct.int IntKind.i64, Ct.int IntKind.i64, Ct.int
  IntKind.i64, Ct.int IntKind.u32] = [Ct.int IntKind.i64, Ct.int IntKind.i64, Ct.int IntKind.i64, Ct.int IntKind.i64, Ct.int IntKind.u32] ∧ [Ct.int IntKind.i64, Ct.int IntKind.i64, Ct.int IntKind.i64, Ct.int
  IntKind.i64, Ct.int IntKind.u32] = [Ct.int IntKind.i64, Ct.int IntKind.i64, Ct.int IntKind.i64, Ct.int IntKind.i64, Ct.int IntKind.u32] ∧ List.length (U.list a) = List.length (U.list b) ∧ (0 : Int) ≤ IntKind.wrap
  IntKind.i64 (U.int i + (1 : Int)) ∧ IntKind.wrap IntKind.i64 (U.int i + (1 : Int)) ≤ (↑(List.length (U.list a)) : Int)) ∧ bif tabE (List.drop (Int.toNat (IntKind.wrap IntKind.i64 (U.int i + (1 : Int))))
  (U.list a)) (List.drop (Int.toNat (IntKind.wrap IntKind.i64 (U.int i + (1 : Int)))) (U.list b)) then k (Ex.exit (nat_lit 0)) (St.mk [(nat_lit 4, SV.unk)] []) else k Ex.ret (St.mk [(nat_lit 4, SV.val Ct.bool
  (U.b false))] []) else False else k Ex.ret (St.mk [(nat_lit 4, SV.val Ct.bool (U.b false))] []) else False else False else k (Ex.exit (nat_lit 0)) (St.mk [(nat_lit 4, SV.unk)] [])) := by kernel_rfl
theorem tabE_tree (R : RF) (a b : U) : (run tabEC Try.f36 [[a], [b]] R) = (bif (↑(List.length (U.list a)) : Int) != (↑(List.length (U.list b)) : Int) then R [[U.b false]] else (nat_lit 256 = nat_lit 256 ∧ nat_lit 0 = nat_lit 0 ∧ nat_lit 384 = nat_lit 384 ∧ nat_lit 0 = nat_lit
  0 ∧ [Ct.int IntKind.i64, Ct.int IntKind.i64, Ct.int IntKind.i64, Ct.int IntKind.i64, Ct.int IntKind.u32] = [Ct.int IntKind.i64, Ct.int IntKind.i64, Ct.int IntKind.i64, Ct.int IntKind.i64, Ct.int IntKind.u32]
  ∧ [Ct.int IntKind.i64, Ct.int IntKind.i64, Ct.int IntKind.i64, Ct.int IntKind.i64, Ct.int IntKind.u32] = [Ct.int IntKind.i64, Ct.int IntKind.i64, Ct.int IntKind.i64, Ct.int IntKind.i64, Ct.int IntKind.u32]
  ∧ List.length (U.list a) = List.length (U.list b) ∧ (0 : Int) ≤ (0 : Int) ∧ (0 : Int) ≤ (↑(List.length (U.list a)) : Int)) ∧ bif tabE (List.drop (Int.toNat (0 : Int)) (U.list a)) (List.drop (Int.toNat
  (0 : Int)) (U.list b)) then R [[U.b true]] else R [[U.b false]]) := by kernel_rfl
end Go.Mat

namespace Go.Mat
open Go Go.Den Go.Proofs
theorem eqs1_ok : ∀ t ks, eqs1 t = some ks → EqOk PR t ks := by
  intro t ks h
  unfold eqs1 at h
  cases hb : Nat.beq t 72 with
  | true =>
    rw [hb] at h
    have := Nat.eq_of_beq_eq_true hb
    subst this
    injection h with h
    subst h
    exact eq_ok (by kernel_rfl)
  | false => rw [hb] at h; exact eqs0_ok t ks h
theorem intsE_len : ∀ {a b : List U}, intsE a b = true → a.length = b.length
  | [], [], _ => rfl
  | [], _ :: _, h => by cases h
  | _ :: _, [], h => by cases h
  | x :: r, y :: s, h => by
    rw [intsE, Bool.and_eq_true] at h
    rw [List.length_cons, List.length_cons, intsE_len h.2]
theorem intsE_ne {a b : List U} (h : a.length ≠ b.length) : intsE a b = false := Bool.eq_false_iff.2 fun h' => h (intsE_len h')
theorem spansE_len : ∀ {a b : List U}, spansE a b = true → a.length = b.length
  | [], [], _ => rfl
  | [], _ :: _, h => by cases h
  | _ :: _, [], h => by cases h
  | x :: r, y :: s, h => by
    rw [spansE, Bool.and_eq_true] at h
    rw [List.length_cons, List.length_cons, spansE_len h.2]
theorem spansE_ne {a b : List U} (h : a.length ≠ b.length) : spansE a b = false := Bool.eq_false_iff.2 fun h' => h (spansE_len h')
theorem mapsE_len : ∀ {a b : List U}, mapsE a b = true → a.length = b.length
  | [], [], _ => rfl
  | [], _ :: _, h => by cases h
  | _ :: _, [], h => by cases h
  | x :: r, y :: s, h => by
    rw [mapsE, Bool.and_eq_true] at h
    rw [List.length_cons, List.length_cons, mapsE_len h.2]
theorem mapsE_ne {a b : List U} (h : a.length ≠ b.length) : mapsE a b = false := Bool.eq_false_iff.2 fun h' => h (mapsE_len h')
theorem tabE_len : ∀ {a b : List U}, tabE a b = true → a.length = b.length
  | [], [], _ => rfl
  | [], _ :: _, h => by cases h
  | _ :: _, [], h => by cases h
  | x :: r, y :: s, h => by
    rw [tabE, Bool.and_eq_true] at h
    rw [List.length_cons, List.length_cons, tabE_len h.2]
theorem tabE_ne {a b : List U} (h : a.length ≠ b.length) : tabE a b = false := Bool.eq_false_iff.2 fun h' => h (tabE_len h')
theorem entsE_len : ∀ {a b : List U}, entsE a b = true → a.length = b.length
  | [], [], _ => rfl
  | [], _ :: _, h => by cases h
  | _ :: _, [], h => by cases h
  | x :: r, y :: s, h => by
    rw [entsE, Bool.and_eq_true] at h
    rw [List.length_cons, List.length_cons, entsE_len h.2]
theorem entsE_ne {a b : List U} (h : a.length ≠ b.length) : entsE a b = false := Bool.eq_false_iff.2 fun h' => h (entsE_len h')
theorem ints_loop : LoopOk intsC 0 (loopBody Try.f38 0) := by
  refine loopOk_of (F := intsLoop) (ts := [5, 0, 1]) (os := []) rfl (fun svs _ => match svs with | .val _ i :: .val _ a :: _ => ((a.list.length : Int) - i.int).toNat | _ => 0) ?_
  intro pan svs os k ho1 ho2 h
  unfold intsLoop at h
  split at h
  · rename_i i a b
    obtain ⟨⟨hl, h0, hi⟩, hk⟩ := h
    have hL : a.list.length ≤ maxLen := ho1.2.1.1
    unfold maxLen at hL
    refine .eq (ints_round pan _ _ k i a b) ?_
    refine bd (fun hlt => dt ⟨h0, by omega⟩ (dt ⟨h0, by omega⟩ ?_)) (fun hlt => ?_)
    · rw [drop_at (by omega), drop_at (L := b.list) (by omega), intsE] at hk
      simp only [U.at] at hk
      have hw : IntKind.wrap .i64 (i.int + 1) = i.int + 1 := i64_in (by omega) (by omega)
      have hc : (i.int + 1).toNat = i.int.toNat + 1 := by omega
      have hlt' : ((a.list.length : Int) - (i.int + 1)).toNat < ((a.list.length : Int) - i.int).toNat := by omega
      simp only [nth_tail, nth_drop, Nat.zero_add, Nat.add_zero, Nat.reduceAdd, hw, hc]
      refine bi (fun h1 => ?_) (fun h1 => ?_)
      · rw [nt h1, Bool.false_and] at hk; exact hk
      · rw [nf h1, Bool.true_and] at hk
        exact blt hlt' ⟨⟨hl, by omega, by omega⟩, hk⟩
    · rw [List.drop_of_length_le (by omega), List.drop_of_length_le (by omega), intsE] at hk
      exact hk
  · exact h.elim
theorem sps_loop : LoopOk spsC 0 (loopBody Try.f56 0) := by
  refine loopOk_of (F := spsLoop) (ts := [5, 0, 1]) (os := []) rfl (fun svs _ => match svs with | .val _ i :: .val _ a :: _ => ((a.list.length : Int) - i.int).toNat | _ => 0) ?_
  intro pan svs os k ho1 ho2 h
  unfold spsLoop at h
  split at h
  · rename_i i ca a cb b
    obtain ⟨⟨rfl, rfl, hl, h0, hi⟩, hk⟩ := h
    have hL : a.list.length ≤ maxLen := ho1.2.1.1
    unfold maxLen at hL
    refine .eq (sps_round pan _ _ k i a b) ?_
    refine bd (fun hlt => dt ⟨h0, by omega⟩ (dt ⟨h0, by omega⟩ ?_)) (fun hlt => ?_)
    · rw [drop_at (by omega), drop_at (L := b.list) (by omega), spansE] at hk
      simp only [U.at, spanE, e0, e1] at hk
      have hw : IntKind.wrap .i64 (i.int + 1) = i.int + 1 := i64_in (by omega) (by omega)
      have hc : (i.int + 1).toNat = i.int.toNat + 1 := by omega
      have hlt' : ((a.list.length : Int) - (i.int + 1)).toNat < ((a.list.length : Int) - i.int).toNat := by omega
      simp only [nth_tail, nth_drop, Nat.zero_add, Nat.add_zero, Nat.reduceAdd, hw, hc]
      refine bi (fun h1 => ?_) (fun h1 => ?_)
      · rw [nt h1, Bool.false_and] at hk; exact hk
      · rw [nf h1, Bool.true_and] at hk
        exact blt hlt' ⟨⟨by trivial, by trivial, hl, by omega, by omega⟩, hk⟩
    · rw [List.drop_of_length_le (by omega), List.drop_of_length_le (by omega), spansE] at hk
      exact hk
  · exact h.elim
theorem mps_loop : LoopOk mpsC 0 (loopBody Try.f37 0) := by
  refine loopOk_of (F := mpsLoop) (ts := [5, 0, 1]) (os := []) rfl (fun svs _ => match svs with | .val _ i :: .val _ a :: _ => ((a.list.length : Int) - i.int).toNat | _ => 0) ?_
  intro pan svs os k ho1 ho2 h
  unfold mpsLoop at h
  split at h
  · rename_i i ca a cb b
    obtain ⟨⟨rfl, rfl, hl, h0, hi⟩, hk⟩ := h
    have hL : a.list.length ≤ maxLen := ho1.2.1.1
    unfold maxLen at hL
    refine .eq (mps_round pan _ _ k i a b) ?_
    refine bd (fun hlt => dt ⟨h0, by omega⟩ (dt ⟨h0, by omega⟩ ?_)) (fun hlt => ?_)
    · rw [drop_at (by omega), drop_at (L := b.list) (by omega), mapsE] at hk
      simp only [U.at, mapE, e0, e1, e2] at hk
      have hw : IntKind.wrap .i64 (i.int + 1) = i.int + 1 := i64_in (by omega) (by omega)
      have hc : (i.int + 1).toNat = i.int.toNat + 1 := by omega
      have hlt' : ((a.list.length : Int) - (i.int + 1)).toNat < ((a.list.length : Int) - i.int).toNat := by omega
      simp only [nth_tail, nth_drop, Nat.zero_add, Nat.add_zero, Nat.reduceAdd, hw, hc]
      refine bi (fun h1 => ?_) (fun h1 => dt ⟨h0, by omega⟩ (dt ⟨h0, by omega⟩ (bi (fun h2 => ?_) (fun h2 => dt ⟨h0, by omega⟩ (dt ⟨h0, by omega⟩ (bi (fun h3 => ?_) (fun h3 => ?_)))))))
      · rw [nt h1, Bool.false_and, Bool.false_and, Bool.false_and] at hk; exact hk
      · rw [nf h1, nt h2, Bool.true_and, Bool.false_and, Bool.false_and] at hk; exact hk
      · rw [nf h1, nf h2, nt h3, Bool.true_and, Bool.true_and, Bool.false_and] at hk; exact hk
      · rw [nf h1, nf h2, nf h3, Bool.true_and, Bool.true_and, Bool.true_and] at hk
        exact blt hlt' ⟨⟨by trivial, by trivial, hl, by omega, by omega⟩, hk⟩
    · rw [List.drop_of_length_le (by omega), List.drop_of_length_le (by omega), mapsE] at hk
      exact hk
  · exact h.elim
theorem ints_ok : SpecF PR 38 (lists2 intsE) := fun fn us hfn => by
  have hf : PR.funcs[(38 : Nat)]? = some Try.f38 := by kernel_rfl
  rw [hf] at hfn; cases hfn
  refine fn_okH (C := intsC) (mkC_ok eqs1_ok mixed_ok .nil .nil) hf (by kernel_rfl) (loops_one (by kernel_rfl) ints_loop) fun hok => ?_
  have hp : Try.f38.params.toList = [27, 27] := by kernel_rfl
  rw [hp] at hok
  obtain ⟨a, b, hus⟩ : ∃ a b, us = [[a], [b]] := by
    obtain ⟨u, u2, rfl, h1, h2⟩ := shape2 (by kernel_rfl : Cs PR 27 = some (false, [.sl false [.int .i64]])) (by kernel_rfl : Cs PR 27 = some (false, [.sl false [.int .i64]])) hok.1
    obtain ⟨a, rfl⟩ := len1 h1
    obtain ⟨b, rfl⟩ := len1 h2
    exact ⟨a, b, rfl⟩
  subst hus
  refine .eq (ints_tree _ a b) ?_
  unfold lists2
  simp only [nth_zero, nth_succ, Int.toNat_zero, List.drop_zero]
  refine bi (fun h => ?_) (fun h => ⟨⟨?_, by omega, by omega⟩, bi (fun h1 => by rw [h1]) (fun h1 => by rw [h1])⟩)
  · have h := nt h
    rw [intsE_ne (by intro h2; rw [h2] at h; simp at h)]
  · have h := nf h
    simp only [beq_iff_eq] at h
    omega
theorem sps_ok : SpecF PR 56 (lists2 spansE) := fun fn us hfn => by
  have hf : PR.funcs[(56 : Nat)]? = some Try.f56 := by kernel_rfl
  rw [hf] at hfn; cases hfn
  refine fn_okH (C := spsC) (mkC_ok eqs1_ok mixed_ok .nil .nil) hf (by kernel_rfl) (loops_one (by kernel_rfl) sps_loop) fun hok => ?_
  have hp : Try.f56.params.toList = [42, 42] := by kernel_rfl
  rw [hp] at hok
  obtain ⟨a, b, hus⟩ : ∃ a b, us = [[a], [b]] := by
    obtain ⟨u, u2, rfl, h1, h2⟩ := shape2 (by kernel_rfl : Cs PR 42 = some (false, [.sl true [.int .i64, .int .i64]])) (by kernel_rfl : Cs PR 42 = some (false, [.sl true [.int .i64, .int .i64]])) hok.1
    obtain ⟨a, rfl⟩ := len1 h1
    obtain ⟨b, rfl⟩ := len1 h2
    exact ⟨a, b, rfl⟩
  subst hus
  refine .eq (sps_tree _ a b) ?_
  unfold lists2
  simp only [nth_zero, nth_succ, Int.toNat_zero, List.drop_zero]
  refine bi (fun h => ?_) (fun h => ⟨⟨by trivial, by trivial, ?_, by omega, by omega⟩, bi (fun h1 => by rw [h1]) (fun h1 => by rw [h1])⟩)
  · have h := nt h
    rw [spansE_ne (by intro h2; rw [h2] at h; simp at h)]
  · have h := nf h
    simp only [beq_iff_eq] at h
    omega
theorem mps_ok : SpecF PR 37 (lists2 mapsE) := fun fn us hfn => by
  have hf : PR.funcs[(37 : Nat)]? = some Try.f37 := by kernel_rfl
  rw [hf] at hfn; cases hfn
  refine fn_okH (C := mpsC) (mkC_ok eqs1_ok mixed_ok (.cons sps_ok .nil) .nil) hf (by kernel_rfl) (loops_one (by kernel_rfl) mps_loop) fun hok => ?_
  have hp : Try.f37.params.toList = [26, 26] := by kernel_rfl
  rw [hp] at hok
  obtain ⟨a, b, hus⟩ : ∃ a b, us = [[a], [b]] := by
    obtain ⟨u, u2, rfl, h1, h2⟩ := shape2 (by kernel_rfl : Cs PR 26 = some (false, [.sl true BC])) (by kernel_rfl : Cs PR 26 = some (false, [.sl true BC])) hok.1
    obtain ⟨a, rfl⟩ := len1 h1
    obtain ⟨b, rfl⟩ := len1 h2
    exact ⟨a, b, rfl⟩
  subst hus
  refine .eq (mps_tree _ a b) ?_
  unfold lists2
  simp only [nth_zero, nth_succ, Int.toNat_zero, List.drop_zero]
  refine bi (fun h => ?_) (fun h => ⟨⟨by trivial, by trivial, ?_, by omega, by omega⟩, bi (fun h1 => by rw [h1]) (fun h1 => by rw [h1])⟩)
  · have h := nt h
    rw [mapsE_ne (by intro h2; rw [h2] at h; simp at h)]
  · have h := nf h
    simp only [beq_iff_eq] at h
    omega
theorem tabE_loop2 : LoopOk tabEC 2 (loopBody Try.f36 1) := by
  refine loopOk_of (F := tabELoop2) (ts := [6, 5, 2, 3]) (os := [256, 384]) rfl (fun svs os => match svs, os with | .val _ j :: .val _ i :: _, .box [.val _ a] :: _ => (((U.at a.list i.int.toNat).list.length : Int) - j.int).toNat | _, _ => 0) ?_
  intro pan svs os k ho1 ho2 h
  unfold tabELoop2 at h
  split at h
  · rename_i j i p o p' o' ca a cb b
    obtain ⟨⟨rfl, rfl, rfl, rfl, rfl, rfl, hi0, hia, hib, hl, h0, hj⟩, hk⟩ := h
    have ha : okC (.sl false [.sl true EC]) a := ho2.1.1
    have hL : (U.at a.list i.int.toNat).list.length ≤ maxLen := by
      have h1 := (ha.2 i.int.toNat (by omega)).1
      exact h1.1
    unfold maxLen at hL
    refine .eq (tabE_round2 pan _ _ k j i a b) ?_
    simp only [U.at] at hl hj hL hk
    refine dt ⟨hi0, hia⟩ (bd (fun hlt => dt ⟨hi0, hia⟩ (dt ⟨h0, hlt⟩ (dt ⟨hi0, hib⟩ (dt ⟨h0, by omega⟩ ?_)))) (fun hlt => ?_))
    · rw [drop_at (by omega), drop_at (L := (nth (U.i 0) b.list i.int.toNat).list) (by omega), entsE] at hk
      simp only [U.at, entE, e0, e1, e2, e3, e4] at hk
      have hw : IntKind.wrap .i64 (j.int + 1) = j.int + 1 := i64_in (by omega) (by omega)
      have hc : (j.int + 1).toNat = j.int.toNat + 1 := by omega
      have hlt' : (((nth (U.i 0) a.list i.int.toNat).list.length : Int) - (j.int + 1)).toNat < (((nth (U.i 0) a.list i.int.toNat).list.length : Int) - j.int).toNat := by omega
      simp only [nth_tail, nth_drop, Nat.zero_add, Nat.add_zero, Nat.reduceAdd, hw, hc]
      refine bi (fun h1 => ?_) (fun h1 => ?_)
      · rw [nt h1, Bool.false_and] at hk; exact hk
      · rw [nf h1, Bool.true_and] at hk
        exact blt hlt' ⟨⟨by trivial, by trivial, by trivial, by trivial, by trivial, by trivial, hi0, hia, hib, hl, by omega, by omega⟩, hk⟩
    · rw [List.drop_of_length_le (by omega), List.drop_of_length_le (by omega), entsE] at hk
      exact hk
  · exact h.elim
theorem tabE_loop0 : LoopOk tabEC 0 (loopBody Try.f36 0) := by
  refine loopOk_of (F := tabELoop0) (ts := [5, 2, 3]) (os := [256, 384]) rfl (fun svs os => match svs, os with | .val _ i :: _, .box [.val _ a] :: _ => ((a.list.length : Int) - i.int).toNat | _, _ => 0) ?_
  intro pan svs os k ho1 ho2 h
  unfold tabELoop0 at h
  split at h
  · rename_i i p o p' o' ca a cb b
    obtain ⟨⟨rfl, rfl, rfl, rfl, rfl, rfl, hl, h0, hi⟩, hk⟩ := h
    have hL : a.list.length ≤ maxLen := ho2.1.1.1
    unfold maxLen at hL
    refine .eq (tabE_round0 pan _ _ k i a b) ?_
    refine bd (fun hlt => dt ⟨h0, by omega⟩ (dt ⟨h0, by omega⟩ ?_)) (fun hlt => ?_)
    · rw [drop_at (by omega), drop_at (L := b.list) (by omega), tabE] at hk
      simp only [U.at] at hk
      have hw : IntKind.wrap .i64 (i.int + 1) = i.int + 1 := i64_in (by omega) (by omega)
      have hc : (i.int + 1).toNat = i.int.toNat + 1 := by omega
      have hlt' : ((a.list.length : Int) - (i.int + 1)).toNat < ((a.list.length : Int) - i.int).toNat := by omega
      simp only [hw, hc, Int.toNat_zero, List.drop_zero]
      refine bi (fun h1 => ?_) (fun h1 => ?_)
      · have h1 := nt h1
        rw [entsE_ne (by intro h2; rw [h2] at h1; simp at h1), Bool.false_and] at hk
        exact hk
      · have h1 := nf h1
        simp only [beq_iff_eq] at h1
        refine ⟨⟨by trivial, by trivial, by trivial, by trivial, by trivial, by trivial, h0, by omega, by omega, by omega, by omega, by omega⟩, bi (fun h2 => ?_) (fun h2 => ?_)⟩
        · rw [h2, Bool.true_and] at hk
          exact blt hlt' ⟨⟨by trivial, by trivial, by trivial, by trivial, by trivial, by trivial, hl, by omega, by omega⟩, hk⟩
        · rw [h2, Bool.false_and] at hk
          exact hk
    · rw [List.drop_of_length_le (by omega), List.drop_of_length_le (by omega), tabE] at hk
      exact hk
  · exact h.elim
theorem tabE_ok : SpecF PR 36 (lists2 tabE) := fun fn us hfn => by
  have hf : PR.funcs[(36 : Nat)]? = some Try.f36 := by kernel_rfl
  rw [hf] at hfn; cases hfn
  refine fn_okH (C := tabEC) (mkC_ok eqs1_ok mixed_ok .nil .nil) hf (by kernel_rfl) (loops_two (by kernel_rfl) tabE_loop0 tabE_loop2) fun hok => ?_
  have hp : Try.f36.params.toList = [24, 24] := by kernel_rfl
  rw [hp] at hok
  obtain ⟨a, b, hus⟩ : ∃ a b, us = [[a], [b]] := by
    obtain ⟨u, u2, rfl, h1, h2⟩ := shape2 (by kernel_rfl : Cs PR 24 = some (true, [.sl false [.sl true [.int .i64, .int .i64, .int .i64, .int .i64, .int .u32]]])) (by kernel_rfl : Cs PR 24 = some (true, [.sl false [.sl true [.int .i64, .int .i64, .int .i64, .int .i64, .int .u32]]])) hok.1
    obtain ⟨a, rfl⟩ := len1 h1
    obtain ⟨b, rfl⟩ := len1 h2
    exact ⟨a, b, rfl⟩
  subst hus
  refine .eq (tabE_tree _ a b) ?_
  unfold lists2
  simp only [nth_zero, nth_succ, Int.toNat_zero, List.drop_zero]
  refine bi (fun h => ?_) (fun h => ⟨⟨by trivial, by trivial, by trivial, by trivial, by trivial, by trivial, ?_, by omega, by omega⟩, bi (fun h1 => by rw [h1]) (fun h1 => by rw [h1])⟩)
  · have h := nt h
    rw [tabE_ne (by intro h2; rw [h2] at h; simp at h)]
  · have h := nf h
    simp only [beq_iff_eq] at h
    omega
end Go.Mat
