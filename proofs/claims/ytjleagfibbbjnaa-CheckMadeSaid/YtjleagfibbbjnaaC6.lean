/- A part of the proof of this: the law CheckMade. Conditions: none. Joined of F66. -/
import Derived.Test.YtjleagfibbbjnaaC5
namespace Go.Mat
open Go Go.Den Go.Proofs
set_option maxRecDepth 100000
theorem awake15_ok : SpecF PR 9 tS15 := fun fn us hfn => by
  have hf : PR.funcs[(9 : Nat)]? = some Try.f9 := by kernel_rfl
  rw [hf] at hfn; cases hfn
  cases us with
  | nil => exact fnOk_true (tb := 4) (by kernel_rfl) (by kernel_rfl) (by kernel_rfl) (by kernel_rfl) (by kernel_rfl) (fun w => AM.go_true AM.W15tb mixed_ok (vs := []) (X := fun _ => .bool true) (fun _ => rfl) trivial AM.awrun w)
  | cons u r =>
    have hp : Try.f9.params.toList = [] := by kernel_rfl
    exact { body := by kernel_rfl, name := by kernel_rfl, calls := fun w Z vs hZ hx ⟨svs, h1, h2⟩ => by rw [hp] at h1; cases h1 }
theorem num15_ok : SpecF PR 12 nS15 := fun fn us hfn => by
  have hf : PR.funcs[(12 : Nat)]? = some Try.f12 := by kernel_rfl
  rw [hf] at hfn; cases hfn
  refine fn_okH (C := K0) (mkC_ok eqs0_ok mixed_ok .nil .nil) hf (by kernel_rfl) (loops_none (by kernel_rfl)) fun hok => ?_
  have hp : Try.f12.params.toList = [27] := by kernel_rfl
  rw [hp] at hok
  obtain ⟨u, rfl, h1⟩ := shape1 (by kernel_rfl : Cs PR 27 = some (false, [.int .i64])) hok.1
  obtain ⟨n, rfl⟩ := len1 h1
  exact .eq (num_tree _ n) rfl
theorem overU_length (xs : List U) (j : Nat) (ys : List U) (h : j ≤ xs.length) : (overU xs j ys).length = xs.length := by
  unfold overU
  rw [List.length_append, List.length_append, List.length_drop, List.length_take, List.length_take]
  omega
theorem over_step : ∀ {xs b : List U} {i : Nat}, i < xs.length → i < b.length → overU (xs.set i (U.at b i)) (i + 1) (b.drop (i + 1)) = overU xs i (b.drop i) := by
  intro xs b i h1 h2
  rw [drop_at h2]
  unfold overU
  rw [List.length_set, show xs.length - i = (xs.length - (i + 1)) + 1 by omega, List.take_succ_cons, List.length_cons]
  rw [List.take_succ_eq_append_getElem (by rw [List.length_set]; exact h1), List.getElem_set_self, List.take_set_of_le (Nat.le_refl i), List.append_assoc, List.append_assoc]
  rw [List.drop_set_of_lt (by omega)]
  rw [show i + ((List.take (xs.length - (i + 1)) (b.drop (i + 1))).length + 1) = i + 1 + (List.take (xs.length - (i + 1)) (b.drop (i + 1))).length by omega]
  simp
theorem over_end : ∀ {xs : List U} {i : Nat} {ys : List U}, i ≤ xs.length → (ys = [] ∨ i = xs.length) → overU xs i ys = xs := by
  intro xs i ys h1 h2
  unfold overU
  rcases h2 with rfl | rfl
  · simp
  · simp
theorem lcm_loop : LoopOk lcmC 0 (loopBody Try.f5 0) := by
  refine loopOk_of (F := lcmLoop) (ts := [13, 10, 12, 0, 9, 11, 3]) (os := [4350]) rfl (fun svs _ => match svs with | .val _ i :: .val _ n :: _ => (n.int - i.int).toNat | _ => 0) ?_
  intro pan svs os k ho1 ho2 h
  unfold lcmLoop at h
  split at h
  · rename_i i n o b c s x e xs
    obtain ⟨⟨rfl, rfl, rfl, h0, hi, hx⟩, hk⟩ := h
    refine .eq (lcm_round pan _ _ k i b c s x xs) ?_
    refine bd (fun hlt => bd (fun hlb => dt ⟨h0, hlb⟩ (dt ⟨h0, hlt⟩ (blt (by omega) ?_))) (fun hlb => ?_)) (fun hlt => ?_)
    · rw [i64_in (x := i.int + 1) (by omega) (by omega), show (i.int + 1).toNat = i.int.toNat + 1 by omega]
      have e : nth (U.i 0) (patchU [nth (U.i 0) xs i.int.toNat] 0 [nth (U.i 0) b.list i.int.toNat]) 0 = U.at b.list i.int.toNat := rfl
      rw [e]
      rw [List.length_set, over_step (by omega) (by omega)]
      exact blt (by simp only [U.int_i]; omega) ⟨⟨by trivial, by trivial, by trivial, by omega, by omega, hx⟩, hk⟩
    · rw [over_end (by omega) (.inl (List.drop_of_length_le (by omega)))] at hk
      exact hk
    · rw [over_end (by omega) (.inr (by omega))] at hk
      exact hk
  · exact h.elim
theorem xor_ne {S x : Int} (h0 : 0 ≤ S) (h1 : S < 4294967296) : IntKind.wrap .u32 ((BitVec.ofInt (IntKind.bits .u32) S ^^^ BitVec.ofInt (IntKind.bits .u32) (IntKind.wrap .u32 ((BitVec.ofInt (IntKind.bits .u32) x ||| BitVec.ofInt (IntKind.bits .u32) 1).toNat : Int))).toNat : Int) ≠ S := by
  rw [show IntKind.bits .u32 = 32 from rfl, u32_bv, u32_bv, BitVec.ofInt_natCast, BitVec.ofNat_toNat, BitVec.setWidth_eq]
  intro h
  generalize hX : BitVec.ofInt 32 x ||| BitVec.ofInt 32 1 = X at h
  have e : (BitVec.ofInt 32 S ^^^ X) = BitVec.ofInt 32 S := by
    refine BitVec.eq_of_toNat_eq ?_
    have := bv_of h0 h1
    omega
  have hb := congrArg (fun v => v.getLsbD 0) e
  simp only [BitVec.getLsbD_xor] at hb
  have hx : X.getLsbD 0 = true := by
    rw [← hX, BitVec.getLsbD_or]
    have : (BitVec.ofInt 32 1).getLsbD 0 = true := by decide
    rw [this, Bool.or_true]
  rw [hx] at hb
  revert hb
  cases (BitVec.ofInt 32 S).getLsbD 0 <;> decide
theorem pow6 {n : Nat} (h : n ≤ 6) : 1 ≤ (2 : Int) ^ n ∧ (2 : Int) ^ n ≤ 64 := by
  have : (2 : Nat) ^ n ≤ 2 ^ 6 := Nat.pow_le_pow_right (by decide) h
  have h2 : 1 ≤ (2 : Nat) ^ n := Nat.one_le_two_pow
  have e : ((2 ^ n : Nat) : Int) = (2 : Int) ^ n := by norm_cast
  omega
theorem lcm_ok : SpecF PR 5 tS15 := fun fn us hfn => by
  have hf : PR.funcs[(5 : Nat)]? = some Try.f5 := by kernel_rfl
  rw [hf] at hfn; cases hfn
  refine fn_okH (C := lcmC) (mkC_ok eqs0_ok mixed_ok (.cons awake15_ok (.cons bytes_ok15 (.cons rsum_ok (.cons num15_ok .nil)))) .nil) hf (by kernel_rfl) (loops_one (by kernel_rfl) lcm_loop) fun hok => ?_
  have hp : Try.f5.params.toList = [25, 5, 5, 22] := by kernel_rfl
  rw [hp] at hok
  obtain ⟨b, c, s, x, hus⟩ : ∃ b c s x, us = [[b], [c], [s], [x]] := by
    have hsh : shapeOk PR [25, 5, 5, 22] us := hok.1
    obtain ⟨u, r, m', cs', rfl, hcs, hl, hr⟩ := hsh
    rw [(by kernel_rfl : Cs PR 25 = some (false, [.sl false [.int .u8]]))] at hcs; cases hcs
    obtain ⟨u2, u3, u4, rfl, h2, h3, h4⟩ := shape3 (by kernel_rfl : Cs PR 5 = some (false, [.int .u8])) (by kernel_rfl : Cs PR 5 = some (false, [.int .u8])) (by kernel_rfl : Cs PR 22 = some (false, [.int .u32])) hr
    obtain ⟨b, rfl⟩ := len1 hl
    obtain ⟨c, rfl⟩ := len1 h2
    obtain ⟨s, rfl⟩ := len1 h3
    obtain ⟨x, rfl⟩ := len1 h4
    exact ⟨b, c, s, x, rfl⟩
  obtain ⟨hc, hs⟩ : (0 ≤ c.int ∧ c.int ≤ 255) ∧ (0 ≤ s.int ∧ s.int ≤ 255) := by
    subst hus
    have := hok.2 [vl (.int .u8) b, .val (.int .u8) c, .val (.int .u8) s, vw x] (by kernel_rfl)
    exact ⟨this.2.1, this.2.2.1⟩
  subst hus
  refine .eq (lcm_tree _ b c s x) ?_
  have eg : Int.tmod (IntKind.wrap .i64 c.int) 7 = c.int % 7 := by
    rw [i64_in (by omega) (by omega), Int.tmod_eq_emod_of_nonneg hc.1]
  generalize hg : c.int % 7 = g at eg
  have hg0 : 0 ≤ g := by omega
  have hg6 : g ≤ 6 := by omega
  have eu : IntKind.wrap .u64 g = g := by simp only [IntKind.wrap, IntKind.bits, IntKind.signed]; simp; omega
  have hP := pow6 (n := g.toNat) (by omega)
  have hmin : min g.toNat (IntKind.bits .i64) = g.toNat := Nat.min_eq_left (by simp [IntKind.bits]; omega)
  have eN : mdN c = 16 * 2 ^ g.toNat := by
    unfold mdN
    rw [eg, eu, hmin]
    exact i64_in (by omega) (by omega)
  have eC : mdC c = 2 ^ g.toNat := by
    unfold mdC
    rw [eg, eu, hmin, Int.one_mul]
    exact i64_in (by omega) (by omega)
  have eS : mdS s = 2 + s.int % 20 := by
    unfold mdS
    rw [i64_in (x := s.int) (by omega) (by omega), Int.tmod_eq_emod_of_nonneg hs.1]
    exact i64_in (by omega) (by omega)
  have hKl : ((mdK b c).length : Int) = 16 * 2 ^ g.toNat := by
    unfold mdK
    rw [overU_length _ _ _ (by omega), List.length_replicate, eN]
    omega
  have hFl : ((mdF b c s).length : Int) = 16 * (mdS s) + 16 * 2 ^ g.toNat := by
    unfold mdF
    rw [List.length_append, List.length_replicate, i64_in (by omega) (by omega)]
    omega
  have hS := (show 0 ≤ sumI 0 (mdK b c) ∧ sumI 0 (mdK b c) < 4294967296 from compl_in _)
  have hmay : ∀ m : Int, mayR 2 (mdS s) (mdC c) 0 m g = true := fun m => by
    unfold mayR placeR
    rw [if_neg (by omega), if_neg (by decide), if_pos rfl, eC]
    simp
    omega
  have hB : ((mdF b c s).take ((mdS s + mdC c) * 16).toNat).drop (mdS s * 16).toNat = mdK b c := by
    have h1 : ((mdS s + mdC c) * 16).toNat = (mdF b c s).length := by rw [eC]; omega
    rw [h1, List.take_length]
    unfold mdF
    rw [i64_in (by omega) (by omega), List.drop_left' (by simp)]
  have X : ∀ m : Int, bytesX [[.i 2, .i (mdS s), .i (mdC c), .i 0, .i m], [.l (mdF b c s)], [.i g]] = cbFin (mdK b c) m g := fun m => by
    show cbX 2 (mdS s) (mdC c) 0 m g (mdF b c s) = _
    unfold cbX
    rw [hmay m, cond_true, hB, show ((2 : Int) == 0 || (2 : Int) == 1) = false from rfl, cond_false, show decide ((((mdF b c s).length / 16 : Nat) : Int) < mdS s + mdC c) = false from decide_eq_false (by rw [eC]; omega), cond_false]
    rfl
  have X1 : bytesX [[.i 2, .i (mdS s), .i (mdC c), .i 0, .i (sumI 0 (mdK b c))], [.l (mdF b c s)], [.i g]] = (0, mdK b c) := by
    rw [X]
    unfold cbFin
    rw [hKl]
    simp
  have X3 : ∀ m : Int, m ≠ sumI 0 (mdK b c) → (bytesX [[.i 2, .i (mdS s), .i (mdC c), .i 0, .i m], [.l (mdF b c s)], [.i g]]).1 = 13 := fun m hm => by
    rw [X]
    unfold cbFin
    rw [show (sumI 0 (mdK b c) == m) = false from by simpa using fun h => hm h.symm, Bool.and_false]
    rfl
  have X2 : (bytesX [[.i 2, .i (mdS s), .i (mdC c), .i 0, .i (sumI 0 (mdK b c))], [.l (((mdF b c s).take (((mdF b c s).length : Int) - 1).toNat).drop (Int.toNat 0))], [.i g]]).1 = 6 := by
    show (cbX 2 (mdS s) (mdC c) 0 (sumI 0 (mdK b c)) g (((mdF b c s).take (((mdF b c s).length : Int) - 1).toNat).drop (Int.toNat 0))).1 = 6
    unfold cbX
    rw [hmay _, cond_true, show ((2 : Int) == 0 || (2 : Int) == 1) = false from rfl, cond_false]
    have hl : (((mdF b c s).take (((mdF b c s).length : Int) - 1).toNat).drop (Int.toNat 0)).length = (mdF b c s).length - 1 := by
      rw [List.length_drop, List.length_take]
      omega
    rw [hl, show decide (((((mdF b c s).length - 1) / 16 : Nat) : Int) < mdS s + mdC c) = true from decide_eq_true (by rw [eC]; omega)]
    rfl
  rw [eg, eu]
  rw [i64_in (x := mdS s * 16) (by omega) (by omega), i64_in (x := ((mdF b c s).length : Int) - 1) (by omega) (by omega), X1]
  refine df (by omega) (dt ⟨by omega, by omega, by unfold room; omega⟩ ⟨⟨by trivial, by trivial, by rw [List.length_replicate]; congr 1; omega, by omega, by omega, by rw [List.length_replicate]; omega⟩, dt ⟨by omega, by omega, by unfold room; omega⟩ (broom (by rw [List.length_replicate]; unfold room; omega) rfl (df (by omega) (broom ⟨by omega, by omega, by omega, by omega⟩ rfl (bt rfl (bt (by simp) (bt (by rw [X2]; rfl) (bt (by rw [X3 _ (xor_ne hS.1 hS.2)]; rfl) rfl)))))))⟩)
end Go.Mat
