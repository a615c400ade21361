/- A part of the proof of this: A right meta is read back, also after what was read has been spoilt. Conditions: none. Joined of F32, F33, B34, F34, B35, F35, B36, F36, B37, F37, F40, B40, F41, F42, F43, F44, B52, F52, B53, F53, F54, F55. -/
import Derived.Test.YtmgncojckndckaaC4
import Derived.KernelRfl
namespace Go.Mat
open Go Go.Den Go.Proofs
theorem padU_step {L : List U} {v : Int} (h : (L.length : Int) < v) : padU (L ++ [.l []]) v = padU L v := by
  unfold padU
  rw [List.length_append, List.length_singleton, List.append_assoc, show (v - (L.length : Int)).toNat = (v - ((L.length + 1 : Nat) : Int)).toNat + 1 by omega, List.replicate_succ]
  rfl
theorem padU_all {L : List U} {v : Int} (h : v ≤ (L.length : Int)) : padU L v = L := by
  unfold padU
  rw [show (v - (L.length : Int)).toNat = 0 by omega]
  simp
theorem padU_len {L : List U} {v : Int} (h : (L.length : Int) ≤ v) : ((padU L v).length : Int) = v := by
  unfold padU
  rw [List.length_append, List.length_replicate]; omega
theorem entsK_len {b : List U} {k : Int} : ∀ {m : Nat} {a : Int}, a ≤ b.length → entsK b k m a = true → a + 16 * m ≤ (b.length : Int)
  | 0, a, h, _ => by omega
  | m + 1, a, _, h => by
    rw [entsK] at h
    simp only [Bool.and_eq_true, decide_eq_true_eq] at h
    have := entsK_len h.1.1 h.2
    omega
theorem tgIs_rfl : tgIs 1026 1666 leafT leafT [] 1024 1664 0 0 := ⟨rfl, rfl, rfl, rfl, rfl, rfl, rfl, rfl, rfl⟩
theorem tg_loop2 : LoopOk tgC 2 (loopBody Try.f74 1) := by
  refine loopOk_of (F := tgLoop2) (ts := [14, 13, 8, 0, 1, 2, 3, 30, 31]) (os := [1024, 1026, 1664, 1666]) rfl (fun svs os => match svs, os with | .val _ v :: _, [_, _, _, .arr _ L] => (v.int - (L.length : Int)).toNat | _, _ => 0) ?_
  intro pan svs os k ho1 ho2 h
  unfold tgLoop2 at h
  split at h
  · rename_i v p13 o13 p8 o8 b a n kk m i o1 t1 z o2 t2 L
    obtain ⟨⟨⟨rfl, rfl, rfl, rfl, rfl, rfl, rfl, rfl, rfl⟩, h0, h5, hl⟩, hk⟩ := h
    refine .eq (tg_round2 pan _ _ k v b a n kk m i L) ?_
    have hw : IntKind.wrap .i64 v.int = v.int := i64_in (by omega) (by omega)
    simp only [hw]
    refine bd (fun hlt => ?_) (fun hlt => ?_)
    · have hlt' : (v.int - ((L ++ [U.l []]).length : Int)).toNat < (v.int - (L.length : Int)).toNat := by
        rw [List.length_append, List.length_singleton]; omega
      rw [← padU_step hlt] at hk
      exact broom (by simp [room]; omega) rfl (blt hlt' ⟨⟨tgIs_rfl, h0, h5, by rw [List.length_append, List.length_singleton]; omega⟩, hk⟩)
    · rw [padU_all (by omega)] at hk
      exact hk
  · exact h.elim
theorem tg_loop4 : LoopOk tgC 4 (loopBody Try.f74 2) := by
  refine loopOk_of (F := tgLoop4) (ts := [67, 16, 13, 8, 0, 1, 2, 3, 30, 31]) (os := [2172, 1024, 1026, 1664, 1666]) rfl (fun svs _ => match svs with | .val _ j :: _ => (8 - j.int).toNat | _ => 0) ?_
  intro pan svs os k ho1 ho2 h
  unfold tgLoop4 at h
  split at h
  · rename_i j o16 p13 o13 p8 o8 b a n kk m i t16 xs o1 t1 z o2 t2 L
    obtain ⟨⟨⟨rfl, rfl, rfl, rfl, rfl, rfl, rfl, rfl, rfl⟩, rfl, rfl, ha, hb, h0, h1, h2, h3, hx, hbk⟩, hk⟩ := h
    refine .eq (tg_round4 pan _ _ k j b a n kk m i xs L) ?_
    have w1 : IntKind.wrap .i64 ((b.list.length : Int) - a.int) = (b.list.length : Int) - a.int := i64_in (by omega) (by omega)
    have w2 : IntKind.wrap .i64 (a.int + 16) = a.int + 16 := i64_in (by omega) (by omega)
    have w3 : IntKind.wrap .i64 (j.int + 1) = j.int + 1 := i64_in (by omega) (by omega)
    have hs : List.drop a.int.toNat (List.take (a.int + 16).toNat b.list) = sub b.list a.int 16 := rfl
    simp only [w1, w2, w3, hs]
    refine bd (fun hlt => ?_) (fun hlt => ?_)
    · rw [show (8 - j.int).toNat = (8 - (j.int + 1)).toNat + 1 by omega, entsK, entsG] at hk
      refine bd (fun h16 => ?_) (fun h16 => ?_)
      · rw [decide_eq_false (by omega : ¬ a.int + 16 ≤ (b.list.length : Int)), Bool.false_and, Bool.false_and, cond_false] at hk
        exact hk
      · refine broom ⟨by omega, by omega, by omega, by omega⟩ rfl ?_
        rw [decide_eq_true (by omega : a.int + 16 ≤ (b.list.length : Int)), Bool.true_and] at hk
        cases hE : egetR (sub b.list a.int 16) kk.int with
        | false =>
          rw [hE, Bool.false_and, cond_false] at hk
          exact hk
        | true =>
          rw [hE, Bool.true_and] at hk
          have hlt' : (8 - (j.int + 1)).toNat < (8 - j.int).toNat := by omega
          have hkk : (bif entsK b.list kk.int (8 - (j.int + 1)).toNat (a.int + 16) then
              k (.exit 4) ⟨[(16, .own 2172), (13, .ptr 1664 0), (8, .ptr 1024 0), (0, vl (.int .u8) b), (1, vi (.i (a.int + 16 + 16 * (8 - (j.int + 1))))), (2, vi n), (3, vi kk), (30, vu m), (31, vu i)], (2172, .arr entT ((xs ++ [entU (sub b.list a.int 16)]) ++ entsG b.list (8 - (j.int + 1)).toNat (a.int + 16))) :: tgO L⟩
              else k .ret tgBad) := by
            rw [List.append_assoc, List.singleton_append, show a.int + 16 + 16 * (8 - (j.int + 1)) = a.int + 16 * (8 - j.int) by omega]
            exact hk
          refine broom (by simp [room]; omega) rfl (blt hlt' ⟨⟨tgIs_rfl, by trivial, by trivial, by trivial, hb, by omega, by omega, by omega, by omega, by rw [List.length_append, List.length_singleton]; omega, hbk⟩, hkk⟩)
    · have hj : j.int = 8 := by omega
      rw [hj, show (8 - (8 : Int)).toNat = 0 from rfl, entsK, entsG, List.append_nil, cond_true, show a.int + 16 * (8 - (8 : Int)) = a.int by omega, ← ha] at hk
      exact hk
  · exact h.elim
theorem tg_loop0 : LoopOk tgC 0 (loopBody Try.f74 0) := by
  refine loopOk_of (F := tgLoop0) (ts := [31, 30, 13, 8, 0, 1, 2, 3]) (os := [1024, 1026, 1664, 1666]) rfl (fun svs _ => match svs with | .val _ i :: .val _ m :: _ => (m.int - i.int).toNat | _ => 0) ?_
  intro pan svs os k ho1 ho2 h
  unfold tgLoop0 at h
  split at h
  · rename_i i m p13 o13 p8 o8 b a n kk o1 t1 z o2 t2 L
    obtain ⟨⟨⟨rfl, rfl, rfl, rfl, rfl, rfl, rfl, rfl, rfl⟩, ha, hb, h0, h1, h2, h3, h4, hl, hbk⟩, hk⟩ := h
    refine .eq (tg_round0 pan _ _ k i m b a n kk L) ?_
    have hn := getN2 (a := a.int) hbk
    have w2 : IntKind.wrap .i64 (a.int + 2) = a.int + 2 := i64_in (by omega) (by omega)
    have w3 : IntKind.wrap .u64 (i.int + 1) = i.int + 1 := u64_in (by omega) (by omega)
    have w4 : IntKind.wrap .i64 (getN b.list a.int 2) = getN b.list a.int 2 := i64_in (by omega) (by omega)
    have e8 : ((8 : Int) - 0).toNat = 8 := rfl
    simp only [w2, w3, w4, e8, getE_iff, List.nil_append]
    refine bd (fun hlt => ⟨⟨by show (1 : Int) ≤ 2; omega, by show (2 : Int) ≤ 4; omega, rfl, hb⟩, ?_⟩) (fun hlt => ?_)
    · rw [show (m.int - i.int).toNat = (m.int - (i.int + 1)).toNat + 1 by omega, leavesK, leavesG] at hk
      refine bi (fun ht => ?_) (fun ht => ?_)
      · have ht := nt ht
        rw [show thereR b.list a.int 2 = false by simpa using ht, Bool.false_and, Bool.false_and, Bool.false_and, Bool.false_and, cond_false] at hk
        exact hk
      have ht : thereR b.list a.int 2 = true := by simpa using nf ht
      have hi := thereR_iff.1 ht
      rw [ht, Bool.true_and] at hk
      refine bd (fun hc => ?_) (fun hc => ?_)
      · rw [decide_eq_false (by omega : ¬ (L.length : Int) ≤ getN b.list a.int 2), Bool.false_and, Bool.false_and, Bool.false_and, cond_false] at hk
        exact hk
      rw [decide_eq_true (by omega : (L.length : Int) ≤ getN b.list a.int 2), Bool.true_and] at hk
      refine bd (fun hd => ?_) (fun hd => ?_)
      · rw [decide_eq_false (by omega : ¬ getN b.list a.int 2 < 512), Bool.false_and, Bool.false_and, cond_false] at hk
        exact hk
      rw [decide_eq_true (by omega : getN b.list a.int 2 < 512), Bool.true_and] at hk
      refine ⟨⟨tgIs_rfl, by omega, by omega, hl⟩, ⟨tgIs_rfl, by trivial, by trivial, by trivial, hb, by omega, by omega, by omega, by omega, by trivial, hbk⟩, ?_⟩
      cases hE : entsK b.list kk.int 8 (a.int + 2) with
      | false =>
        rw [hE, Bool.false_and, cond_false] at hk
        exact hk
      | true =>
        rw [hE, Bool.true_and] at hk
        have he := entsK_len (by omega) hE
        have hp := padU_len (L := L) (v := getN b.list a.int 2) (by omega)
        have hlt' : (m.int - (i.int + 1)).toNat < (m.int - i.int).toNat := by omega
        rw [show a.int + 130 = a.int + 2 + 16 * (8 - 0) by omega, show a.int + 130 * (m.int - i.int) = a.int + 2 + 16 * (8 - 0) + 130 * (m.int - (i.int + 1)) by omega] at hk
        exact broom (by simp [room]; omega) rfl (blt hlt' ⟨⟨tgIs_rfl, by trivial, hb, by omega, by omega, by omega, by omega, h4, by rw [List.length_append, List.length_singleton]; omega, hbk⟩, hk⟩)
    · rw [show (m.int - i.int).toNat = 0 by omega, show m.int - i.int = 0 by omega, leavesK, leavesG, cond_true, Int.mul_zero, Int.add_zero, ← ha] at hk
      exact hk
  · exact h.elim
theorem tg_ok : SpecFP PR 74 tgP tgS := fun fn us hfn hpre => by
  have hf : PR.funcs[(74 : Nat)]? = some Try.f74 := by kernel_rfl
  rw [hf] at hfn; cases hfn
  refine fn_okH (C := tgC) (mkC_ok eqs0_ok mixed_ok (.consP get_ok (.cons eget_ok (.cons tab_ok .nil))) .nil) hf (by kernel_rfl) (loops_three (by kernel_rfl) tg_loop0 tg_loop2 tg_loop4) fun hok => ?_
  have hp : Try.f74.params.toList = [32, 3, 3, 3] := by kernel_rfl
  rw [hp] at hok
  obtain ⟨b, a, n, k, hus⟩ : ∃ b a n k, us = [[b], [a], [n], [k]] := by
    obtain ⟨u, u2, u3, u4, rfl, h1, h2, h3, h4⟩ := shape4 (by kernel_rfl : Cs PR 32 = some (false, [.sl false [.int .u8]])) (by kernel_rfl : Cs PR 3 = some (false, [.int .i64])) (by kernel_rfl : Cs PR 3 = some (false, [.int .i64])) (by kernel_rfl : Cs PR 3 = some (false, [.int .i64])) hok.1
    obtain ⟨b, rfl⟩ := len1 h1
    obtain ⟨a, rfl⟩ := len1 h2
    obtain ⟨n, rfl⟩ := len1 h3
    obtain ⟨k, rfl⟩ := len1 h4
    exact ⟨b, a, n, k, rfl⟩
  subst hus
  have hbk : byteOk b.list := bytes_ok (hok.2 [vl (.int .u8) b, vi a, vi n, vi k] (by kernel_rfl)).1
  refine .eq (tg_tree _ b a n k) ?_
  have hb : b.list.length ≤ 1099511627776 := hpre
  have hn := getN2 (a := a.int) hbk
  have hS : tgS [[b], [a], [n], [k]] = [[.l (bif tgR b.list a.int n.int k.int then tgL b.list a.int else [])], [.i (bif tgR b.list a.int n.int k.int then a.int + 2 + 130 * getN b.list a.int 2 else 0)], [.i (bif tgR b.list a.int n.int k.int then 0 else 3)]] := rfl
  rw [hS, getE_iff]
  unfold tgR
  refine ⟨⟨by show (1 : Int) ≤ 2; omega, by show (2 : Int) ≤ 4; omega, rfl, hb⟩, ?_⟩
  refine bi (fun h => ?_) (fun h => ?_)
  · have h := nt h
    rw [show thereR b.list a.int 2 = false by simpa using h]; rfl
  have h : thereR b.list a.int 2 = true := by simpa using nf h
  have hi := thereR_iff.1 h
  have w2 : IntKind.wrap .i64 (a.int + 2) = a.int + 2 := i64_in (by omega) (by omega)
  rw [h, Bool.true_and]
  simp only [w2, Int.sub_zero]
  refine ⟨⟨tgIs_rfl, by trivial, hb, by omega, by omega, by omega, by omega, by omega, by omega, hbk⟩, ?_⟩
  refine bi (fun h1 => ?_) (fun h1 => by rw [h1]; rfl)
  rw [h1, Bool.true_and]
  refine bi (fun h2 => ?_) (fun h2 => ?_)
  · rw [show tableR (tgL b.list a.int) n.int k.int = false by simpa using h2]; rfl
  · rw [show tableR (tgL b.list a.int) n.int k.int = true by simpa using h2]; rfl
end Go.Mat

namespace Go.Mat
open Go Go.Den Go.Proofs
theorem tableR_c {L : List U} {n c : Int} (h : c < 0 ∨ 6 < c) : tableR L n c = false := by
  unfold tableR
  rw [if_pos (by omega)]
end Go.Mat

namespace Go.Mat
open Go Go.Den Go.Proofs
abbrev rdIs (p o i : Nat) (b : U) : Prop := p = 2097153 ∧ o = 0 ∧ i = 2097153 ∧ b.list.length ≤ 1099511627776
abbrev rdObjs (b : U) (a : Int) : Objs := [(2097153, .box [vl (.int .u8) b, vi (.i a)])]
abbrev unread : Out := .pan (.ifc 123 (.agg []))
noncomputable def rdnumF : Tr := fun vs objs k => match vs, objs with
  | [.ptr p o, .val (.int .i64) n], [(i, .box [.val (.sl false [.int .u8]) b, .val (.int .i64) a])] =>
    (rdIs p o i b ∧ 1 ≤ n.int ∧ n.int ≤ 4) ∧
    (bif thereR b.list a.int n.int then k (.ret [vi (.i (getN b.list a.int n.int))]) (rdObjs b (a.int + n.int)) else k unread [(2097153, .box [vl (.int .u8) b, vi a])])
  | _, _ => False
noncomputable def rdtextF : Tr := fun vs objs k => match vs, objs with
  | [.ptr p o], [(i, .box [.val (.sl false [.int .u8]) b, .val (.int .i64) a])] =>
    rdIs p o i b ∧
    (bif readR b.list a.int then k (.ret [.val .str (.s (readV b.list a.int))]) (rdObjs b (a.int + 2 + getN b.list a.int 2)) else k unread [(2097153, .box [vl (.int .u8) b, vi a])])
  | _, _ => False
noncomputable def rdtabF : Tr := fun vs objs k => match vs, objs with
  | [.ptr p o, .val (.int .i64) n, .val (.int .i64) c], [(i, .box [.val (.sl false [.int .u8]) b, .val (.int .i64) a])] =>
    (rdIs p o i b ∧ 0 ≤ n.int ∧ 0 ≤ c.int) ∧
    (bif tgR b.list a.int (n.int / 2 ^ c.int.toNat) c.int then k (.ret [.agg [vl (.sl true EC) (.l (tgL b.list a.int))]]) (rdObjs b (a.int + 2 + 130 * getN b.list a.int 2)) else k unread [(2097153, .box [vl (.int .u8) b, vi a])])
  | _, _ => False
noncomputable def rdnumC : Ctx := mkC PR eqs0 (fnsConsP 72 getP getS fnsNil) trsNil noLoops noOut noOut
theorem rdnum_tree (R : RT) (n b a : U) : (runD rdnumC Try.f57 [.ptr 2097153 0, vi n] [(2097153, .box [vl (.int .u8) b, vi a])] R) = (getP [[b], [a], [n], [U.b false]] ∧ bif getE (U.list b) (U.int a) (U.int n) != (0 : Int) then R (Out.pan (SV.ifc (nat_lit 123) (SV.agg []))) [(nat_lit 2097153, Obj.box [SV.val (Ct.sl false [Ct.int IntKind.u8])
  b, SV.val (Ct.int IntKind.i64) a])] else R (Out.ret [SV.val (Ct.int IntKind.i64) (U.i (IntKind.wrap IntKind.i64 (getN (U.list b) (U.int a) (U.int n))))]) [(nat_lit 2097153, Obj.box [SV.val (Ct.sl false
  [Ct.int IntKind.u8]) b, SV.val (Ct.int IntKind.i64) (U.i (IntKind.wrap IntKind.i64 (U.int a + U.int n)))])]) := by kernel_rfl
noncomputable def rdtextC : Ctx := mkC PR eqs0 (fnsConsP 73 readP readS fnsNil) trsNil noLoops noOut noOut
theorem rdtext_tree (R : RT) (b a : U) : (runD rdtextC Try.f58 [.ptr 2097153 0] [(2097153, .box [vl (.int .u8) b, vi a])] R) = (readP [[b], [a]] ∧ bif readE (U.list b) (U.int a) != (0 : Int) then R (Out.pan (SV.ifc (nat_lit 123) (SV.agg []))) [(nat_lit 2097153, Obj.box [SV.val (Ct.sl false [Ct.int IntKind.u8]) b, SV.val (Ct.int
  IntKind.i64) a])] else R (Out.ret [SV.val Ct.str (U.s (readV (U.list b) (U.int a)))]) [(nat_lit 2097153, Obj.box [SV.val (Ct.sl false [Ct.int IntKind.u8]) b, SV.val (Ct.int IntKind.i64) (U.i (readA (U.list
  b) (U.int a)))])]) := by kernel_rfl
noncomputable def rdtabC : Ctx := mkC PR eqs0 (fnsConsP 74 tgP tgS fnsNil) trsNil noLoops noOut noOut
theorem rdtab_tree (R : RT) (n c b a : U) : (runD rdtabC Try.f59 [.ptr 2097153 0, vi n, vi c] [(2097153, .box [vl (.int .u8) b, vi a])] R) = (bif decide (c.int > (6 : Int)) then R (Out.pan (SV.ifc (nat_lit 123) (SV.agg []))) [(nat_lit 2097153, .box [.val (.sl false [.int .u8]) b, .val (.int IntKind.i64) a])] else bif decide (c.int < (0 : Int)) then False else (fun T => Alt (Alt (Alt T T) T) (Alt (Alt (Alt T T) T) (Alt T T))) (tgP [[b], [a], [U.i (Int.fdiv n.int ((2 : Int) ^ min (Int.toNat c.int) (IntKind.bits IntKind.i64)))], [c]] ∧ bif (bif tgR b.list a.int (Int.fdiv n.int ((2 : Int) ^ min (Int.toNat c.int) (IntKind.bits IntKind.i64))) c.int then (0 : Int) else (3 : Int)) != (0 : Int) then R (Out.pan (SV.ifc (nat_lit 123) (SV.agg []))) [(nat_lit 2097153, .box [.val (.sl false [.int .u8]) b, .val (.int IntKind.i64) a])] else R (Out.ret [.agg [.val (.sl false [.sl true [.int .i64, .int .i64, .int .i64, .int .i64, .int .u32]]) (U.l (bif tgR b.list a.int (Int.fdiv n.int ((2 : Int) ^ min (Int.toNat c.int) (IntKind.bits IntKind.i64))) c.int then tgL b.list a.int else []))]]) [(nat_lit 2097153, .box [.val (.sl false [.int .u8]) b, .val (.int IntKind.i64) (U.i (bif tgR b.list a.int (Int.fdiv n.int ((2 : Int) ^ min (Int.toNat c.int) (IntKind.bits IntKind.i64))) c.int then a.int + (2 : Int) + (130 : Int) * getN b.list a.int (2 : Int) else (0 : Int)))])])) := by kernel_rfl
end Go.Mat

namespace Go.Mat
open Go Go.Den Go.Proofs
theorem getN_4 {b : List U} {a n : Int} (h : byteOk b) (h1 : 0 ≤ n) (h4 : n ≤ 4) : 0 ≤ getN b a n ∧ getN b a n ≤ 4294967295 := by
  have hg := getN_bd (a := a) h h1
  have hc : n.toNat = 0 ∨ n.toNat = 1 ∨ n.toNat = 2 ∨ n.toNat = 3 ∨ n.toNat = 4 := by omega
  rcases hc with hc | hc | hc | hc | hc <;> rw [hc] at hg <;> simp only [Int.reducePow] at hg <;> omega
theorem readR_fits {b : List U} {a : Int} (h : readR b a = true) : thereR b a 2 = true ∧ 0 ≤ a ∧ a + 2 + getN b a 2 ≤ (b.length : Int) := by
  unfold readR at h
  rw [Bool.and_eq_true] at h
  have h1 := thereR_iff.1 h.1
  have h2 := thereR_iff.1 h.2
  exact ⟨h.1, by omega, by omega⟩
theorem tgR_c {b : List U} {a n c : Int} (h : 6 < c) : tgR b a n c = false := by
  unfold tgR
  rw [tableR_c (.inr h), Bool.and_false]
theorem shr_eq {n c : Int} (h : c ≤ 6) : Int.fdiv n (2 ^ min c.toNat (IntKind.bits .i64)) = n / 2 ^ c.toNat := by
  rw [Nat.min_eq_left (by simp [IntKind.bits]; omega), Int.fdiv_eq_ediv_of_nonneg _ (by exact Int.le_of_lt (Int.pow_pos (by omega)))]
theorem rdnum_ok : SpecT PR 57 rdnumF := fun fn hfn => by
  have hf : PR.funcs[(57 : Nat)]? = some Try.f57 := by kernel_rfl
  rw [hf] at hfn; cases hfn
  refine fnT_okH (C := rdnumC) (mkC_ok eqs0_ok mixed_ok (.consP get_ok .nil) .nil) hf (by kernel_rfl) (loops_none (by kernel_rfl)) fun vs objs R h1 h2 h => ?_
  unfold rdnumF at h
  split at h
  · rename_i p o n i b a
    obtain ⟨⟨⟨rfl, rfl, rfl, hb⟩, hn1, hn4⟩, h⟩ := h
    have hbk : byteOk b.list := bytes_ok (h2 _ _ (List.mem_cons_self ..)).1
    clear h1 h2
    refine .eq (rdnum_tree R n b a) ?_
    have hg := getN_4 (a := a.int) (n := n.int) hbk (by omega) hn4
    rw [getE_iff]
    refine ⟨⟨hn1, hn4, rfl, hb⟩, bi (fun ht => ?_) (fun ht => ?_)⟩
    · rw [show thereR b.list a.int n.int = false by simpa using ht, cond_false] at h
      exact h
    · have ht : thereR b.list a.int n.int = true := by simpa using ht
      have hi := thereR_iff.1 ht
      rw [ht, cond_true] at h
      rw [i64_in (by omega) (by omega), i64_in (by omega) (by omega)]
      exact h
  · exact h.elim
theorem rdtext_ok : SpecT PR 58 rdtextF := fun fn hfn => by
  have hf : PR.funcs[(58 : Nat)]? = some Try.f58 := by kernel_rfl
  rw [hf] at hfn; cases hfn
  refine fnT_okH (C := rdtextC) (mkC_ok eqs0_ok mixed_ok (.consP read_ok .nil) .nil) hf (by kernel_rfl) (loops_none (by kernel_rfl)) fun vs objs R h1 h2 h => ?_
  unfold rdtextF at h
  split at h
  · rename_i p o i b a
    obtain ⟨⟨rfl, rfl, rfl, hb⟩, h⟩ := h
    have hbk : byteOk b.list := bytes_ok (h2 _ _ (List.mem_cons_self ..)).1
    clear h1 h2
    refine .eq (rdtext_tree R b a) ?_
    unfold readE readA
    refine ⟨hb, ?_⟩
    cases ht : readR b.list a.int with
    | true =>
      rw [ht, cond_true] at h
      exact h
    | false =>
      rw [ht, cond_false] at h
      exact h
  · exact h.elim
theorem rdtab_ok : SpecT PR 59 rdtabF := fun fn hfn => by
  have hf : PR.funcs[(59 : Nat)]? = some Try.f59 := by kernel_rfl
  rw [hf] at hfn; cases hfn
  refine fnT_okH (C := rdtabC) (mkC_ok eqs0_ok mixed_ok (.consP tg_ok .nil) .nil) hf (by kernel_rfl) (loops_none (by kernel_rfl)) fun vs objs R h1 h2 h => ?_
  unfold rdtabF at h
  split at h
  · rename_i p o n c i b a
    obtain ⟨⟨⟨rfl, rfl, rfl, hb⟩, hn, hc⟩, h⟩ := h
    have hbk : byteOk b.list := bytes_ok (h2 _ _ (List.mem_cons_self ..)).1
    clear h1 h2
    refine .eq (rdtab_tree R n c b a) ?_
    refine bd (fun h6 => ?_) (fun h6 => df (by omega) ?_)
    · rw [tgR_c (by omega), cond_false] at h
      exact h
    simp only [Alt_self]
    rw [shr_eq (by omega)]
    refine ⟨hb, ?_⟩
    cases ht : tgR b.list a.int (n.int / 2 ^ c.int.toNat) c.int with
    | true =>
      rw [ht, cond_true] at h
      exact h
    | false =>
      rw [ht, cond_false] at h
      exact h
  · exact h.elim
end Go.Mat

namespace Go.Mat
open Go Go.Den Go.Proofs
abbrev spT : TypeId := 72
def spG (b : List U) : Nat → Int → List U
  | 0, _ => []
  | m + 1, a => .l [.i (getN b a 2), .i (getN b (a + 2) 2)] :: spG b m (a + 4)
def rmN (b : List U) (a : Int) : Int := a + 2 + getN b a 2
def rmK (b : List U) (a : Int) : Bool := readR b a && thereR b (rmN b a) 1 && thereR b (rmN b a + 1) 2 && decide (rmN b a + 3 + 4 * getN b (rmN b a + 1) 2 ≤ (b.length : Int))
def rmE (b : List U) (a : Int) : Int := rmN b a + 3 + 4 * getN b (rmN b a + 1) 2
def rmS (b : List U) (a : Int) : List U := spG b (getN b (rmN b a + 1) 2).toNat (rmN b a + 3)
abbrev rdLost (b : U) (pan : KP) : Prop := ∀ (σ : St) (x : U), getO σ.objs 2097153 = some (.box [vl (.int .u8) b, vi x]) → pan (.ifc 123 (.agg [])) σ
noncomputable def rdmapF : Tr := fun vs objs k => match vs, objs with
  | [.ptr p o], [(i, .box [.val (.sl false [.int .u8]) b, .val (.int .i64) a])] =>
    rdIs p o i b ∧
    (bif rmK b.list a.int then k (.ret [.agg [.val .str (.s (readV b.list a.int)), vb (.b (getN b.list (rmN b.list a.int) 1 == 1)), SV.own 2097280]]) [(2097153, .box [vl (.int .u8) b, vi (.i (rmE b.list a.int))]), (2097280, .arr spT (rmS b.list a.int))] else ∀ x : U, k unread [(2097153, .box [vl (.int .u8) b, vi x])])
  | _, _ => False
noncomputable def rdmapLoop : LoopF := fun pan svs os k => match svs, os with
  | [.val (.int .i64) n, .ptr p0 o0, .ptr p3 o3, .ptr p2 o2], [.box [.val (.sl false [.int .u8]) b, .val (.int .i64) a], .box [.val .str s, .val .bool on, .own q], .arr t xs, .box [.val .str s2, .val .bool on2, .own q2], .arr t2 ys] =>
    ((p0 = 2097153 ∧ o0 = 0 ∧ p3 = 384 ∧ o3 = 0 ∧ p2 = 256 ∧ o2 = 0 ∧ q = 8437766 ∧ t = spT ∧ q2 = 262 ∧ t2 = spT) ∧ b.list.length ≤ 1099511627776 ∧ 0 ≤ n.int ∧ n.int ≤ 65535 ∧ a = .i a.int ∧ 0 ≤ a.int ∧ a.int ≤ b.list.length ∧ byteOk b.list ∧ (xs.length : Int) + n.int ≤ 65535) ∧
    (bif decide (a.int + 4 * n.int ≤ (b.list.length : Int)) then
      k (.exit 0) ⟨[(3, .ptr 384 0), (2, .ptr 256 0)], [(2097153, .box [vl (.int .u8) b, vi (.i (a.int + 4 * n.int))]), (384, .box [.val .str s, vb on, .own 8437766]), (8437766, .arr spT (xs ++ spG b.list n.int.toNat a.int)), (256, .box [.val .str s2, vb on2, .own 262]), (262, .arr spT ys)]⟩
      else rdLost b pan)
  | _, _ => False
noncomputable def rdmapC : Ctx := mkC PR eqs0 fnsNil (trsCons 57 [false, false] rdnumF (trsCons 58 [false] rdtextF trsNil))
  (loopCons 0 [4, 0, 3, 2] [2097153, 384, 8437766, 256, 262] rdmapLoop noLoops) (outCons 0 [3, 2] [2097153, 384, 8437766, 256, 262] noOut) noOut
theorem rdmap_round (pan : KP) (μ : Mu) (N : Nat) (k : KE) (n b a s on s2 on2 : U) (xs ys : List U) : (exec (rdmapC.panics pan) (loopBody Try.f60 0) 0 ⟨[(4, vi n), (0, .ptr 2097153 0), (3, .ptr 384 0), (2, .ptr 256 0)], [(2097153, .box [vl (.int .u8) b, vi a]), (384, .box [.val .str s, vb on, .own 8437766]), (8437766, .arr spT xs), (256, .box [.val .str s2, vb on2, .own 262]), (262, .arr spT ys)]⟩ (again PR (some ([3, 2], [2097153, 384, 8437766, 256, 262])) none pan [4, 0, 3, 2] [2097153, 384, 8437766, 256, 262] rdmapLoop μ N k)) = (bif decide (n.int > (0 : Int)) then (rdIs ((2097152 : Nat) + (1 : Nat)) (0 : Nat) ((2097152 : Nat) + (1 : Nat)) b ∧ (1 : Int) ≤ (2 : Int) ∧ (2 : Int) ≤ (4 : Int)) ∧ bif thereR b.list a.int (2 : Int) then Alt ((rdIs ((2097152 : Nat) + (1 : Nat)) (0 : Nat) ((2097152 : Nat) + (1 : Nat)) b ∧ (1 : Int) ≤ (2 : Int) ∧ (2 : Int) ≤ (4 : Int)) ∧ bif thereR b.list (a.int + (2 : Int)) (2 : Int) then bif decide (List.length xs + ((0 : Nat) + (1 : Nat)) ≤ room) && !oddB ((8437765 : Nat) + (1 : Nat)) then bif Nat.blt (μ [.val (.int IntKind.i64) (U.i (IntKind.wrap .i64 (n.int - (1 : Int)))), .ptr (nat_lit 2097153) (nat_lit 0), .ptr (nat_lit 384) (nat_lit 0), .ptr (nat_lit 256) (nat_lit 0)] [.box [.val (.sl false [.int .u8]) b, .val (.int IntKind.i64) (U.i (a.int + (2 : Int) + (2 : Int)))], .box [.val .str s, .val .bool on, .own (nat_lit 8437766)], .arr (nat_lit 72) (xs ++ [U.l [U.i (getN b.list a.int (2 : Int)), U.i (getN b.list (a.int + (2 : Int)) (2 : Int))]]), .box [.val .str s2, .val .bool on2, .own (nat_lit 262)], .arr (nat_lit 72) ys]) N then ((nat_lit 2097153 = nat_lit 2097153 ∧ nat_lit 0 = nat_lit 0 ∧ nat_lit 384 = nat_lit 384 ∧ nat_lit 0 = nat_lit 0 ∧ nat_lit 256 = nat_lit 256 ∧ nat_lit 0 = nat_lit 0 ∧ nat_lit 8437766 = nat_lit 8437766 ∧ nat_lit 72 = nat_lit 72 ∧ nat_lit 262 = nat_lit 262 ∧ nat_lit 72 = nat_lit 72) ∧ b.list.length ≤ (1099511627776 : Nat) ∧ (0 : Int) ≤ IntKind.wrap .i64 (n.int - (1 : Int)) ∧ IntKind.wrap .i64 (n.int - (1 : Int)) ≤ (65535 : Int) ∧ U.i (a.int + (2 : Int) + (2 : Int)) = U.i (a.int + (2 : Int) + (2 : Int)) ∧ (0 : Int) ≤ a.int + (2 : Int) + (2 : Int) ∧ a.int + (2 : Int) + (2 : Int) ≤ (b.list.length : Int) ∧ byteOk b.list ∧ (↑(List.length (xs ++ [U.l [U.i (getN b.list a.int (2 : Int)), U.i (getN b.list (a.int + (2 : Int)) (2 : Int))]])) : Int) + IntKind.wrap .i64 (n.int - (1 : Int)) ≤ (65535 : Int)) ∧ bif decide (a.int + (2 : Int) + (2 : Int) + (4 : Int) * IntKind.wrap .i64 (n.int - (1 : Int)) ≤ (b.list.length : Int)) then k (Ex.exit (nat_lit 0)) (St.mk [(nat_lit 3, .ptr (nat_lit 384) (nat_lit 0)), (nat_lit 2, .ptr (nat_lit 256) (nat_lit 0))] [(nat_lit 2097153, .box [.val (.sl false [.int .u8]) b, .val (.int IntKind.i64) (U.i (a.int + (2 : Int) + (2 : Int) + (4 : Int) * IntKind.wrap .i64 (n.int - (1 : Int))))]), (nat_lit 384, .box [.val .str s, .val .bool on, .own (nat_lit 8437766)]), (nat_lit 8437766, .arr (nat_lit 72) (xs ++ [U.l [U.i (getN b.list a.int (2 : Int)), U.i (getN b.list (a.int + (2 : Int)) (2 : Int))]] ++ spG b.list (Int.toNat (IntKind.wrap .i64 (n.int - (1 : Int)))) (a.int + (2 : Int) + (2 : Int)))), (nat_lit 256, .box [.val .str s2, .val .bool on2, .own (nat_lit 262)]), (nat_lit 262, .arr (nat_lit 72) ys)]) else ∀ (σ : St) (x : U), getO (St.objs σ) (2097153 : Nat) = some (Obj.box [vl (.int .u8) b, vi x]) → pan (SV.ifc (123 : TypeId) (SV.agg [])) σ else False else False else pan (SV.ifc (nat_lit 123) (SV.agg [])) (St.mk [(nat_lit 21, .own (nat_lit 8437766)), (nat_lit 23, .ptr (nat_lit 2097153) (nat_lit 0)), (nat_lit 22, .val (.int IntKind.i64) (U.i (getN b.list a.int (2 : Int)))), (nat_lit 20, .ptr (nat_lit 384) (nat_lit 2)), (nat_lit 5, .val (.int IntKind.i64) (U.i (getN b.list a.int (2 : Int)))), (nat_lit 19, .val (.int IntKind.i64) (U.i (getN b.list a.int (2 : Int)))), (nat_lit 18, .ptr (nat_lit 2097153) (nat_lit 0)), (nat_lit 15, .val .bool (U.b (decide (n.int > (0 : Int))))), (nat_lit 14, .val (.int IntKind.i64) n), (nat_lit 4, .val (.int IntKind.i64) n), (nat_lit 0, .ptr (nat_lit 2097153) (nat_lit 0)), (nat_lit 3, .ptr (nat_lit 384) (nat_lit 0)), (nat_lit 2, .ptr (nat_lit 256) (nat_lit 0))] [(nat_lit 2097153, .box [.val (.sl false [.int .u8]) b, .val (.int IntKind.i64) (U.i (a.int + (2 : Int)))]), (nat_lit 384, .box [.val .str s, .val .bool on, .own (nat_lit 8437766)]), (nat_lit 8437766, .arr (nat_lit 72) xs), (nat_lit 256, .box [.val .str s2, .val .bool on2, .own (nat_lit 262)]), (nat_lit 262, .arr (nat_lit 72) ys)])) ((rdIs ((2097152 : Nat) + (1 : Nat)) (0 : Nat) ((2097152 : Nat) + (1 : Nat)) b ∧ (1 : Int) ≤ (2 : Int) ∧ (2 : Int) ≤ (4 : Int)) ∧ bif thereR b.list (a.int + (2 : Int)) (2 : Int) then (fun T => Alt T T) (bif decide (List.length xs + ((0 : Nat) + (1 : Nat)) ≤ room) && !oddB ((8437765 : Nat) + (1 : Nat)) then bif Nat.blt (μ [.val (.int IntKind.i64) (U.i (IntKind.wrap .i64 (n.int - (1 : Int)))), .ptr (nat_lit 2097153) (nat_lit 0), .ptr (nat_lit 384) (nat_lit 0), .ptr (nat_lit 256) (nat_lit 0)] [.box [.val (.sl false [.int .u8]) b, .val (.int IntKind.i64) (U.i (a.int + (2 : Int) + (2 : Int)))], .box [.val .str s, .val .bool on, .own (nat_lit 8437766)], .arr (nat_lit 72) (xs ++ [U.l [U.i (getN b.list a.int (2 : Int)), U.i (getN b.list (a.int + (2 : Int)) (2 : Int))]]), .box [.val .str s2, .val .bool on2, .own (nat_lit 262)], .arr (nat_lit 72) ys]) N then ((nat_lit 2097153 = nat_lit 2097153 ∧ nat_lit 0 = nat_lit 0 ∧ nat_lit 384 = nat_lit 384 ∧ nat_lit 0 = nat_lit 0 ∧ nat_lit 256 = nat_lit 256 ∧ nat_lit 0 = nat_lit 0 ∧ nat_lit 8437766 = nat_lit 8437766 ∧ nat_lit 72 = nat_lit 72 ∧ nat_lit 262 = nat_lit 262 ∧ nat_lit 72 = nat_lit 72) ∧ b.list.length ≤ (1099511627776 : Nat) ∧ (0 : Int) ≤ IntKind.wrap .i64 (n.int - (1 : Int)) ∧ IntKind.wrap .i64 (n.int - (1 : Int)) ≤ (65535 : Int) ∧ U.i (a.int + (2 : Int) + (2 : Int)) = U.i (a.int + (2 : Int) + (2 : Int)) ∧ (0 : Int) ≤ a.int + (2 : Int) + (2 : Int) ∧ a.int + (2 : Int) + (2 : Int) ≤ (b.list.length : Int) ∧ byteOk b.list ∧ (↑(List.length (xs ++ [U.l [U.i (getN b.list a.int (2 : Int)), U.i (getN b.list (a.int + (2 : Int)) (2 : Int))]])) : Int) + IntKind.wrap .i64 (n.int - (1 : Int)) ≤ (65535 : Int)) ∧ bif decide (a.int + (2 : Int) + (2 : Int) + (4 : Int) * IntKind.wrap .i64 (n.int - (1 : Int)) ≤ (b.list.length : Int)) then k (Ex.exit (nat_lit 0)) (St.mk [(nat_lit 3, .ptr (nat_lit 384) (nat_lit 0)), (nat_lit 2, .ptr (nat_lit 256) (nat_lit 0))] [(nat_lit 2097153, .box [.val (.sl false [.int .u8]) b, .val (.int IntKind.i64) (U.i (a.int + (2 : Int) + (2 : Int) + (4 : Int) * IntKind.wrap .i64 (n.int - (1 : Int))))]), (nat_lit 384, .box [.val .str s, .val .bool on, .own (nat_lit 8437766)]), (nat_lit 8437766, .arr (nat_lit 72) (xs ++ [U.l [U.i (getN b.list a.int (2 : Int)), U.i (getN b.list (a.int + (2 : Int)) (2 : Int))]] ++ spG b.list (Int.toNat (IntKind.wrap .i64 (n.int - (1 : Int)))) (a.int + (2 : Int) + (2 : Int)))), (nat_lit 256, .box [.val .str s2, .val .bool on2, .own (nat_lit 262)]), (nat_lit 262, .arr (nat_lit 72) ys)]) else ∀ (σ : St) (x : U), getO (St.objs σ) (2097153 : Nat) = some (Obj.box [vl (.int .u8) b, vi x]) → pan (SV.ifc (123 : TypeId) (SV.agg [])) σ else False else False) else pan (SV.ifc (nat_lit 123) (SV.agg [])) (St.mk [(nat_lit 23, .ptr (nat_lit 2097153) (nat_lit 0)), (nat_lit 22, .val (.int IntKind.i64) (U.i (getN b.list a.int (2 : Int)))), (nat_lit 20, .ptr (nat_lit 384) (nat_lit 2)), (nat_lit 5, .val (.int IntKind.i64) (U.i (getN b.list a.int (2 : Int)))), (nat_lit 19, .val (.int IntKind.i64) (U.i (getN b.list a.int (2 : Int)))), (nat_lit 18, .ptr (nat_lit 2097153) (nat_lit 0)), (nat_lit 15, .val .bool (U.b (decide (n.int > (0 : Int))))), (nat_lit 14, .val (.int IntKind.i64) n), (nat_lit 4, .val (.int IntKind.i64) n), (nat_lit 0, .ptr (nat_lit 2097153) (nat_lit 0)), (nat_lit 3, .ptr (nat_lit 384) (nat_lit 0)), (nat_lit 2, .ptr (nat_lit 256) (nat_lit 0))] [(nat_lit 2097153, .box [.val (.sl false [.int .u8]) b, .val (.int IntKind.i64) (U.i (a.int + (2 : Int)))]), (nat_lit 384, .box [.val .str s, .val .bool on, .own (nat_lit 8437766)]), (nat_lit 8437766, .arr (nat_lit 72) xs), (nat_lit 256, .box [.val .str s2, .val .bool on2, .own (nat_lit 262)]), (nat_lit 262, .arr (nat_lit 72) ys)])) else pan (SV.ifc (nat_lit 123) (SV.agg [])) (St.mk [(nat_lit 18, .ptr (nat_lit 2097153) (nat_lit 0)), (nat_lit 15, .val .bool (U.b (decide (n.int > (0 : Int))))), (nat_lit 14, .val (.int IntKind.i64) n), (nat_lit 4, .val (.int IntKind.i64) n), (nat_lit 0, .ptr (nat_lit 2097153) (nat_lit 0)), (nat_lit 3, .ptr (nat_lit 384) (nat_lit 0)), (nat_lit 2, .ptr (nat_lit 256) (nat_lit 0))] [(nat_lit 2097153, .box [.val (.sl false [.int .u8]) b, .val (.int IntKind.i64) a]), (nat_lit 384, .box [.val .str s, .val .bool on, .own (nat_lit 8437766)]), (nat_lit 8437766, .arr (nat_lit 72) xs), (nat_lit 256, .box [.val .str s2, .val .bool on2, .own (nat_lit 262)]), (nat_lit 262, .arr (nat_lit 72) ys)]) else k (Ex.exit (nat_lit 0)) (St.mk [(nat_lit 3, .ptr (nat_lit 384) (nat_lit 0)), (nat_lit 2, .ptr (nat_lit 256) (nat_lit 0))] [(nat_lit 2097153, .box [.val (.sl false [.int .u8]) b, .val (.int IntKind.i64) a]), (nat_lit 384, .box [.val .str s, .val .bool on, .own (nat_lit 8437766)]), (nat_lit 8437766, .arr (nat_lit 72) xs), (nat_lit 256, .box [.val .str s2, .val .bool on2, .own (nat_lit 262)]), (nat_lit 262, .arr (nat_lit 72) ys)])) := by kernel_rfl
theorem rdmap_tree (R : RT) (b a : U) : (runD rdmapC Try.f60 [.ptr 2097153 0] [(2097153, .box [vl (.int .u8) b, vi a])] R) = (rdIs ((2097152 : Nat) + (1 : Nat)) (0 : Nat) ((2097152 : Nat) + (1 : Nat)) b ∧ bif readR b.list a.int then (rdIs ((2097152 : Nat) + (1 : Nat)) (0 : Nat) ((2097152 : Nat) + (1 : Nat)) b ∧ (1 : Int) ≤ (1 : Int) ∧ (1 : Int) ≤ (4 : Int)) ∧ bif thereR b.list (a.int + (2 : Int) + getN b.list a.int (2 : Int)) (1 : Int) then (rdIs ((2097152 : Nat) + (1 : Nat)) (0 : Nat) ((2097152 : Nat) + (1 : Nat)) b ∧ (1 : Int) ≤ (2 : Int) ∧ (2 : Int) ≤ (4 : Int)) ∧ bif thereR b.list (a.int + (2 : Int) + getN b.list a.int (2 : Int) + (1 : Int)) (2 : Int) then ((nat_lit 2097153 = nat_lit 2097153 ∧ nat_lit 0 = nat_lit 0 ∧ nat_lit 384 = nat_lit 384 ∧ nat_lit 0 = nat_lit 0 ∧ nat_lit 256 = nat_lit 256 ∧ nat_lit 0 = nat_lit 0 ∧ nat_lit 8437766 = nat_lit 8437766 ∧ nat_lit 72 = nat_lit 72 ∧ nat_lit 262 = nat_lit 262 ∧ nat_lit 72 = nat_lit 72) ∧ b.list.length ≤ (1099511627776 : Nat) ∧ (0 : Int) ≤ getN b.list (a.int + (2 : Int) + getN b.list a.int (2 : Int) + (1 : Int)) (2 : Int) ∧ getN b.list (a.int + (2 : Int) + getN b.list a.int (2 : Int) + (1 : Int)) (2 : Int) ≤ (65535 : Int) ∧ U.i (a.int + (2 : Int) + getN b.list a.int (2 : Int) + (1 : Int) + (2 : Int)) = U.i (a.int + (2 : Int) + getN b.list a.int (2 : Int) + (1 : Int) + (2 : Int)) ∧ (0 : Int) ≤ a.int + (2 : Int) + getN b.list a.int (2 : Int) + (1 : Int) + (2 : Int) ∧ a.int + (2 : Int) + getN b.list a.int (2 : Int) + (1 : Int) + (2 : Int) ≤ (b.list.length : Int) ∧ byteOk b.list ∧ (↑(0 : Nat) : Int) + getN b.list (a.int + (2 : Int) + getN b.list a.int (2 : Int) + (1 : Int)) (2 : Int) ≤ (65535 : Int)) ∧ bif decide (a.int + (2 : Int) + getN b.list a.int (2 : Int) + (1 : Int) + (2 : Int) + (4 : Int) * getN b.list (a.int + (2 : Int) + getN b.list a.int (2 : Int) + (1 : Int)) (2 : Int) ≤ (b.list.length : Int)) then R (Out.ret [.agg [.val .str (U.s (readV b.list a.int)), .val .bool (U.b (getN b.list (a.int + (2 : Int) + getN b.list a.int (2 : Int)) (1 : Int) == (1 : Int))), .own (nat_lit 2097280)]]) [(nat_lit 2097153, .box [.val (.sl false [.int .u8]) b, .val (.int IntKind.i64) (U.i (a.int + (2 : Int) + getN b.list a.int (2 : Int) + (1 : Int) + (2 : Int) + (4 : Int) * getN b.list (a.int + (2 : Int) + getN b.list a.int (2 : Int) + (1 : Int)) (2 : Int)))]), (nat_lit 2097280, .arr (nat_lit 72) ([] ++ spG b.list (Int.toNat (getN b.list (a.int + (2 : Int) + getN b.list a.int (2 : Int) + (1 : Int)) (2 : Int))) (a.int + (2 : Int) + getN b.list a.int (2 : Int) + (1 : Int) + (2 : Int))))] else ∀ (σ : St) (x : U), getO (St.objs σ) (2097153 : Nat) = some (Obj.box [vl (.int .u8) b, vi x]) → Ctx.pan (Ctx.panics rdmapC fun v σ => finT [((2097153 : Nat), .box [vl (.int .u8) b, vi a])] R (Out.pan v) (St.objs σ)) (SV.ifc (123 : TypeId) (SV.agg [])) σ else R (Out.pan (SV.ifc (nat_lit 123) (SV.agg []))) [(nat_lit 2097153, .box [.val (.sl false [.int .u8]) b, .val (.int IntKind.i64) (U.i (a.int + (2 : Int) + getN b.list a.int (2 : Int) + (1 : Int)))])] else R (Out.pan (SV.ifc (nat_lit 123) (SV.agg []))) [(nat_lit 2097153, .box [.val (.sl false [.int .u8]) b, .val (.int IntKind.i64) (U.i (a.int + (2 : Int) + getN b.list a.int (2 : Int)))])] else R (Out.pan (SV.ifc (nat_lit 123) (SV.agg []))) [(nat_lit 2097153, .box [.val (.sl false [.int .u8]) b, .val (.int IntKind.i64) a])]) := by kernel_rfl
end Go.Mat

namespace Go.Mat
open Go Go.Den Go.Proofs
theorem finT_lost {b a x : U} {R : Out → Objs → Prop} {objs : Objs} (h : getO objs 2097153 = some (.box [vl (.int .u8) b, vi x])) (hR : R unread [(2097153, .box [vl (.int .u8) b, vi x])]) :
    finT [(2097153, .box [vl (.int .u8) b, vi a])] R unread objs := by
  have hr : reach objs 400 [2097153] [] = [2097153] := by
    show (match getO objs 2097153 with | none => reach objs 399 [] [] | some o => reach objs 399 (o.hs ++ []) ([] ++ [2097153])) = [2097153]
    rw [h]; rfl
  have hp : pickR objs [(2097153, 2097153)] [(2097153, 2097153)] = [(2097153, .box [vl (.int .u8) b, vi x])] := by
    unfold pickR
    rw [h]; rfl
  have ht : finT [(2097153, .box [vl (.int .u8) b, vi a])] R unread objs = (let ids := reach objs 400 [2097153] []; let m := finMap [(2097153, .box [vl (.int .u8) b, vi a])] objs 1 ids; bif nodupB (fsts m) && nodupB (snds m) && finT.clear [(2097153, .box [vl (.int .u8) b, vi a])] m then R (unread.ren m) (pickR objs m m) else False) := rfl
  rw [ht, hr]
  show (bif true then R unread (pickR objs [(2097153, 2097153)] [(2097153, 2097153)]) else False)
  rw [hp]
  exact hR
theorem there_no {b : List U} {a n : Int} (h0 : 0 ≤ a) (h1 : a ≤ b.length) (h : thereR b a n = false) : (b.length : Int) < a + n := by
  by_cases hc : a + n ≤ b.length
  · rw [thereR_iff.2 ⟨h0, h1, by omega⟩] at h; cases h
  · omega
theorem rdmap_loop : LoopOk rdmapC 0 (loopBody Try.f60 0) := by
  refine loopOk_of (F := rdmapLoop) (ts := [4, 0, 3, 2]) (os := [2097153, 384, 8437766, 256, 262]) rfl (fun svs _ => match svs with | .val _ n :: _ => n.int.toNat | _ => 0) ?_
  intro pan svs os k ho1 ho2 h
  unfold rdmapLoop at h
  split at h
  · rename_i n p0 o0 p3 o3 p2 o2 b a s on q t xs s2 on2 q2 t2 ys
    obtain ⟨⟨⟨rfl, rfl, rfl, rfl, rfl, rfl, rfl, rfl, rfl, rfl⟩, hb, hn0, hn, ha, h0, h1, hbk, hx⟩, hk⟩ := h
    refine .eq (rdmap_round pan _ _ k n b a s on s2 on2 xs ys) ?_
    simp only [Alt_self]
    refine bd (fun hlt => ⟨⟨⟨rfl, rfl, rfl, hb⟩, by omega, by omega⟩, bi (fun ht => ?_) (fun ht => ?_)⟩) (fun hlt => ?_)
    · have hi := thereR_iff.1 ht
      have hw : IntKind.wrap .i64 (n.int - 1) = n.int - 1 := i64_in (by omega) (by omega)
      have hlt' : (n.int - 1).toNat < n.int.toNat := by omega
      rw [show n.int.toNat = (n.int - 1).toNat + 1 by omega, spG, show a.int + 4 * n.int = a.int + 2 + 2 + 4 * (n.int - 1) by omega, show a.int + 4 = a.int + 2 + 2 by omega, List.append_cons] at hk
      simp only [hw]
      refine ⟨?_, ?_⟩
      all_goals
        refine ⟨⟨⟨rfl, rfl, rfl, hb⟩, by omega, by omega⟩, bi (fun ht2 => ?_) (fun ht2 => ?_)⟩
        · have hj := thereR_iff.1 ht2
          exact broom (by simp [room]; omega) rfl (blt hlt' ⟨⟨⟨by trivial, by trivial, by trivial, by trivial, by trivial, by trivial, by trivial, by trivial, by trivial, by trivial⟩, hb, by omega, by omega, by trivial, by omega, by omega, hbk, by rw [List.length_append, List.length_singleton]; omega⟩, hk⟩)
        · have hj := there_no (by omega) (by omega) ht2
          rw [decide_eq_false (by omega), cond_false] at hk
          exact hk _ _ rfl
    · have hj := there_no (by omega) (by omega) ht
      rw [decide_eq_false (by omega), cond_false] at hk
      exact hk _ _ rfl
    · have hz : n.int = 0 := by omega
      rw [hz, show a.int + 4 * 0 = a.int by omega, decide_eq_true h1, cond_true, ← ha, show (0 : Int).toNat = 0 from rfl, spG, List.append_nil] at hk
      exact hk
  · exact h.elim
theorem rdmap_ok : SpecT PR 60 rdmapF := fun fn hfn => by
  have hf : PR.funcs[(60 : Nat)]? = some Try.f60 := by kernel_rfl
  rw [hf] at hfn; cases hfn
  refine fnT_okH (C := rdmapC) (mkC_ok eqs0_ok mixed_ok .nil (.cons rdnum_ok (.cons rdtext_ok .nil))) hf (by kernel_rfl) (loops_one (by kernel_rfl) rdmap_loop) fun vs objs R h1 h2 h => ?_
  unfold rdmapF at h
  split at h
  · rename_i p o i b a
    obtain ⟨⟨rfl, rfl, rfl, hb⟩, h⟩ := h
    have hbk : byteOk b.list := bytes_ok (h2 _ _ (List.mem_cons_self ..)).1
    clear h1 h2
    refine .eq (rdmap_tree R b a) ?_
    have e3 : a.int + 2 + getN b.list a.int 2 + 1 + 2 = a.int + 2 + getN b.list a.int 2 + 3 := by omega
    unfold rmK rmE rmS rmN at h
    simp only [e3]
    refine ⟨⟨rfl, rfl, rfl, hb⟩, bi (fun h1 => ?_) (fun h1 => ?_)⟩
    · have hr := readR_fits h1
      have hg := getN2 (a := a.int) hbk
      rw [h1, Bool.true_and] at h
      refine ⟨⟨⟨rfl, rfl, rfl, hb⟩, by omega, by omega⟩, bi (fun h2 => ?_) (fun h2 => ?_)⟩
      · have hi := thereR_iff.1 h2
        rw [h2, Bool.true_and] at h
        refine ⟨⟨⟨rfl, rfl, rfl, hb⟩, by omega, by omega⟩, bi (fun h3 => ?_) (fun h3 => ?_)⟩
        · have hj := thereR_iff.1 h3
          have hc := getN2 (a := a.int + 2 + getN b.list a.int 2 + 1) hbk
          rw [h3, Bool.true_and] at h
          refine ⟨⟨⟨by trivial, by trivial, by trivial, by trivial, by trivial, by trivial, by trivial, by trivial, by trivial, by trivial⟩, hb, by omega, by omega, by trivial, by omega, by omega, hbk, by omega⟩, bi (fun h4 => ?_) (fun h4 => ?_)⟩
          · rw [h4, cond_true] at h
            exact h
          · rw [h4, cond_false] at h
            exact fun σ x hx => finT_lost hx (h x)
        · rw [h3, Bool.false_and, cond_false] at h
          exact h _
      · rw [h2, Bool.false_and, Bool.false_and, cond_false] at h
        exact h _
    · rw [h1, Bool.false_and, Bool.false_and, Bool.false_and, cond_false] at h
      exact h _
  · exact h.elim
end Go.Mat

namespace Go.Mat
open Go Go.Den Go.Proofs
def rcK (b : List U) (m a : Int) : Bool := if 0 < m ∧ 0 < getN b a 2 then thereR b a 2 && thereR b (a + 2) 2 && decide (getN b a 2 ≤ m) && rcK b (m - getN b a 2) (a + 4) else decide (m ≤ 0)
termination_by m.toNat
decreasing_by omega
def rcS (b : List U) (m a : Int) : List U := if 0 < m ∧ 0 < getN b a 2 then List.replicate (getN b a 2).toNat (.i (getN b (a + 2) 2)) ++ rcS b (m - getN b a 2) (a + 4) else []
termination_by m.toNat
decreasing_by omega
def rcE (b : List U) (m a : Int) : Int := if 0 < m ∧ 0 < getN b a 2 then rcE b (m - getN b a 2) (a + 4) else a
termination_by m.toNat
decreasing_by omega
def rnK (b : List U) (a : Int) : Bool := thereR b a 4 && decide (getN b a 4 ≤ 65536) && rcK b (getN b a 4) (a + 4)
noncomputable def rdcntF : Tr := fun vs objs k => match vs, objs with
  | [.ptr p o], [(i, .box [.val (.sl false [.int .u8]) b, .val (.int .i64) a])] =>
    rdIs p o i b ∧
    (bif rnK b.list a.int then k (.ret [.own 2097280]) [(2097153, .box [vl (.int .u8) b, vi (.i (rcE b.list (getN b.list a.int 4) (a.int + 4)))]), (2097280, .arr intT (rcS b.list (getN b.list a.int 4) (a.int + 4)))] else ∀ x : U, k unread [(2097153, .box [vl (.int .u8) b, vi x])])
  | _, _ => False
noncomputable def rdcntLoop2 : LoopF := fun _ svs os k => match svs, os with
  | [.val (.int .i64) i, .val (.int .i64) l, .own q, .val (.int .i64) v, .val (.int .i64) n, .ptr p0 o0], [.box [.val (.sl false [.int .u8]) b, .val (.int .i64) a], .arr t xs] =>
    ((p0 = 2097153 ∧ o0 = 0 ∧ q = 636 ∧ t = intT) ∧ 0 ≤ i.int ∧ i.int ≤ l.int ∧ l.int ≤ 65535 ∧ (xs.length : Int) + (l.int - i.int) ≤ 65536) ∧
    k (.exit 2) ⟨[(4, .own 636), (3, vi n), (0, .ptr 2097153 0)], [(2097153, .box [vl (.int .u8) b, vi a]), (636, .arr intT (xs ++ List.replicate (l.int - i.int).toNat v))]⟩
  | _, _ => False
noncomputable def rdcntLoop0 : LoopF := fun pan svs os k => match svs, os with
  | [.own q, .val (.int .i64) n, .ptr p0 o0], [.box [.val (.sl false [.int .u8]) b, .val (.int .i64) a], .arr t xs] =>
    ((p0 = 2097153 ∧ o0 = 0 ∧ q = 636 ∧ t = intT) ∧ b.list.length ≤ 1099511627776 ∧ 0 ≤ n.int ∧ n.int ≤ 65536 ∧ a = .i a.int ∧ 0 ≤ a.int ∧ a.int ≤ b.list.length ∧ byteOk b.list ∧ (xs.length : Int) ≤ n.int) ∧
    (bif rcK b.list (n.int - (xs.length : Int)) a.int then
      k (.exit 0) ⟨[(4, .own 636)], [(2097153, .box [vl (.int .u8) b, vi (.i (rcE b.list (n.int - (xs.length : Int)) a.int))]), (636, .arr intT (xs ++ rcS b.list (n.int - (xs.length : Int)) a.int))]⟩
      else rdLost b pan)
  | _, _ => False
noncomputable def rdcntC : Ctx := mkC PR eqs0 fnsNil (trsCons 57 [false, false] rdnumF trsNil)
  (loopCons 2 [34, 33, 4, 6, 3, 0] [2097153, 636] rdcntLoop2 (loopCons 0 [4, 3, 0] [2097153, 636] rdcntLoop0 noLoops)) (outCons 2 [4, 3, 0] [2097153, 636] (outCons 0 [4] [2097153, 636] noOut)) noOut
theorem rdcnt_round2 (pan : KP) (μ : Mu) (N : Nat) (k : KE) (i l v n b a : U) (xs : List U) : (exec (rdcntC.panics pan) (loopBody Try.f61 1) 2 ⟨[(34, vi i), (33, vi l), (4, .own 636), (6, vi v), (3, vi n), (0, .ptr 2097153 0)], [(2097153, .box [vl (.int .u8) b, vi a]), (636, .arr intT xs)]⟩ (again PR (some ([4, 3, 0], [2097153, 636])) none pan [34, 33, 4, 6, 3, 0] [2097153, 636] rdcntLoop2 μ N k)) = (bif decide (i.int < l.int) then bif decide (List.length xs + ((0 : Nat) + (1 : Nat)) ≤ room) && !oddB (636 : Nat) then bif Nat.blt (μ [.val (.int IntKind.i64) (U.i (IntKind.wrap .i64 (i.int + (1 : Int)))), .val (.int IntKind.i64) l, .own (nat_lit 636), .val (.int IntKind.i64) v, .val (.int IntKind.i64) n, .ptr (nat_lit 2097153) (nat_lit 0)] [.box [.val (.sl false [.int .u8]) b, .val (.int IntKind.i64) a], .arr (nat_lit 3) (xs ++ [v])]) N then ((nat_lit 2097153 = nat_lit 2097153 ∧ nat_lit 0 = nat_lit 0 ∧ nat_lit 636 = nat_lit 636 ∧ nat_lit 3 = nat_lit 3) ∧ (0 : Int) ≤ IntKind.wrap .i64 (i.int + (1 : Int)) ∧ IntKind.wrap .i64 (i.int + (1 : Int)) ≤ l.int ∧ l.int ≤ (65535 : Int) ∧ (↑(List.length (xs ++ [v])) : Int) + (l.int - IntKind.wrap .i64 (i.int + (1 : Int))) ≤ (65536 : Int)) ∧ k (Ex.exit (nat_lit 2)) (St.mk [(nat_lit 4, .own (nat_lit 636)), (nat_lit 3, .val (.int IntKind.i64) n), (nat_lit 0, .ptr (nat_lit 2097153) (nat_lit 0))] [(nat_lit 2097153, .box [.val (.sl false [.int .u8]) b, .val (.int IntKind.i64) a]), (nat_lit 636, .arr (nat_lit 3) (xs ++ [v] ++ List.replicate (Int.toNat (l.int - IntKind.wrap .i64 (i.int + (1 : Int)))) v))]) else False else False else k (Ex.exit (nat_lit 2)) (St.mk [(nat_lit 4, .own (nat_lit 636)), (nat_lit 3, .val (.int IntKind.i64) n), (nat_lit 0, .ptr (nat_lit 2097153) (nat_lit 0))] [(nat_lit 2097153, .box [.val (.sl false [.int .u8]) b, .val (.int IntKind.i64) a]), (nat_lit 636, .arr (nat_lit 3) xs)])) := by kernel_rfl
theorem rdcnt_round0 (pan : KP) (μ : Mu) (N : Nat) (k : KE) (n b a : U) (xs : List U) : (exec (rdcntC.panics pan) (loopBody Try.f61 0) 0 ⟨[(4, .own 636), (3, vi n), (0, .ptr 2097153 0)], [(2097153, .box [vl (.int .u8) b, vi a]), (636, .arr intT xs)]⟩ (again PR (some ([4], [2097153, 636])) none pan [4, 3, 0] [2097153, 636] rdcntLoop0 μ N k)) = (bif decide ((xs.length : Int) < n.int) then (rdIs ((2097152 : Nat) + (1 : Nat)) (0 : Nat) ((2097152 : Nat) + (1 : Nat)) b ∧ (1 : Int) ≤ (2 : Int) ∧ (2 : Int) ≤ (4 : Int)) ∧ bif thereR b.list a.int (2 : Int) then (rdIs ((2097152 : Nat) + (1 : Nat)) (0 : Nat) ((2097152 : Nat) + (1 : Nat)) b ∧ (1 : Int) ≤ (2 : Int) ∧ (2 : Int) ≤ (4 : Int)) ∧ bif thereR b.list (a.int + (2 : Int)) (2 : Int) then bif getN b.list a.int (2 : Int) == (0 : Int) then pan (SV.ifc (nat_lit 123) (SV.agg [])) (St.mk [(nat_lit 32, .ifc (nat_lit 123) (SV.agg [])), (nat_lit 31, .agg []), (nat_lit 30, .val .bool (U.b true)), (nat_lit 29, .und), (nat_lit 23, .val .bool (U.b true)), (nat_lit 28, .und), (nat_lit 23, .val .bool (U.b true)), (nat_lit 27, .und), (nat_lit 23, .val .bool (U.b true)), (nat_lit 26, .und), (nat_lit 23, .val .bool (U.b true)), (nat_lit 25, .und), (nat_lit 23, .val .bool (U.b true)), (nat_lit 24, .und), (nat_lit 23, .val .bool (U.b true)), (nat_lit 23, .val .bool (U.b (getN b.list a.int (2 : Int) == (0 : Int)))), (nat_lit 22, .val .bool (U.b (getN b.list a.int (2 : Int) == (0 : Int)))), (nat_lit 21, .val (.int IntKind.i64) (U.i (getN b.list a.int (2 : Int)))), (nat_lit 6, .val (.int IntKind.i64) (U.i (getN b.list (a.int + (2 : Int)) (2 : Int)))), (nat_lit 20, .val (.int IntKind.i64) (U.i (getN b.list (a.int + (2 : Int)) (2 : Int)))), (nat_lit 19, .ptr (nat_lit 2097153) (nat_lit 0)), (nat_lit 5, .val (.int IntKind.i64) (U.i (getN b.list a.int (2 : Int)))), (nat_lit 18, .val (.int IntKind.i64) (U.i (getN b.list a.int (2 : Int)))), (nat_lit 17, .ptr (nat_lit 2097153) (nat_lit 0)), (nat_lit 16, .val .bool (U.b (decide ((xs.length : Int) < n.int)))), (nat_lit 15, .val (.int IntKind.i64) n), (nat_lit 14, .val (.int IntKind.i64) (U.i (xs.length : Int))), (nat_lit 13, .own (nat_lit 636)), (nat_lit 4, .own (nat_lit 636)), (nat_lit 3, .val (.int IntKind.i64) n), (nat_lit 0, .ptr (nat_lit 2097153) (nat_lit 0))] [(nat_lit 2097153, .box [.val (.sl false [.int .u8]) b, .val (.int IntKind.i64) (U.i (a.int + (2 : Int) + (2 : Int)))]), (nat_lit 636, .arr (nat_lit 3) xs)]) else bif decide (getN b.list a.int (2 : Int) > IntKind.wrap .i64 (n.int - (xs.length : Int))) then pan (SV.ifc (nat_lit 123) (SV.agg [])) (St.mk [(nat_lit 32, .ifc (nat_lit 123) (SV.agg [])), (nat_lit 31, .agg []), (nat_lit 30, .val .bool (U.b (decide (getN b.list a.int (2 : Int) > IntKind.wrap .i64 (n.int - (xs.length : Int)))))), (nat_lit 29, .val .bool (U.b (decide (getN b.list a.int (2 : Int) > IntKind.wrap .i64 (n.int - (xs.length : Int)))))), (nat_lit 23, .val .bool (U.b false)), (nat_lit 28, .val (.int IntKind.i64) (U.i (IntKind.wrap .i64 (n.int - (xs.length : Int))))), (nat_lit 23, .val .bool (U.b false)), (nat_lit 27, .val (.int IntKind.i64) (U.i (xs.length : Int))), (nat_lit 23, .val .bool (U.b false)), (nat_lit 26, .own (nat_lit 636)), (nat_lit 23, .val .bool (U.b false)), (nat_lit 25, .val (.int IntKind.i64) n), (nat_lit 23, .val .bool (U.b false)), (nat_lit 24, .val (.int IntKind.i64) (U.i (getN b.list a.int (2 : Int)))), (nat_lit 23, .val .bool (U.b false)), (nat_lit 23, .val .bool (U.b (getN b.list a.int (2 : Int) == (0 : Int)))), (nat_lit 22, .val .bool (U.b (getN b.list a.int (2 : Int) == (0 : Int)))), (nat_lit 21, .val (.int IntKind.i64) (U.i (getN b.list a.int (2 : Int)))), (nat_lit 6, .val (.int IntKind.i64) (U.i (getN b.list (a.int + (2 : Int)) (2 : Int)))), (nat_lit 20, .val (.int IntKind.i64) (U.i (getN b.list (a.int + (2 : Int)) (2 : Int)))), (nat_lit 19, .ptr (nat_lit 2097153) (nat_lit 0)), (nat_lit 5, .val (.int IntKind.i64) (U.i (getN b.list a.int (2 : Int)))), (nat_lit 18, .val (.int IntKind.i64) (U.i (getN b.list a.int (2 : Int)))), (nat_lit 17, .ptr (nat_lit 2097153) (nat_lit 0)), (nat_lit 16, .val .bool (U.b (decide ((xs.length : Int) < n.int)))), (nat_lit 15, .val (.int IntKind.i64) n), (nat_lit 14, .val (.int IntKind.i64) (U.i (xs.length : Int))), (nat_lit 13, .own (nat_lit 636)), (nat_lit 4, .own (nat_lit 636)), (nat_lit 3, .val (.int IntKind.i64) n), (nat_lit 0, .ptr (nat_lit 2097153) (nat_lit 0))] [(nat_lit 2097153, .box [.val (.sl false [.int .u8]) b, .val (.int IntKind.i64) (U.i (a.int + (2 : Int) + (2 : Int)))]), (nat_lit 636, .arr (nat_lit 3) xs)]) else ((nat_lit 2097153 = nat_lit 2097153 ∧ nat_lit 0 = nat_lit 0 ∧ nat_lit 636 = nat_lit 636 ∧ nat_lit 3 = nat_lit 3) ∧ (0 : Int) ≤ (0 : Int) ∧ (0 : Int) ≤ getN b.list a.int (2 : Int) ∧ getN b.list a.int (2 : Int) ≤ (65535 : Int) ∧ (xs.length : Int) + (getN b.list a.int (2 : Int) - (0 : Int)) ≤ (65536 : Int)) ∧ bif Nat.blt (μ [.own (nat_lit 636), .val (.int IntKind.i64) n, .ptr (nat_lit 2097153) (nat_lit 0)] [.box [.val (.sl false [.int .u8]) b, .val (.int IntKind.i64) (U.i (a.int + (2 : Int) + (2 : Int)))], .arr (nat_lit 3) (xs ++ List.replicate (Int.toNat (getN b.list a.int (2 : Int) - (0 : Int))) (U.i (getN b.list (a.int + (2 : Int)) (2 : Int))))]) N then ((nat_lit 2097153 = nat_lit 2097153 ∧ nat_lit 0 = nat_lit 0 ∧ nat_lit 636 = nat_lit 636 ∧ nat_lit 3 = nat_lit 3) ∧ b.list.length ≤ (1099511627776 : Nat) ∧ (0 : Int) ≤ n.int ∧ n.int ≤ (65536 : Int) ∧ U.i (a.int + (2 : Int) + (2 : Int)) = U.i (a.int + (2 : Int) + (2 : Int)) ∧ (0 : Int) ≤ a.int + (2 : Int) + (2 : Int) ∧ a.int + (2 : Int) + (2 : Int) ≤ (b.list.length : Int) ∧ byteOk b.list ∧ (↑(List.length (xs ++ List.replicate (Int.toNat (getN b.list a.int (2 : Int) - (0 : Int))) (U.i (getN b.list (a.int + (2 : Int)) (2 : Int))))) : Int) ≤ n.int) ∧ bif rcK b.list (n.int - (↑(List.length (xs ++ List.replicate (Int.toNat (getN b.list a.int (2 : Int) - (0 : Int))) (U.i (getN b.list (a.int + (2 : Int)) (2 : Int))))) : Int)) (a.int + (2 : Int) + (2 : Int)) then k (Ex.exit (nat_lit 0)) (St.mk [(nat_lit 4, .own (nat_lit 636))] [(nat_lit 2097153, .box [.val (.sl false [.int .u8]) b, .val (.int IntKind.i64) (U.i (rcE b.list (n.int - (↑(List.length (xs ++ List.replicate (Int.toNat (getN b.list a.int (2 : Int) - (0 : Int))) (U.i (getN b.list (a.int + (2 : Int)) (2 : Int))))) : Int)) (a.int + (2 : Int) + (2 : Int))))]), (nat_lit 636, .arr (nat_lit 3) (xs ++ List.replicate (Int.toNat (getN b.list a.int (2 : Int) - (0 : Int))) (U.i (getN b.list (a.int + (2 : Int)) (2 : Int))) ++ rcS b.list (n.int - (↑(List.length (xs ++ List.replicate (Int.toNat (getN b.list a.int (2 : Int) - (0 : Int))) (U.i (getN b.list (a.int + (2 : Int)) (2 : Int))))) : Int)) (a.int + (2 : Int) + (2 : Int))))]) else ∀ (σ : St) (x : U), getO (St.objs σ) (2097153 : Nat) = some (Obj.box [vl (.int .u8) b, vi x]) → pan (SV.ifc (123 : TypeId) (SV.agg [])) σ else False else pan (SV.ifc (nat_lit 123) (SV.agg [])) (St.mk [(nat_lit 19, .ptr (nat_lit 2097153) (nat_lit 0)), (nat_lit 5, .val (.int IntKind.i64) (U.i (getN b.list a.int (2 : Int)))), (nat_lit 18, .val (.int IntKind.i64) (U.i (getN b.list a.int (2 : Int)))), (nat_lit 17, .ptr (nat_lit 2097153) (nat_lit 0)), (nat_lit 16, .val .bool (U.b (decide ((xs.length : Int) < n.int)))), (nat_lit 15, .val (.int IntKind.i64) n), (nat_lit 14, .val (.int IntKind.i64) (U.i (xs.length : Int))), (nat_lit 13, .own (nat_lit 636)), (nat_lit 4, .own (nat_lit 636)), (nat_lit 3, .val (.int IntKind.i64) n), (nat_lit 0, .ptr (nat_lit 2097153) (nat_lit 0))] [(nat_lit 2097153, .box [.val (.sl false [.int .u8]) b, .val (.int IntKind.i64) (U.i (a.int + (2 : Int)))]), (nat_lit 636, .arr (nat_lit 3) xs)]) else pan (SV.ifc (nat_lit 123) (SV.agg [])) (St.mk [(nat_lit 17, .ptr (nat_lit 2097153) (nat_lit 0)), (nat_lit 16, .val .bool (U.b (decide ((xs.length : Int) < n.int)))), (nat_lit 15, .val (.int IntKind.i64) n), (nat_lit 14, .val (.int IntKind.i64) (U.i (xs.length : Int))), (nat_lit 13, .own (nat_lit 636)), (nat_lit 4, .own (nat_lit 636)), (nat_lit 3, .val (.int IntKind.i64) n), (nat_lit 0, .ptr (nat_lit 2097153) (nat_lit 0))] [(nat_lit 2097153, .box [.val (.sl false [.int .u8]) b, .val (.int IntKind.i64) a]), (nat_lit 636, .arr (nat_lit 3) xs)]) else k (Ex.exit (nat_lit 0)) (St.mk [(nat_lit 4, .own (nat_lit 636))] [(nat_lit 2097153, .box [.val (.sl false [.int .u8]) b, .val (.int IntKind.i64) a]), (nat_lit 636, .arr (nat_lit 3) xs)])) := by kernel_rfl
theorem rdcnt_tree (R : RT) (b a : U) : (runD rdcntC Try.f61 [.ptr 2097153 0] [(2097153, .box [vl (.int .u8) b, vi a])] R) = ((rdIs ((2097152 : Nat) + (1 : Nat)) (0 : Nat) ((2097152 : Nat) + (1 : Nat)) b ∧ (1 : Int) ≤ (4 : Int) ∧ (4 : Int) ≤ (4 : Int)) ∧ bif thereR b.list a.int (4 : Int) then bif decide (getN b.list a.int (4 : Int) > (65536 : Int)) then R (Out.pan (SV.ifc (nat_lit 123) (SV.agg []))) [(nat_lit 2097153, .box [.val (.sl false [.int .u8]) b, .val (.int IntKind.i64) (U.i (a.int + (4 : Int)))])] else ((nat_lit 2097153 = nat_lit 2097153 ∧ nat_lit 0 = nat_lit 0 ∧ nat_lit 636 = nat_lit 636 ∧ nat_lit 3 = nat_lit 3) ∧ b.list.length ≤ (1099511627776 : Nat) ∧ (0 : Int) ≤ getN b.list a.int (4 : Int) ∧ getN b.list a.int (4 : Int) ≤ (65536 : Int) ∧ U.i (a.int + (4 : Int)) = U.i (a.int + (4 : Int)) ∧ (0 : Int) ≤ a.int + (4 : Int) ∧ a.int + (4 : Int) ≤ (b.list.length : Int) ∧ byteOk b.list ∧ (↑(0 : Nat) : Int) ≤ getN b.list a.int (4 : Int)) ∧ bif rcK b.list (getN b.list a.int (4 : Int) - (↑(0 : Nat) : Int)) (a.int + (4 : Int)) then R (Out.ret [.own (nat_lit 2097280)]) [(nat_lit 2097153, .box [.val (.sl false [.int .u8]) b, .val (.int IntKind.i64) (U.i (rcE b.list (getN b.list a.int (4 : Int) - (↑(0 : Nat) : Int)) (a.int + (4 : Int))))]), (nat_lit 2097280, .arr (nat_lit 3) ([] ++ rcS b.list (getN b.list a.int (4 : Int) - (↑(0 : Nat) : Int)) (a.int + (4 : Int))))] else ∀ (σ : St) (x : U), getO (St.objs σ) (2097153 : Nat) = some (Obj.box [vl (.int .u8) b, vi x]) → Ctx.pan (Ctx.panics rdcntC fun v σ => finT [((2097153 : Nat), .box [vl (.int .u8) b, vi a])] R (Out.pan v) (St.objs σ)) (SV.ifc (123 : TypeId) (SV.agg [])) σ else R (Out.pan (SV.ifc (nat_lit 123) (SV.agg []))) [(nat_lit 2097153, .box [.val (.sl false [.int .u8]) b, .val (.int IntKind.i64) a])]) := by kernel_rfl
end Go.Mat

namespace Go.Mat
open Go Go.Den Go.Proofs
theorem rcK_end {b : List U} {m a : Int} (h : m ≤ 0) : rcK b m a = true := by
  rw [rcK, if_neg (by omega), decide_eq_true h]
theorem rcS_end {b : List U} {m a : Int} (h : m ≤ 0) : rcS b m a = [] := by
  rw [rcS, if_neg (by omega)]
theorem rcE_end {b : List U} {m a : Int} (h : m ≤ 0) : rcE b m a = a := by
  rw [rcE, if_neg (by omega)]
theorem rcK_zero {b : List U} {m a : Int} (h : 0 < m) (h1 : getN b a 2 ≤ 0) : rcK b m a = false := by
  rw [rcK, if_neg (by omega), decide_eq_false (by omega)]
theorem rcK_no2 {b : List U} {m a : Int} (h : 0 < m) (h1 : thereR b (a + 2) 2 = false) : rcK b m a = false := by
  rw [rcK]
  split
  · rw [h1]; simp
  · rw [decide_eq_false (by omega)]
theorem rcK_big {b : List U} {m a : Int} (h : 0 < m) (h1 : m < getN b a 2) : rcK b m a = false := by
  rw [rcK, if_pos (by omega), decide_eq_false (by omega)]
  simp
theorem rcK_step {b : List U} {m a : Int} (h : 0 < m) (h0 : 0 < getN b a 2) (h1 : thereR b a 2 = true) (h2 : thereR b (a + 2) 2 = true) (h3 : getN b a 2 ≤ m) : rcK b m a = rcK b (m - getN b a 2) (a + 2 + 2) := by
  rw [rcK, if_pos ⟨h, h0⟩, h1, h2, decide_eq_true h3, show a + 4 = a + 2 + 2 by omega]
  rfl
theorem rcS_step {b : List U} {m a : Int} (h : 0 < m) (h0 : 0 < getN b a 2) : rcS b m a = List.replicate (getN b a 2).toNat (.i (getN b (a + 2) 2)) ++ rcS b (m - getN b a 2) (a + 2 + 2) := by
  rw [rcS, if_pos ⟨h, h0⟩, show a + 4 = a + 2 + 2 by omega]
theorem rcE_step {b : List U} {m a : Int} (h : 0 < m) (h0 : 0 < getN b a 2) : rcE b m a = rcE b (m - getN b a 2) (a + 2 + 2) := by
  rw [rcE, if_pos ⟨h, h0⟩, show a + 4 = a + 2 + 2 by omega]
theorem rdcnt_loop2 : LoopOk rdcntC 2 (loopBody Try.f61 1) := by
  refine loopOk_of (F := rdcntLoop2) (ts := [34, 33, 4, 6, 3, 0]) (os := [2097153, 636]) rfl (fun svs _ => match svs with | .val _ i :: .val _ l :: _ => (l.int - i.int).toNat | _ => 0) ?_
  intro pan svs os k ho1 ho2 h
  unfold rdcntLoop2 at h
  split at h
  · rename_i i l q v n p0 o0 b a t xs
    obtain ⟨⟨⟨rfl, rfl, rfl, rfl⟩, h0, h1, h2, hx⟩, hk⟩ := h
    refine .eq (rdcnt_round2 pan _ _ k i l v n b a xs) ?_
    have hw : IntKind.wrap .i64 (i.int + 1) = i.int + 1 := i64_in (by omega) (by omega)
    simp only [hw]
    refine bd (fun hlt => ?_) (fun hlt => ?_)
    · have hlt' : (l.int - (i.int + 1)).toNat < (l.int - i.int).toNat := by omega
      rw [show (l.int - i.int).toNat = (l.int - (i.int + 1)).toNat + 1 by omega, List.replicate_succ, List.append_cons] at hk
      exact broom (by simp [room]; omega) rfl (blt hlt' ⟨⟨⟨by trivial, by trivial, by trivial, by trivial⟩, by omega, by omega, h2, by rw [List.length_append, List.length_singleton]; omega⟩, hk⟩)
    · rw [show (l.int - i.int).toNat = 0 by omega, List.replicate_zero, List.append_nil] at hk
      exact hk
  · exact h.elim
theorem rdcnt_loop0 : LoopOk rdcntC 0 (loopBody Try.f61 0) := by
  refine loopOk_of (F := rdcntLoop0) (ts := [4, 3, 0]) (os := [2097153, 636]) rfl (fun svs os => match svs, os with | [_, .val _ n, _], [_, .arr _ xs] => (n.int - (xs.length : Int)).toNat | _, _ => 0) ?_
  intro pan svs os k ho1 ho2 h
  unfold rdcntLoop0 at h
  split at h
  · rename_i q n p0 o0 b a t xs
    obtain ⟨⟨⟨rfl, rfl, rfl, rfl⟩, hb, hn0, hn, ha, h0, h1, hbk, hx⟩, hk⟩ := h
    refine .eq (rdcnt_round0 pan _ _ k n b a xs) ?_
    have hg := getN2 (a := a.int) hbk
    have hw : IntKind.wrap .i64 (n.int - (xs.length : Int)) = n.int - (xs.length : Int) := i64_in (by omega) (by omega)
    simp only [hw, Int.sub_zero]
    refine bd (fun hlt => ⟨⟨⟨rfl, rfl, rfl, hb⟩, by omega, by omega⟩, bi (fun ht => ?_) (fun ht => ?_)⟩) (fun hlt => ?_)
    · have hi := thereR_iff.1 ht
      refine ⟨⟨⟨rfl, rfl, rfl, hb⟩, by omega, by omega⟩, bi (fun ht2 => ?_) (fun ht2 => ?_)⟩
      · have hj := thereR_iff.1 ht2
        refine bi (fun hz => ?_) (fun hz => ?_)
        · rw [rcK_zero (by omega) (by have := eq_of_beq hz; omega), cond_false] at hk
          exact hk _ _ rfl
        have hz : getN b.list a.int 2 ≠ 0 := by simpa using hz
        refine bd (fun hg1 => ?_) (fun hg1 => ?_)
        · rw [rcK_big (by omega) (by omega), cond_false] at hk
          exact hk _ _ rfl
        have e : n.int - ((xs ++ List.replicate (getN b.list a.int 2).toNat (U.i (getN b.list (a.int + 2) 2))).length : Int) = n.int - (xs.length : Int) - getN b.list a.int 2 := by
          rw [List.length_append, List.length_replicate]; omega
        have el : ((xs ++ List.replicate (getN b.list a.int 2).toNat (U.i (getN b.list (a.int + 2) 2))).length : Int) ≤ n.int := by omega
        have hlt' : (n.int - ((xs ++ List.replicate (getN b.list a.int 2).toNat (U.i (getN b.list (a.int + 2) 2))).length : Int)).toNat < (n.int - (xs.length : Int)).toNat := by omega
        rw [rcK_step (by omega) (by omega) ht ht2 (by omega), rcS_step (by omega) (by omega), rcE_step (by omega) (by omega), ← List.append_assoc, ← e] at hk
        exact ⟨⟨⟨by trivial, by trivial, by trivial, by trivial⟩, by omega, by omega, by omega, by omega⟩, blt hlt' ⟨⟨⟨by trivial, by trivial, by trivial, by trivial⟩, hb, hn0, hn, by trivial, by omega, by omega, hbk, el⟩, hk⟩⟩
      · rw [rcK_no2 (by omega) ht2, cond_false] at hk
        exact hk _ _ rfl
    · have hz : getN b.list a.int 2 = 0 := by
        unfold getN
        rw [ht]; rfl
      rw [rcK_zero (by omega) (by omega), cond_false] at hk
      exact hk _ _ rfl
    · rw [rcK_end (by omega), rcS_end (by omega), rcE_end (by omega), cond_true, ← ha, List.append_nil] at hk
      exact hk
  · exact h.elim
theorem rdcnt_ok : SpecT PR 61 rdcntF := fun fn hfn => by
  have hf : PR.funcs[(61 : Nat)]? = some Try.f61 := by kernel_rfl
  rw [hf] at hfn; cases hfn
  refine fnT_okH (C := rdcntC) (mkC_ok eqs0_ok mixed_ok .nil (.cons rdnum_ok .nil)) hf (by kernel_rfl) (loops_two (by kernel_rfl) rdcnt_loop0 rdcnt_loop2) fun vs objs R h1 h2 h => ?_
  unfold rdcntF at h
  split at h
  · rename_i p o i b a
    obtain ⟨⟨rfl, rfl, rfl, hb⟩, h⟩ := h
    have hbk : byteOk b.list := bytes_ok (h2 _ _ (List.mem_cons_self ..)).1
    clear h1 h2
    refine .eq (rdcnt_tree R b a) ?_
    have hg := getN4 (a := a.int) hbk
    have e0 : ((0 : Nat) : Int) = 0 := rfl
    unfold rnK at h
    simp only [e0, Int.sub_zero]
    refine ⟨⟨⟨rfl, rfl, rfl, hb⟩, by omega, by omega⟩, bi (fun h1 => ?_) (fun h1 => ?_)⟩
    · have hi := thereR_iff.1 h1
      rw [h1, Bool.true_and] at h
      refine bd (fun h2 => ?_) (fun h2 => ?_)
      · rw [decide_eq_false (by omega), Bool.false_and, cond_false] at h
        exact h _
      rw [decide_eq_true (by omega), Bool.true_and] at h
      refine ⟨⟨⟨by trivial, by trivial, by trivial, by trivial⟩, hb, by omega, by omega, by trivial, by omega, by omega, hbk, by omega⟩, bi (fun h3 => ?_) (fun h3 => ?_)⟩
      · rw [h3, cond_true] at h
        exact h
      · rw [h3, cond_false] at h
        exact fun σ x hx => finT_lost hx (h x)
    · rw [h1, Bool.false_and, Bool.false_and, cond_false] at h
      exact h _
  · exact h.elim
end Go.Mat

namespace Go.Mat
open Go Go.Den Go.Proofs
abbrev shT : TypeId := 41
abbrev bmT : TypeId := 44
def shZ (b : List U) (a : Int) : Int := getN b (rmN b a) 2
def sh1K (b : List U) (c a : Int) : Bool := readR b a && thereR b (rmN b a) 2 && tgR b (rmN b a + 2) (shZ b a / 2 ^ c.toNat) c
def sh1E (b : List U) (a : Int) : Int := rmN b a + 2 + 2 + 130 * getN b (rmN b a + 2) 2
def sh1U (b : List U) (a : Int) : U := .l [.s (readV b a), .i (shZ b a), .l (tgL b (rmN b a + 2))]
def shK (b : List U) (c : Int) : Nat → Int → Bool
  | 0, _ => true
  | m + 1, a => sh1K b c a && shK b c m (sh1E b a)
def shE (b : List U) : Nat → Int → Int
  | 0, a => a
  | m + 1, a => shE b m (sh1E b a)
def shS (b : List U) : Nat → Int → List U
  | 0, _ => []
  | m + 1, a => sh1U b a :: shS b m (sh1E b a)
abbrev rmBox (c sz bk T : U) : Den.Obj := .box [vi c, vi sz, .val .str bk, vl (.sl true EC) T, .own 8437770, .own 8437772, .own 8437774]
abbrev rmRes : List (Nat × Den.Obj) := [(256, .box [vi (.i 0), vi (.i 0), .val .str (.s ⟨#[]⟩), .own 264, .own 266, .own 268, .own 270]), (264, .arr leafT []), (266, .arr shT []), (268, .arr bmT []), (270, .arr intT [])]
def rdmIs (p0 o0 p3 o3 p2 o2 q4 q5 q6 r3 r4 r5 r6 : Nat) (ec : List Ct) (t1 t2 t3 u1 u2 u3 u4 : TypeId) (ys zs x1 x2 x3 x4 : List U) (i0 i1 s0 : U) : Prop :=
  (p0 = 2097153 ∧ o0 = 0 ∧ p3 = 384 ∧ o3 = 0 ∧ p2 = 256 ∧ o2 = 0) ∧ (q4 = 8437770 ∧ q5 = 8437772 ∧ q6 = 8437774 ∧ r3 = 264 ∧ r4 = 266 ∧ r5 = 268 ∧ r6 = 270) ∧ ec = EC ∧
  (t1 = shT ∧ t2 = bmT ∧ t3 = intT ∧ u1 = leafT ∧ u2 = shT ∧ u3 = bmT ∧ u4 = intT) ∧ (ys = [] ∧ zs = [] ∧ x1 = [] ∧ x2 = [] ∧ x3 = [] ∧ x4 = []) ∧ i0 = .i 0 ∧ i1 = .i 0 ∧ s0 = .s ⟨#[]⟩
noncomputable def rdmLoop0 : LoopF := fun pan svs os k => match svs, os with
  | [.val (.int .i64) n, .ptr p0 o0, .ptr p3 o3, .ptr p2 o2], [.box [.val (.sl false [.int .u8]) b, .val (.int .i64) a], .box [.val (.int .i64) c, .val (.int .i64) sz, .val .str bk, .val (.sl false [.sl true ec]) T, .own q4, .own q5, .own q6], .arr t1 xs, .arr t2 ys, .arr t3 zs,
      .box [.val (.int .i64) i0, .val (.int .i64) i1, .val .str s0, .own r3, .own r4, .own r5, .own r6], .arr u1 x1, .arr u2 x2, .arr u3 x3, .arr u4 x4] =>
    (rdmIs p0 o0 p3 o3 p2 o2 q4 q5 q6 r3 r4 r5 r6 ec t1 t2 t3 u1 u2 u3 u4 ys zs x1 x2 x3 x4 i0 i1 s0 ∧
      b.list.length ≤ 1099511627776 ∧ 0 ≤ c.int ∧ 0 ≤ n.int ∧ n.int ≤ 255 ∧ a = .i a.int ∧ 0 ≤ a.int ∧ a.int ≤ b.list.length ∧ byteOk b.list ∧ (xs.length : Int) + n.int ≤ 255) ∧
    (bif shK b.list c.int n.int.toNat a.int then
      k (.exit 0) ⟨[(0, .ptr 2097153 0), (3, .ptr 384 0), (2, .ptr 256 0)], (2097153, .box [vl (.int .u8) b, vi (.i (shE b.list n.int.toNat a.int))]) :: (384, rmBox c sz bk T) :: (8437770, .arr shT (xs ++ shS b.list n.int.toNat a.int)) :: (8437772, .arr bmT []) :: (8437774, .arr intT []) :: rmRes⟩
      else rdLost b pan)
  | _, _ => False
def bm1U (b : List U) (a : Int) : U := .l [.s (readV b a), .b (getN b (rmN b a) 1 == 1), .l (rmS b a)]
def bmK (b : List U) : Nat → Int → Bool
  | 0, _ => true
  | m + 1, a => rmK b a && bmK b m (rmE b a)
def bmE (b : List U) : Nat → Int → Int
  | 0, a => a
  | m + 1, a => bmE b m (rmE b a)
def bmS (b : List U) : Nat → Int → List U
  | 0, _ => []
  | m + 1, a => bm1U b a :: bmS b m (rmE b a)
noncomputable def rdmLoop2 : LoopF := fun pan svs os k => match svs, os with
  | [.val (.int .i64) n, .ptr p0 o0, .ptr p3 o3, .ptr p2 o2], [.box [.val (.sl false [.int .u8]) b, .val (.int .i64) a], .box [.val (.int .i64) c, .val (.int .i64) sz, .val .str bk, .val (.sl false [.sl true ec]) T, .own q4, .own q5, .own q6], .arr t1 xs, .arr t2 ys, .arr t3 zs,
      .box [.val (.int .i64) i0, .val (.int .i64) i1, .val .str s0, .own r3, .own r4, .own r5, .own r6], .arr u1 x1, .arr u2 x2, .arr u3 x3, .arr u4 x4] =>
    (rdmIs p0 o0 p3 o3 p2 o2 q4 q5 q6 r3 r4 r5 r6 ec t1 t2 t3 u1 u2 u3 u4 [] zs x1 x2 x3 x4 i0 i1 s0 ∧
      b.list.length ≤ 1099511627776 ∧ 0 ≤ n.int ∧ n.int ≤ 255 ∧ a = .i a.int ∧ 0 ≤ a.int ∧ a.int ≤ b.list.length ∧ byteOk b.list ∧ (ys.length : Int) + n.int ≤ 255) ∧
    (bif bmK b.list n.int.toNat a.int then
      k (.exit 2) ⟨[(0, .ptr 2097153 0), (3, .ptr 384 0), (2, .ptr 256 0)], (2097153, .box [vl (.int .u8) b, vi (.i (bmE b.list n.int.toNat a.int))]) :: (384, rmBox c sz bk T) :: (8437770, .arr shT xs) :: (8437772, .arr bmT (ys ++ bmS b.list n.int.toNat a.int)) :: (8437774, .arr intT []) :: rmRes⟩
      else rdLost b pan)
  | _, _ => False
noncomputable def rdmC : Ctx := mkC PR eqs0 fnsNil (trsCons 57 [false, false] rdnumF (trsCons 58 [false] rdtextF (trsCons 59 [false, false, false] rdtabF
    (trsCons 60 [false] rdmapF (trsCons 61 [false] rdcntF trsNil)))))
  (loopCons 2 [6, 0, 3, 2] [2097153, 384, 8437770, 8437772, 8437774, 256, 264, 266, 268, 270] rdmLoop2 (loopCons 0 [4, 0, 3, 2] [2097153, 384, 8437770, 8437772, 8437774, 256, 264, 266, 268, 270] rdmLoop0 noLoops))
  (outCons 2 [0, 3, 2] [2097153, 384, 8437770, 8437772, 8437774, 256, 264, 266, 268, 270] (outCons 0 [0, 3, 2] [2097153, 384, 8437770, 8437772, 8437774, 256, 264, 266, 268, 270] noOut)) noOut
theorem rdm_round0 (pan : KP) (μ : Mu) (N : Nat) (k : KE) (n b a c sz bk T : U) (xs : List U) : (exec (rdmC.panics pan) (loopBody Try.f40 0) 0 ⟨[(4, vi n), (0, .ptr 2097153 0), (3, .ptr 384 0), (2, .ptr 256 0)], (2097153, .box [vl (.int .u8) b, vi a]) :: (384, rmBox c sz bk T) :: (8437770, .arr shT xs) :: (8437772, .arr bmT []) :: (8437774, .arr intT []) :: rmRes⟩ (again PR (some ([0, 3, 2], [2097153, 384, 8437770, 8437772, 8437774, 256, 264, 266, 268, 270])) none pan [4, 0, 3, 2] [2097153, 384, 8437770, 8437772, 8437774, 256, 264, 266, 268, 270] rdmLoop0 μ N k)) = (bif decide (n.int > 0) then rdIs 2097153 (0 : Nat) 2097153 b ∧ bif readR b.list a.int then (rdIs 2097153 (0 : Nat) 2097153 b ∧ (1 : Int) ≤ 2 ∧ (2 : Int) ≤ 4) ∧ bif thereR b.list (a.int + 2 + getN b.list a.int 2) 2 then (rdIs 2097153 (0 : Nat) 2097153 b ∧ (0 : Int) ≤ getN b.list (a.int + 2 + getN b.list a.int 2) 2 ∧ (0 : Int) ≤ c.int) ∧ bif tgR b.list (a.int + 2 + getN b.list a.int 2 + 2) (getN b.list (a.int + 2 + getN b.list a.int 2) 2 / 2 ^ Int.toNat c.int) c.int then bif decide (List.length xs + 1 ≤ room) && !oddB 8437770 then bif Nat.blt (μ [vi (U.i (IntKind.wrap .i64 (n.int - 1))), .ptr 2097153 0, .ptr 384 0, .ptr 256 0] [.box [.val (.sl false [.int .u8]) b, vi (U.i (a.int + 2 + getN b.list a.int 2 + 2 + 2 + 130 * getN b.list (a.int + 2 + getN b.list a.int 2 + 2) 2))], .box [vi c, vi sz, .val .str bk, .val (.sl false [.sl true [.int .i64, .int .i64, .int .i64, .int .i64, .int .u32]]) T, .own 8437770, .own 8437772, .own 8437774], .arr 41 (xs ++ [U.l [U.s (readV b.list a.int), U.i (getN b.list (a.int + 2 + getN b.list a.int 2) 2), U.l (tgL b.list (a.int + 2 + getN b.list a.int 2 + 2))]]), .arr 44 [], .arr 3 [], .box [vi (U.i 0), vi (U.i 0), .val .str (U.s ⟨#[]⟩), .own 264, .own 266, .own 268, .own 270], .arr 51 [], .arr 41 [], .arr 44 [], .arr 3 []]) N then (rdmIs 2097153 (0 : Nat) 384 (0 : Nat) 256 (0 : Nat) 8437770 8437772 8437774 264 266 268 270 EC (41 : Nat) 44 3 51 41 44 3 [] [] [] [] [] [] (U.i 0) (U.i 0) (U.s ⟨#[]⟩) ∧ b.list.length ≤ (1099511627776 : Nat) ∧ (0 : Int) ≤ c.int ∧ (0 : Int) ≤ IntKind.wrap .i64 (n.int - 1) ∧ IntKind.wrap .i64 (n.int - 1) ≤ 255 ∧ U.i (a.int + 2 + getN b.list a.int 2 + 2 + 2 + 130 * getN b.list (a.int + 2 + getN b.list a.int 2 + 2) 2) = U.i (a.int + 2 + getN b.list a.int 2 + 2 + 2 + 130 * getN b.list (a.int + 2 + getN b.list a.int 2 + 2) 2) ∧ (0 : Int) ≤ a.int + 2 + getN b.list a.int 2 + 2 + 2 + 130 * getN b.list (a.int + 2 + getN b.list a.int 2 + 2) 2 ∧ a.int + 2 + getN b.list a.int 2 + 2 + 2 + 130 * getN b.list (a.int + 2 + getN b.list a.int 2 + 2) (2 : Int) ≤ (b.list.length : Int) ∧ byteOk b.list ∧ (↑(List.length (xs ++ [U.l [U.s (readV b.list a.int), U.i (getN b.list (a.int + 2 + getN b.list a.int 2) 2), U.l (tgL b.list (a.int + 2 + getN b.list a.int 2 + 2))]])) : Int) + IntKind.wrap .i64 (n.int - 1) ≤ 255) ∧ bif shK b.list c.int (Int.toNat (IntKind.wrap .i64 (n.int - 1))) (a.int + 2 + getN b.list a.int 2 + 2 + 2 + 130 * getN b.list (a.int + 2 + getN b.list a.int 2 + 2) 2) then k (Ex.exit 0) (St.mk [(0, .ptr 2097153 0), (3, .ptr 384 0), (2, .ptr 256 0)] [(2097153, .box [.val (.sl false [.int .u8]) b, vi (U.i (shE b.list (Int.toNat (IntKind.wrap .i64 (n.int - 1))) (a.int + 2 + getN b.list a.int 2 + 2 + 2 + 130 * getN b.list (a.int + 2 + getN b.list a.int 2 + 2) 2)))]), (384, .box [vi c, vi sz, .val .str bk, .val (.sl false [.sl true [.int .i64, .int .i64, .int .i64, .int .i64, .int .u32]]) T, .own 8437770, .own 8437772, .own 8437774]), (8437770, .arr 41 (xs ++ [U.l [U.s (readV b.list a.int), U.i (getN b.list (a.int + 2 + getN b.list a.int 2) 2), U.l (tgL b.list (a.int + 2 + getN b.list a.int 2 + 2))]] ++ shS b.list (Int.toNat (IntKind.wrap .i64 (n.int - 1))) (a.int + 2 + getN b.list a.int 2 + 2 + 2 + 130 * getN b.list (a.int + 2 + getN b.list a.int 2 + 2) 2))), (8437772, .arr 44 []), (8437774, .arr 3 []), (256, .box [vi (U.i 0), vi (U.i 0), .val .str (U.s ⟨#[]⟩), .own 264, .own 266, .own 268, .own 270]), (264, .arr 51 []), (266, .arr 41 []), (268, .arr 44 []), (270, .arr 3 [])]) else ∀ (σ : St) (x : U), getO (St.objs σ) (2097153 : Nat) = some (Obj.box [vl (.int .u8) b, vi x]) → pan (SV.ifc (123 : TypeId) (SV.agg [])) σ else False else False else pan (SV.ifc 123 (SV.agg [])) (St.mk [(36, vi c), (35, .ptr 384 0), (34, vi (U.i (getN b.list (a.int + 2 + getN b.list a.int 2) 2))), (33, .ptr 640 1), (32, .ptr 2097153 0), (5, .ptr 640 0), (31, .agg [.val .str (U.s (readV b.list a.int)), vi (U.i (getN b.list (a.int + 2 + getN b.list a.int 2) 2)), .nil]), (30, vi (U.i (getN b.list (a.int + 2 + getN b.list a.int 2) 2))), (29, .ptr 2097153 0), (28, .val .str (U.s (readV b.list a.int))), (27, .ptr 2097153 0), (24, .val .bool (U.b (decide (n.int > 0)))), (23, vi n), (4, vi n), (0, .ptr 2097153 0), (3, .ptr 384 0), (2, .ptr 256 0)] [(2097153, .box [.val (.sl false [.int .u8]) b, vi (U.i (a.int + 2 + getN b.list a.int 2 + 2))]), (640, .box [.val .str (U.s (readV b.list a.int)), vi (U.i (getN b.list (a.int + 2 + getN b.list a.int 2) 2)), .own 8470534]), (8470534, .arr 51 []), (646, .arr 51 []), (384, .box [vi c, vi sz, .val .str bk, .val (.sl false [.sl true [.int .i64, .int .i64, .int .i64, .int .i64, .int .u32]]) T, .own 8437770, .own 8437772, .own 8437774]), (8437770, .arr 41 xs), (8437772, .arr 44 []), (8437774, .arr 3 []), (256, .box [vi (U.i 0), vi (U.i 0), .val .str (U.s ⟨#[]⟩), .own 264, .own 266, .own 268, .own 270]), (264, .arr 51 []), (266, .arr 41 []), (268, .arr 44 []), (270, .arr 3 [])]) else pan (SV.ifc 123 (SV.agg [])) (St.mk [(29, .ptr 2097153 0), (28, .val .str (U.s (readV b.list a.int))), (27, .ptr 2097153 0), (24, .val .bool (U.b (decide (n.int > 0)))), (23, vi n), (4, vi n), (0, .ptr 2097153 0), (3, .ptr 384 0), (2, .ptr 256 0)] [(2097153, .box [.val (.sl false [.int .u8]) b, vi (U.i (a.int + 2 + getN b.list a.int 2))]), (384, .box [vi c, vi sz, .val .str bk, .val (.sl false [.sl true [.int .i64, .int .i64, .int .i64, .int .i64, .int .u32]]) T, .own 8437770, .own 8437772, .own 8437774]), (8437770, .arr 41 xs), (8437772, .arr 44 []), (8437774, .arr 3 []), (256, .box [vi (U.i 0), vi (U.i 0), .val .str (U.s ⟨#[]⟩), .own 264, .own 266, .own 268, .own 270]), (264, .arr 51 []), (266, .arr 41 []), (268, .arr 44 []), (270, .arr 3 [])]) else pan (SV.ifc 123 (SV.agg [])) (St.mk [(27, .ptr 2097153 0), (24, .val .bool (U.b (decide (n.int > 0)))), (23, vi n), (4, vi n), (0, .ptr 2097153 0), (3, .ptr 384 0), (2, .ptr 256 0)] [(2097153, .box [.val (.sl false [.int .u8]) b, vi a]), (384, .box [vi c, vi sz, .val .str bk, .val (.sl false [.sl true [.int .i64, .int .i64, .int .i64, .int .i64, .int .u32]]) T, .own 8437770, .own 8437772, .own 8437774]), (8437770, .arr 41 xs), (8437772, .arr 44 []), (8437774, .arr 3 []), (256, .box [vi (U.i 0), vi (U.i 0), .val .str (U.s ⟨#[]⟩), .own 264, .own 266, .own 268, .own 270]), (264, .arr 51 []), (266, .arr 41 []), (268, .arr 44 []), (270, .arr 3 [])]) else k (Ex.exit 0) (St.mk [(0, .ptr 2097153 0), (3, .ptr 384 0), (2, .ptr 256 0)] [(2097153, .box [.val (.sl false [.int .u8]) b, vi a]), (384, .box [vi c, vi sz, .val .str bk, .val (.sl false [.sl true [.int .i64, .int .i64, .int .i64, .int .i64, .int .u32]]) T, .own 8437770, .own 8437772, .own 8437774]), (8437770, .arr 41 xs), (8437772, .arr 44 []), (8437774, .arr 3 []), (256, .box [vi (U.i 0), vi (U.i 0), .val .str (U.s ⟨#[]⟩), .own 264, .own 266, .own 268, .own 270]), (264, .arr 51 []), (266, .arr 41 []), (268, .arr 44 []), (270, .arr 3 [])])) := by kernel_rfl
theorem rdm_round2 (pan : KP) (μ : Mu) (N : Nat) (k : KE) (n b a c sz bk T : U) (xs ys : List U) : (exec (rdmC.panics pan) (loopBody Try.f40 1) 2 ⟨[(6, vi n), (0, .ptr 2097153 0), (3, .ptr 384 0), (2, .ptr 256 0)], (2097153, .box [vl (.int .u8) b, vi a]) :: (384, rmBox c sz bk T) :: (8437770, .arr shT xs) :: (8437772, .arr bmT ys) :: (8437774, .arr intT []) :: rmRes⟩ (again PR (some ([0, 3, 2], [2097153, 384, 8437770, 8437772, 8437774, 256, 264, 266, 268, 270])) none pan [6, 0, 3, 2] [2097153, 384, 8437770, 8437772, 8437774, 256, 264, 266, 268, 270] rdmLoop2 μ N k)) = (bif decide (n.int > 0) then Alt (rdIs 2097153 (0 : Nat) 2097153 b ∧ bif rmK b.list a.int then bif decide (List.length ys + 1 ≤ room) && !oddB 8437772 then bif Nat.blt (μ [vi (U.i (IntKind.wrap .i64 (n.int - 1))), .ptr 2097153 0, .ptr 384 0, .ptr 256 0] [.box [.val (.sl false [.int .u8]) b, vi (U.i (rmE b.list a.int))], .box [vi c, vi sz, .val .str bk, .val (.sl false [.sl true [.int .i64, .int .i64, .int .i64, .int .i64, .int .u32]]) T, .own 8437770, .own 8437772, .own 8437774], .arr 41 xs, .arr 44 (ys ++ [U.l [U.s (readV b.list a.int), U.b (getN b.list (rmN b.list a.int) (1 : Int) == 1), U.l (rmS b.list a.int)]]), .arr 3 [], .box [vi (U.i 0), vi (U.i 0), .val .str (U.s ⟨#[]⟩), .own 264, .own 266, .own 268, .own 270], .arr 51 [], .arr 41 [], .arr 44 [], .arr 3 []]) N then (rdmIs 2097153 (0 : Nat) 384 (0 : Nat) 256 (0 : Nat) 8437770 8437772 8437774 264 266 268 270 EC 41 (44 : Nat) 3 51 41 44 3 [] [] [] [] [] [] (U.i 0) (U.i 0) (U.s ⟨#[]⟩) ∧ b.list.length ≤ (1099511627776 : Nat) ∧ (0 : Int) ≤ IntKind.wrap .i64 (n.int - 1) ∧ IntKind.wrap .i64 (n.int - 1) ≤ 255 ∧ U.i (rmE b.list a.int) = U.i (rmE b.list a.int) ∧ (0 : Int) ≤ rmE b.list a.int ∧ rmE b.list a.int ≤ (b.list.length : Int) ∧ byteOk b.list ∧ (↑(List.length (ys ++ [U.l [U.s (readV b.list a.int), U.b (getN b.list (rmN b.list a.int) (1 : Int) == 1), U.l (rmS b.list a.int)]])) : Int) + IntKind.wrap .i64 (n.int - 1) ≤ 255) ∧ bif bmK b.list (Int.toNat (IntKind.wrap .i64 (n.int - 1))) (rmE b.list a.int) then k (Ex.exit 2) (St.mk [(0, .ptr 2097153 0), (3, .ptr 384 0), (2, .ptr 256 0)] [(2097153, .box [.val (.sl false [.int .u8]) b, vi (U.i (bmE b.list (Int.toNat (IntKind.wrap .i64 (n.int - 1))) (rmE b.list a.int)))]), (384, .box [vi c, vi sz, .val .str bk, .val (.sl false [.sl true [.int .i64, .int .i64, .int .i64, .int .i64, .int .u32]]) T, .own 8437770, .own 8437772, .own 8437774]), (8437770, .arr 41 xs), (8437772, .arr 44 (ys ++ [U.l [U.s (readV b.list a.int), U.b (getN b.list (rmN b.list a.int) (1 : Int) == 1), U.l (rmS b.list a.int)]] ++ bmS b.list (Int.toNat (IntKind.wrap .i64 (n.int - 1))) (rmE b.list a.int))), (8437774, .arr 3 []), (256, .box [vi (U.i 0), vi (U.i 0), .val .str (U.s ⟨#[]⟩), .own 264, .own 266, .own 268, .own 270]), (264, .arr 51 []), (266, .arr 41 []), (268, .arr 44 []), (270, .arr 3 [])]) else ∀ (σ : St) (x : U), getO (St.objs σ) (2097153 : Nat) = some (Obj.box [vl (.int .u8) b, vi x]) → pan (SV.ifc (123 : TypeId) (SV.agg [])) σ else False else False else ∀ (x : U), pan (SV.ifc 123 (SV.agg [])) (St.mk [(52, .own 8437772), (53, .ptr 2097153 0), (51, .ptr 384 5), (48, .val .bool (U.b (decide (n.int > 0)))), (47, vi n), (6, vi n), (0, .ptr 2097153 0), (3, .ptr 384 0), (2, .ptr 256 0)] [(2097153, .box [.val (.sl false [.int .u8]) b, vi x]), (384, .box [vi c, vi sz, .val .str bk, .val (.sl false [.sl true [.int .i64, .int .i64, .int .i64, .int .i64, .int .u32]]) T, .own 8437770, .own 8437772, .own 8437774]), (8437770, .arr 41 xs), (8437772, .arr 44 ys), (8437774, .arr 3 []), (256, .box [vi (U.i 0), vi (U.i 0), .val .str (U.s ⟨#[]⟩), .own 264, .own 266, .own 268, .own 270]), (264, .arr 51 []), (266, .arr 41 []), (268, .arr 44 []), (270, .arr 3 [])])) (rdIs 2097153 (0 : Nat) 2097153 b ∧ bif rmK b.list a.int then (fun T => Alt T T) (bif decide (List.length ys + 1 ≤ room) && !oddB 8437772 then bif Nat.blt (μ [vi (U.i (IntKind.wrap .i64 (n.int - 1))), .ptr 2097153 0, .ptr 384 0, .ptr 256 0] [.box [.val (.sl false [.int .u8]) b, vi (U.i (rmE b.list a.int))], .box [vi c, vi sz, .val .str bk, .val (.sl false [.sl true [.int .i64, .int .i64, .int .i64, .int .i64, .int .u32]]) T, .own 8437770, .own 8437772, .own 8437774], .arr 41 xs, .arr 44 (ys ++ [U.l [U.s (readV b.list a.int), U.b (getN b.list (rmN b.list a.int) (1 : Int) == 1), U.l (rmS b.list a.int)]]), .arr 3 [], .box [vi (U.i 0), vi (U.i 0), .val .str (U.s ⟨#[]⟩), .own 264, .own 266, .own 268, .own 270], .arr 51 [], .arr 41 [], .arr 44 [], .arr 3 []]) N then (rdmIs 2097153 (0 : Nat) 384 (0 : Nat) 256 (0 : Nat) 8437770 8437772 8437774 264 266 268 270 EC 41 (44 : Nat) 3 51 41 44 3 [] [] [] [] [] [] (U.i 0) (U.i 0) (U.s ⟨#[]⟩) ∧ b.list.length ≤ (1099511627776 : Nat) ∧ (0 : Int) ≤ IntKind.wrap .i64 (n.int - 1) ∧ IntKind.wrap .i64 (n.int - 1) ≤ 255 ∧ U.i (rmE b.list a.int) = U.i (rmE b.list a.int) ∧ (0 : Int) ≤ rmE b.list a.int ∧ rmE b.list a.int ≤ (b.list.length : Int) ∧ byteOk b.list ∧ (↑(List.length (ys ++ [U.l [U.s (readV b.list a.int), U.b (getN b.list (rmN b.list a.int) (1 : Int) == 1), U.l (rmS b.list a.int)]])) : Int) + IntKind.wrap .i64 (n.int - 1) ≤ 255) ∧ bif bmK b.list (Int.toNat (IntKind.wrap .i64 (n.int - 1))) (rmE b.list a.int) then k (Ex.exit 2) (St.mk [(0, .ptr 2097153 0), (3, .ptr 384 0), (2, .ptr 256 0)] [(2097153, .box [.val (.sl false [.int .u8]) b, vi (U.i (bmE b.list (Int.toNat (IntKind.wrap .i64 (n.int - 1))) (rmE b.list a.int)))]), (384, .box [vi c, vi sz, .val .str bk, .val (.sl false [.sl true [.int .i64, .int .i64, .int .i64, .int .i64, .int .u32]]) T, .own 8437770, .own 8437772, .own 8437774]), (8437770, .arr 41 xs), (8437772, .arr 44 (ys ++ [U.l [U.s (readV b.list a.int), U.b (getN b.list (rmN b.list a.int) (1 : Int) == 1), U.l (rmS b.list a.int)]] ++ bmS b.list (Int.toNat (IntKind.wrap .i64 (n.int - 1))) (rmE b.list a.int))), (8437774, .arr 3 []), (256, .box [vi (U.i 0), vi (U.i 0), .val .str (U.s ⟨#[]⟩), .own 264, .own 266, .own 268, .own 270]), (264, .arr 51 []), (266, .arr 41 []), (268, .arr 44 []), (270, .arr 3 [])]) else ∀ (σ : St) (x : U), getO (St.objs σ) (2097153 : Nat) = some (Obj.box [vl (.int .u8) b, vi x]) → pan (SV.ifc (123 : TypeId) (SV.agg [])) σ else False else False) else ∀ (x : U), pan (SV.ifc 123 (SV.agg [])) (St.mk [(53, .ptr 2097153 0), (51, .ptr 384 5), (48, .val .bool (U.b (decide (n.int > 0)))), (47, vi n), (6, vi n), (0, .ptr 2097153 0), (3, .ptr 384 0), (2, .ptr 256 0)] [(2097153, .box [.val (.sl false [.int .u8]) b, vi x]), (384, .box [vi c, vi sz, .val .str bk, .val (.sl false [.sl true [.int .i64, .int .i64, .int .i64, .int .i64, .int .u32]]) T, .own 8437770, .own 8437772, .own 8437774]), (8437770, .arr 41 xs), (8437772, .arr 44 ys), (8437774, .arr 3 []), (256, .box [vi (U.i 0), vi (U.i 0), .val .str (U.s ⟨#[]⟩), .own 264, .own 266, .own 268, .own 270]), (264, .arr 51 []), (266, .arr 41 []), (268, .arr 44 []), (270, .arr 3 [])])) else k (Ex.exit 2) (St.mk [(0, .ptr 2097153 0), (3, .ptr 384 0), (2, .ptr 256 0)] [(2097153, .box [.val (.sl false [.int .u8]) b, vi a]), (384, .box [vi c, vi sz, .val .str bk, .val (.sl false [.sl true [.int .i64, .int .i64, .int .i64, .int .i64, .int .u32]]) T, .own 8437770, .own 8437772, .own 8437774]), (8437770, .arr 41 xs), (8437772, .arr 44 ys), (8437774, .arr 3 []), (256, .box [vi (U.i 0), vi (U.i 0), .val .str (U.s ⟨#[]⟩), .own 264, .own 266, .own 268, .own 270]), (264, .arr 51 []), (266, .arr 41 []), (268, .arr 44 []), (270, .arr 3 [])])) := by kernel_rfl
def pm1 (b : List U) (a : Int) : Int := a + 1 + 2 + 2 + getN b (a + 1 + 2) 2
def pm2 (b : List U) (a : Int) : Int := pm1 b a + 2 + 130 * getN b (pm1 b a) 2
def pm3 (b : List U) (a : Int) : Int := shE b (getN b (pm2 b a) 1).toNat (pm2 b a + 1)
def pm4 (b : List U) (a : Int) : Int := bmE b (getN b (pm3 b a) 1).toNat (pm3 b a + 1)
def pmK (b : List U) (a : Int) : Bool := thereR b a 1 && thereR b (a + 1) 2 && readR b (a + 1 + 2) && tgR b (pm1 b a) (getN b (a + 1) 2 / 2 ^ (getN b a 1).toNat) (getN b a 1) && thereR b (pm2 b a) 1 && shK b (getN b a 1) (getN b (pm2 b a) 1).toNat (pm2 b a + 1) &&
  thereR b (pm3 b a) 1 && bmK b (getN b (pm3 b a) 1).toNat (pm3 b a + 1) && rnK b (pm4 b a)
def pmS (b : List U) (a : Int) : List U := shS b (getN b (pm2 b a) 1).toNat (pm2 b a + 1)
def pmM (b : List U) (a : Int) : List U := bmS b (getN b (pm3 b a) 1).toNat (pm3 b a + 1)
def pmQ (b : List U) (a : Int) : List U := rcS b (getN b (pm4 b a) 4) (pm4 b a + 4)
noncomputable def rdmetaF : Tr := fun vs objs k => match vs, objs with
  | [.ptr p o], [(i, .box [.val (.sl false [.int .u8]) b, .val (.int .i64) a])] =>
    rdIs p o i b ∧
    (bif pmK b.list a.int then k (.ret [.agg [vi (.i (getN b.list a.int 1)), vi (.i (getN b.list (a.int + 1) 2)), .val .str (.s (readV b.list (a.int + 1 + 2))), vl (.sl true EC) (.l (tgL b.list (pm1 b.list a.int))), .own 2097280, .own 2097408, .own 2097536]])
      [(2097153, .box [vl (.int .u8) b, vi (.i (rcE b.list (getN b.list (pm4 b.list a.int) 4) (pm4 b.list a.int + 4)))]), (2097280, .arr shT (pmS b.list a.int)), (2097408, .arr bmT (pmM b.list a.int)), (2097536, .arr intT (pmQ b.list a.int))]
      else ∀ x : U, k unread [(2097153, .box [vl (.int .u8) b, vi x])])
  | _, _ => False
theorem rdm_tree (R : RT) (b a : U) : (runD rdmC Try.f40 [.ptr 2097153 0] [(2097153, .box [vl (.int .u8) b, vi a])] R) = ((rdIs 2097153 (0 : Nat) 2097153 b ∧ (1 : Int) ≤ 1 ∧ (1 : Int) ≤ 4) ∧ bif thereR b.list a.int 1 then (rdIs 2097153 (0 : Nat) 2097153 b ∧ (1 : Int) ≤ 2 ∧ (2 : Int) ≤ 4) ∧ bif thereR b.list (a.int + 1) 2 then rdIs 2097153 (0 : Nat) 2097153 b ∧ bif readR b.list (a.int + 1 + 2) then (rdIs 2097153 (0 : Nat) 2097153 b ∧ (0 : Int) ≤ getN b.list (a.int + 1) 2 ∧ (0 : Int) ≤ getN b.list a.int 1) ∧ bif tgR b.list (pm1 b.list a.int) (getN b.list (a.int + 1) 2 / 2 ^ Int.toNat (getN b.list a.int 1)) (getN b.list a.int 1) then (rdIs 2097153 (0 : Nat) 2097153 b ∧ (1 : Int) ≤ 1 ∧ (1 : Int) ≤ 4) ∧ bif thereR b.list (pm2 b.list a.int) 1 then (rdmIs 2097153 (0 : Nat) 384 (0 : Nat) 256 (0 : Nat) 8437770 8437772 8437774 264 266 268 270 EC 41 44 3 51 41 44 3 [] [] [] [] [] [] (U.i 0) (U.i 0) (U.s ⟨#[]⟩) ∧ b.list.length ≤ (1099511627776 : Nat) ∧ (0 : Int) ≤ getN b.list a.int 1 ∧ (0 : Int) ≤ getN b.list (pm2 b.list a.int) 1 ∧ getN b.list (pm2 b.list a.int) (1 : Int) ≤ 255 ∧ U.i (pm2 b.list a.int + 1) = U.i (pm2 b.list a.int + 1) ∧ (0 : Int) ≤ pm2 b.list a.int + 1 ∧ pm2 b.list a.int + (1 : Int) ≤ (b.list.length : Int) ∧ byteOk b.list ∧ (↑(0 : Nat) : Int) + getN b.list (pm2 b.list a.int) (1 : Int) ≤ 255) ∧ bif shK b.list (getN b.list a.int 1) (Int.toNat (getN b.list (pm2 b.list a.int) 1)) (pm2 b.list a.int + 1) then (rdIs 2097153 (0 : Nat) 2097153 b ∧ (1 : Int) ≤ 1 ∧ (1 : Int) ≤ 4) ∧ bif thereR b.list (pm3 b.list a.int) 1 then (rdmIs 2097153 (0 : Nat) 384 (0 : Nat) 256 (0 : Nat) 8437770 8437772 8437774 264 266 268 270 EC 41 44 3 51 41 44 3 [] [] [] [] [] [] (U.i 0) (U.i 0) (U.s ⟨#[]⟩) ∧ b.list.length ≤ (1099511627776 : Nat) ∧ (0 : Int) ≤ getN b.list (pm3 b.list a.int) 1 ∧ getN b.list (pm3 b.list a.int) (1 : Int) ≤ 255 ∧ U.i (pm3 b.list a.int + 1) = U.i (pm3 b.list a.int + 1) ∧ (0 : Int) ≤ pm3 b.list a.int + 1 ∧ pm3 b.list a.int + (1 : Int) ≤ (b.list.length : Int) ∧ byteOk b.list ∧ (↑(0 : Nat) : Int) + getN b.list (pm3 b.list a.int) (1 : Int) ≤ 255) ∧ bif bmK b.list (Int.toNat (getN b.list (pm3 b.list a.int) 1)) (pm3 b.list a.int + 1) then rdIs 2097153 (0 : Nat) 2097153 b ∧ bif rnK b.list (pm4 b.list a.int) then R (Out.ret [.agg [vi (U.i (getN b.list a.int 1)), vi (U.i (getN b.list (a.int + 1) 2)), .val .str (U.s (readV b.list (a.int + 1 + 2))), .val (.sl false [.sl true [.int .i64, .int .i64, .int .i64, .int .i64, .int .u32]]) (U.l (tgL b.list (pm1 b.list a.int))), .own 2097280, .own 2097408, .own 2097536]]) [(2097153, .box [.val (.sl false [.int .u8]) b, vi (U.i (rcE b.list (getN b.list (pm4 b.list a.int) 4) (pm4 b.list a.int + 4)))]), (2097280, .arr 41 ([] ++ shS b.list (Int.toNat (getN b.list (pm2 b.list a.int) 1)) (pm2 b.list a.int + 1))), (2097408, .arr 44 ([] ++ bmS b.list (Int.toNat (getN b.list (pm3 b.list a.int) 1)) (pm3 b.list a.int + 1))), (2097536, .arr 3 (rcS b.list (getN b.list (pm4 b.list a.int) 4) (pm4 b.list a.int + 4)))] else ∀ (x : U), R (Out.pan (SV.ifc 123 (SV.agg []))) [(2097153, .box [.val (.sl false [.int .u8]) b, vi x])] else ∀ (σ : St) (x : U), getO (St.objs σ) (2097153 : Nat) = some (Obj.box [vl (.int .u8) b, vi x]) → Ctx.pan (Ctx.panics rdmC fun v σ => finT [((2097153 : Nat), .box [vl (.int .u8) b, vi a])] R (Out.pan v) (St.objs σ)) (SV.ifc (123 : TypeId) (SV.agg [])) σ else R (Out.pan (SV.ifc 123 (SV.agg []))) [(2097153, .box [.val (.sl false [.int .u8]) b, vi (U.i (pm3 b.list a.int))])] else ∀ (σ : St) (x : U), getO (St.objs σ) (2097153 : Nat) = some (Obj.box [vl (.int .u8) b, vi x]) → Ctx.pan (Ctx.panics rdmC fun v σ => finT [((2097153 : Nat), .box [vl (.int .u8) b, vi a])] R (Out.pan v) (St.objs σ)) (SV.ifc (123 : TypeId) (SV.agg [])) σ else R (Out.pan (SV.ifc 123 (SV.agg []))) [(2097153, .box [.val (.sl false [.int .u8]) b, vi (U.i (pm2 b.list a.int))])] else R (Out.pan (SV.ifc 123 (SV.agg []))) [(2097153, .box [.val (.sl false [.int .u8]) b, vi (U.i (pm1 b.list a.int))])] else R (Out.pan (SV.ifc 123 (SV.agg []))) [(2097153, .box [.val (.sl false [.int .u8]) b, vi (U.i (a.int + 1 + 2))])] else R (Out.pan (SV.ifc 123 (SV.agg []))) [(2097153, .box [.val (.sl false [.int .u8]) b, vi (U.i (a.int + 1))])] else R (Out.pan (SV.ifc 123 (SV.agg []))) [(2097153, .box [.val (.sl false [.int .u8]) b, vi a])]) := by kernel_rfl
end Go.Mat

namespace Go.Mat
open Go Go.Den Go.Proofs
theorem leavesK_end {b : List U} {k : Int} : ∀ {m : Nat} {a : Int} {L : List U}, a ≤ b.length → leavesK b k m a L = true → a + 130 * m ≤ (b.length : Int)
  | 0, a, _, h, _ => by omega
  | m + 1, a, L, _, h => by
    rw [leavesK] at h
    simp only [Bool.and_eq_true, decide_eq_true_eq] at h
    have h1 := thereR_iff.1 h.1.1.1.1
    have h2 := entsK_len (by omega) h.1.2
    have h3 := leavesK_end (by omega) h.2
    omega
theorem tgR_fits {b : List U} {a n k : Int} (h : tgR b a n k = true) : 0 ≤ a ∧ a + 2 + 130 * getN b a 2 ≤ (b.length : Int) := by
  unfold tgR at h
  simp only [Bool.and_eq_true] at h
  have h1 := thereR_iff.1 h.1.1
  have h2 := leavesK_end (by omega) h.1.2
  omega
theorem rdmIs_rfl : rdmIs 2097153 0 384 0 256 0 8437770 8437772 8437774 264 266 268 270 EC shT bmT intT leafT shT bmT intT [] [] [] [] [] [] (.i 0) (.i 0) (.s ⟨#[]⟩) :=
  ⟨⟨rfl, rfl, rfl, rfl, rfl, rfl⟩, ⟨rfl, rfl, rfl, rfl, rfl, rfl, rfl⟩, rfl, ⟨rfl, rfl, rfl, rfl, rfl, rfl, rfl⟩, ⟨rfl, rfl, rfl, rfl, rfl, rfl⟩, rfl, rfl, rfl⟩
theorem rdm_loop0 : LoopOk rdmC 0 (loopBody Try.f40 0) := by
  refine loopOk_of (F := rdmLoop0) (ts := [4, 0, 3, 2]) (os := [2097153, 384, 8437770, 8437772, 8437774, 256, 264, 266, 268, 270]) rfl (fun svs _ => match svs with | .val _ n :: _ => n.int.toNat | _ => 0) ?_
  intro pan svs os k ho1 ho2 h
  unfold rdmLoop0 at h
  split at h
  · rename_i n p0 o0 p3 o3 p2 o2 b a c sz bk ec T q4 q5 q6 t1 xs t2 ys t3 zs i0 i1 s0 r3 r4 r5 r6 u1 x1 u2 x2 u3 x3 u4 x4
    obtain ⟨⟨⟨⟨rfl, rfl, rfl, rfl, rfl, rfl⟩, ⟨rfl, rfl, rfl, rfl, rfl, rfl, rfl⟩, rfl, ⟨rfl, rfl, rfl, rfl, rfl, rfl, rfl⟩, ⟨rfl, rfl, rfl, rfl, rfl, rfl⟩, rfl, rfl, rfl⟩, hb, hc, hn0, hn, ha, h0, h1, hbk, hx⟩, hk⟩ := h
    refine .eq (rdm_round0 pan _ _ k n b a c sz bk T xs) ?_
    have hw : IntKind.wrap .i64 (n.int - 1) = n.int - 1 := i64_in (by omega) (by omega)
    simp only [hw]
    refine bd (fun hlt => ?_) (fun hlt => ?_)
    · have hlt' : (n.int - 1).toNat < n.int.toNat := by omega
      have hg := getN2 (a := a.int + 2 + getN b.list a.int 2) hbk
      rw [show n.int.toNat = (n.int - 1).toNat + 1 by omega, shK, shE, shS, List.append_cons] at hk
      unfold sh1K sh1E sh1U shZ rmN at hk
      refine ⟨⟨rfl, rfl, rfl, hb⟩, bi (fun h2 => ?_) (fun h2 => ?_)⟩
      · rw [h2, Bool.true_and] at hk
        refine ⟨⟨⟨rfl, rfl, rfl, hb⟩, by omega, by omega⟩, bi (fun h3 => ?_) (fun h3 => ?_)⟩
        · rw [h3, Bool.true_and] at hk
          refine ⟨⟨⟨rfl, rfl, rfl, hb⟩, hg.1, hc⟩, bi (fun h4 => ?_) (fun h4 => ?_)⟩
          · rw [h4, Bool.true_and] at hk
            have hf := tgR_fits h4
            have hg2 := getN2 (a := a.int + 2 + getN b.list a.int 2 + 2) hbk
            exact broom (by simp [room]; omega) rfl (blt hlt' ⟨⟨rdmIs_rfl, hb, hc, by omega, by omega, by trivial, by omega, by omega, hbk, by rw [List.length_append, List.length_singleton]; omega⟩, hk⟩)
          · rw [h4, Bool.false_and, cond_false] at hk
            exact hk _ _ rfl
        · rw [h3, Bool.false_and, Bool.false_and, cond_false] at hk
          exact hk _ _ rfl
      · rw [h2, Bool.false_and, Bool.false_and, Bool.false_and, cond_false] at hk
        exact hk _ _ rfl
    · rw [show n.int.toNat = 0 by omega, shK, shE, shS, cond_true, ← ha, List.append_nil] at hk
      exact hk
  · exact h.elim
theorem rmK_fits {b : List U} {a : Int} (hb : byteOk b) (h : rmK b a = true) : 0 ≤ rmE b a ∧ rmE b a ≤ (b.length : Int) := by
  unfold rmK at h
  simp only [Bool.and_eq_true, decide_eq_true_eq] at h
  have h1 := thereR_iff.1 h.1.1.2
  have hg := getN2 (a := rmN b a + 1) hb
  unfold rmE
  omega
theorem rdm_loop2 : LoopOk rdmC 2 (loopBody Try.f40 1) := by
  refine loopOk_of (F := rdmLoop2) (ts := [6, 0, 3, 2]) (os := [2097153, 384, 8437770, 8437772, 8437774, 256, 264, 266, 268, 270]) rfl (fun svs _ => match svs with | .val _ n :: _ => n.int.toNat | _ => 0) ?_
  intro pan svs os k ho1 ho2 h
  unfold rdmLoop2 at h
  split at h
  · rename_i n p0 o0 p3 o3 p2 o2 b a c sz bk ec T q4 q5 q6 t1 xs t2 ys t3 zs i0 i1 s0 r3 r4 r5 r6 u1 x1 u2 x2 u3 x3 u4 x4
    obtain ⟨⟨⟨⟨rfl, rfl, rfl, rfl, rfl, rfl⟩, ⟨rfl, rfl, rfl, rfl, rfl, rfl, rfl⟩, rfl, ⟨rfl, rfl, rfl, rfl, rfl, rfl, rfl⟩, ⟨-, rfl, rfl, rfl, rfl, rfl⟩, rfl, rfl, rfl⟩, hb, hn0, hn, ha, h0, h1, hbk, hx⟩, hk⟩ := h
    refine .eq (rdm_round2 pan _ _ k n b a c sz bk T xs ys) ?_
    have hw : IntKind.wrap .i64 (n.int - 1) = n.int - 1 := i64_in (by omega) (by omega)
    simp only [hw, Alt_self]
    refine bd (fun hlt => ?_) (fun hlt => ?_)
    · have hlt' : (n.int - 1).toNat < n.int.toNat := by omega
      rw [show n.int.toNat = (n.int - 1).toNat + 1 by omega, bmK, bmE, bmS, List.append_cons] at hk
      unfold bm1U at hk
      refine ⟨?_, ?_⟩
      all_goals
        refine ⟨⟨rfl, rfl, rfl, hb⟩, bi (fun h2 => ?_) (fun h2 => ?_)⟩
        · rw [h2, Bool.true_and] at hk
          have hf := rmK_fits hbk h2
          exact broom (by simp [room]; omega) rfl (blt hlt' ⟨⟨rdmIs_rfl, hb, by omega, by omega, by trivial, hf.1, hf.2, hbk, by rw [List.length_append, List.length_singleton]; omega⟩, hk⟩)
        · rw [h2, Bool.false_and, cond_false] at hk
          exact fun x => hk _ x rfl
    · rw [show n.int.toNat = 0 by omega, bmK, bmE, bmS, cond_true, ← ha, List.append_nil] at hk
      exact hk
  · exact h.elim
end Go.Mat

namespace Go.Mat
open Go Go.Den Go.Proofs
theorem shK_fits {b : List U} {c : Int} (hb : byteOk b) : ∀ {m : Nat} {a : Int}, 0 ≤ a → a ≤ b.length → shK b c m a = true → 0 ≤ shE b m a ∧ shE b m a ≤ (b.length : Int)
  | 0, a, h0, h1, _ => ⟨h0, h1⟩
  | m + 1, a, h0, h1, h => by
    rw [shK, Bool.and_eq_true] at h
    have h2 := h.1
    unfold sh1K at h2
    simp only [Bool.and_eq_true] at h2
    have h3 := tgR_fits h2.2
    have hg := getN2 (a := rmN b a + 2) hb
    have hg2 := getN2 (a := rmN b a + 2 + 2) hb
    have : 0 ≤ sh1E b a ∧ sh1E b a ≤ (b.length : Int) := by unfold sh1E; omega
    rw [shE]
    exact shK_fits hb this.1 this.2 h.2
theorem rdmeta_ok : SpecT PR 40 rdmetaF := fun fn hfn => by
  have hf : PR.funcs[(40 : Nat)]? = some Try.f40 := by kernel_rfl
  rw [hf] at hfn; cases hfn
  refine fnT_okH (C := rdmC) (mkC_ok eqs0_ok mixed_ok .nil (.cons rdnum_ok (.cons rdtext_ok (.cons rdtab_ok (.cons rdmap_ok (.cons rdcnt_ok .nil)))))) hf (by kernel_rfl) (loops_two (by kernel_rfl) rdm_loop0 rdm_loop2) fun vs objs R h1 h2 h => ?_
  unfold rdmetaF at h
  split at h
  · rename_i p o i b a
    obtain ⟨⟨rfl, rfl, rfl, hb⟩, h⟩ := h
    have hbk : byteOk b.list := bytes_ok (h2 _ _ (List.mem_cons_self ..)).1
    clear h1 h2
    refine .eq (rdm_tree R b a) ?_
    unfold pmK pmS pmM pmQ at h
    have g1 := getN1 (a := a.int) hbk
    have g2 := getN2 (a := a.int + 1) hbk
    refine ⟨⟨⟨rfl, rfl, rfl, hb⟩, by omega, by omega⟩, bi (fun k1 => ?_) (fun k1 => ?_)⟩
    rotate_left
    · rw [k1] at h; simp only [Bool.false_and, cond_false] at h; exact h _
    rw [k1, Bool.true_and] at h
    refine ⟨⟨⟨rfl, rfl, rfl, hb⟩, by omega, by omega⟩, bi (fun k2 => ?_) (fun k2 => ?_)⟩
    rotate_left
    · rw [k2] at h; simp only [Bool.false_and, cond_false] at h; exact h _
    rw [k2, Bool.true_and] at h
    refine ⟨⟨rfl, rfl, rfl, hb⟩, bi (fun k3 => ?_) (fun k3 => ?_)⟩
    rotate_left
    · rw [k3] at h; simp only [Bool.false_and, cond_false] at h; exact h _
    rw [k3, Bool.true_and] at h
    refine ⟨⟨⟨rfl, rfl, rfl, hb⟩, by omega, by omega⟩, bi (fun k4 => ?_) (fun k4 => ?_)⟩
    rotate_left
    · rw [k4] at h; simp only [Bool.false_and, cond_false] at h; exact h _
    rw [k4, Bool.true_and] at h
    have f4 := tgR_fits k4
    have f5 : 0 ≤ pm2 b.list a.int ∧ pm2 b.list a.int ≤ (b.list.length : Int) := by
      have hg := getN2 (a := pm1 b.list a.int) hbk
      unfold pm2; omega
    have g3 := getN1 (a := pm2 b.list a.int) hbk
    refine ⟨⟨⟨rfl, rfl, rfl, hb⟩, by omega, by omega⟩, bi (fun k5 => ?_) (fun k5 => ?_)⟩
    rotate_left
    · rw [k5] at h; simp only [Bool.false_and, cond_false] at h; exact h _
    rw [k5, Bool.true_and] at h
    have i5 := thereR_iff.1 k5
    refine ⟨⟨rdmIs_rfl, hb, by omega, by omega, by omega, by trivial, by omega, by omega, hbk, by omega⟩, bi (fun k6 => ?_) (fun k6 => ?_)⟩
    rotate_left
    · rw [k6] at h; simp only [Bool.false_and, cond_false] at h
      exact fun σ x hx => finT_lost hx (h x)
    rw [k6, Bool.true_and] at h
    have f6 := shK_fits hbk (by omega) (by omega) k6
    have f7 : 0 ≤ pm3 b.list a.int ∧ pm3 b.list a.int ≤ (b.list.length : Int) := f6
    have g4 := getN1 (a := pm3 b.list a.int) hbk
    refine ⟨⟨⟨rfl, rfl, rfl, hb⟩, by omega, by omega⟩, bi (fun k7 => ?_) (fun k7 => ?_)⟩
    rotate_left
    · rw [k7] at h; simp only [Bool.false_and, cond_false] at h; exact h _
    rw [k7, Bool.true_and] at h
    have i7 := thereR_iff.1 k7
    refine ⟨⟨rdmIs_rfl, hb, by omega, by omega, by trivial, by omega, by omega, hbk, by omega⟩, bi (fun k8 => ?_) (fun k8 => ?_)⟩
    rotate_left
    · rw [k8] at h; simp only [Bool.false_and, cond_false] at h
      exact fun σ x hx => finT_lost hx (h x)
    rw [k8, Bool.true_and] at h
    refine ⟨⟨rfl, rfl, rfl, hb⟩, bi (fun k9 => ?_) (fun k9 => ?_)⟩
    · rw [k9, cond_true] at h
      exact h
    · rw [k9, cond_false] at h
      exact h
  · exact h.elim
end Go.Mat

namespace Go.Mat
open Go Go.Den Go.Proofs
noncomputable def recC : Ctx := mkC PR eqs0 fnsNil trsNil noLoops noOut noOut
noncomputable def mgetC : Ctx := mkC PR eqs0 (fnsConsP 12 mputP mputS fnsNil) (trsCons 40 [false] rdmetaF trsNil) noLoops noOut noOut
def mgB (V : List U) (b : List U) : Bool := (toStr V).toList == (toStr b).toList
def mgK (b : List U) : Bool := pmK b 0 && (metaE (.i (getN b 0 1)) (.i (getN b 1 2)) (.s (readV b 3)) (.l (tgL b (pm1 b 0))) (.l (pmS b 0)) (.l (pmM b 0)) (.l (pmQ b 0)) == 0) &&
  mgB (metaX (.i (getN b 0 1)) (.i (getN b 1 2)) (.s (readV b 3)) (.l (tgL b (pm1 b 0))) (.l (pmS b 0)) (.l (pmM b 0)) (.l (pmQ b 0))) b
def mgetP : List (List U) → Prop := fun us => (nth (.i 0) (nth [] us 0) 0).list.length ≤ 1099511627776
def mgetX (b : List U) : List (List U) := [[.i (bif mgK b then getN b 0 1 else 0), .i (bif mgK b then getN b 1 2 else 0), .s (bif mgK b then readV b 3 else ⟨#[]⟩), .l (bif mgK b then tgL b (pm1 b 0) else []), .l (bif mgK b then pmS b 0 else []), .l (bif mgK b then pmM b 0 else []),
  .l (bif mgK b then pmQ b 0 else [])], [.i (bif mgK b then 0 else 3)]]
def mgetS : List (List U) → List (List U) := fun us => [[.i (bif mgK (nth (.i 0) (nth [] us 0) 0).list then getN (nth (.i 0) (nth [] us 0) 0).list 0 1 else 0), .i (bif mgK (nth (.i 0) (nth [] us 0) 0).list then getN (nth (.i 0) (nth [] us 0) 0).list 1 2 else 0),
  .s (bif mgK (nth (.i 0) (nth [] us 0) 0).list then readV (nth (.i 0) (nth [] us 0) 0).list 3 else ⟨#[]⟩), .l (bif mgK (nth (.i 0) (nth [] us 0) 0).list then tgL (nth (.i 0) (nth [] us 0) 0).list (pm1 (nth (.i 0) (nth [] us 0) 0).list 0) else []), .l (bif mgK (nth (.i 0) (nth [] us 0) 0).list then pmS (nth (.i 0) (nth [] us 0) 0).list 0 else []),
  .l (bif mgK (nth (.i 0) (nth [] us 0) 0).list then pmM (nth (.i 0) (nth [] us 0) 0).list 0 else []), .l (bif mgK (nth (.i 0) (nth [] us 0) 0).list then pmQ (nth (.i 0) (nth [] us 0) 0).list 0 else [])], [.i (bif mgK (nth (.i 0) (nth [] us 0) 0).list then 0 else 3)]]
theorem mget_tree (R : RF) (b : U) : (runG mgetC Try.f18 39 (runRec recC Try.f39) [[b]] R) = (rdIs 2097153 (0 : Nat) 2097153 b ∧ bif pmK b.list 0 then mputP [[U.i (getN b.list 0 1), U.i (getN b.list 1 2), U.s (readV b.list 3), U.l (tgL b.list (pm1 b.list 0)), U.l (pmS b.list 0), U.l (pmM b.list
  0), U.l (pmQ b.list 0)]] ∧ bif metaE (U.i (getN b.list 0 1)) (U.i (getN b.list 1 2)) (U.s (readV b.list 3)) (U.l (tgL b.list (pm1 b.list 0))) (U.l (pmS b.list 0)) (U.l (pmM b.list 0)) (U.l (pmQ b.list
  0)) != 0 then R [[U.i 0, U.i 0, U.s (ByteArray.mk #[]), U.l [], U.l [], U.l [], U.l []], [U.i 3]] else bif !ByteArray.toList (ByteArray.mk (List.toArray (List.map (fun x => UInt8.ofNat (Int.toNat x.int))
  (metaX (U.i (getN b.list 0 1)) (U.i (getN b.list 1 2)) (U.s (readV b.list 3)) (U.l (tgL b.list (pm1 b.list 0))) (U.l (pmS b.list 0)) (U.l (pmM b.list 0)) (U.l (pmQ b.list 0)))))) == ByteArray.toList (ByteArray.mk
  (List.toArray (List.map (fun x => UInt8.ofNat (Int.toNat x.int)) b.list))) then R [[U.i 0, U.i 0, U.s (ByteArray.mk #[]), U.l [], U.l [], U.l [], U.l []], [U.i 3]] else R [[U.i (getN b.list 0 1), U.i (getN
  b.list 1 2), U.s (readV b.list 3), U.l (tgL b.list (pm1 b.list 0)), U.l (pmS b.list 0), U.l (pmM b.list 0), U.l (pmQ b.list 0)], [U.i 0]] else ∀ (x : U), R [[U.i 0, U.i 0, U.s (ByteArray.mk #[]), U.l [],
  U.l [], U.l [], U.l []], [U.i 3]]) := by kernel_rfl
end Go.Mat

namespace Go.Mat
open Go Go.Den Go.Proofs
theorem leavesG_low {b : List U} {k : Int} : ∀ {m : Nat} {a : Int} {L : List U}, leavesK b k m a L = true → L.length ≤ 512 → (leavesG b m a L).length ≤ 512
  | 0, _, _, _, h => h
  | m + 1, a, L, h, hl => by
    rw [leavesK] at h
    simp only [Bool.and_eq_true, decide_eq_true_eq] at h
    have h1 := padU_len h.1.1.1.2
    rw [leavesG]
    refine leavesG_low h.2 ?_
    rw [List.length_append, List.length_singleton]
    omega
theorem tgL_len {b : List U} {a n k : Int} (h : tgR b a n k = true) : (tgL b a).length ≤ 512 := by
  unfold tgR at h
  simp only [Bool.and_eq_true] at h
  exact leavesG_low h.1.2 (by simp)
theorem shS_low {b : List U} {c : Int} : ∀ {m : Nat} {a : Int}, shK b c m a = true → ∀ s ∈ shS b m a, (e2 s).list.length ≤ 512
  | 0, _, _, s, hs => by cases hs
  | m + 1, a, h, s, hs => by
    rw [shK, Bool.and_eq_true] at h
    rw [shS] at hs
    rcases List.mem_cons.1 hs with rfl | hs
    · have h2 := h.1
      unfold sh1K at h2
      simp only [Bool.and_eq_true] at h2
      exact tgL_len h2.2
    · exact shS_low h.2 s hs
theorem spG_len {b : List U} : ∀ {m : Nat} {a : Int}, (spG b m a).length = m
  | 0, _ => rfl
  | m + 1, a => by rw [spG, List.length_cons, spG_len]
theorem bmS_low {b : List U} (hb : byteOk b) : ∀ {m : Nat} {a : Int}, ∀ s ∈ bmS b m a, (e2 s).list.length ≤ 65535
  | 0, _, s, hs => by cases hs
  | m + 1, a, s, hs => by
    rw [bmS] at hs
    rcases List.mem_cons.1 hs with rfl | hs
    · show (rmS b a).length ≤ 65535
      have hg := getN2 (a := rmN b a + 1) hb
      unfold rmS
      rw [spG_len]
      omega
    · exact bmS_low hb s hs
theorem pm_size {b : List U} {a : Int} (hb : byteOk b) (h : pmK b a = true) : sizeOk (.l (tgL b (pm1 b a))) (.l (pmS b a)) (.l (pmM b a)) := by
  unfold pmK at h
  simp only [Bool.and_eq_true] at h
  have h4 := h.1.1.1.1.1.2
  have h6 := h.1.1.1.2
  refine ⟨?_, fun s hs => ?_, fun s hs => ?_⟩
  · have := tgL_len h4; simp only [U.list_l]; omega
  · have := shS_low h6 s hs; omega
  · have := bmS_low hb s hs; omega
theorem mget_ok : SpecFP PR 18 mgetP mgetS := fun fn us hfn hpre => by
  have hf : PR.funcs[(18 : Nat)]? = some Try.f18 := by kernel_rfl
  have hg : PR.funcs[(39 : Nat)]? = some Try.f39 := by kernel_rfl
  rw [hf] at hfn; cases hfn
  refine fnG_ok (C := mgetC) (mkC_ok eqs0_ok mixed_ok (.consP mput_ok .nil) (.cons rdmeta_ok .nil)) hf (by kernel_rfl) hg (rec_ok (C := recC) (mkC_ok eqs0_ok mixed_ok .nil .nil) hg (by kernel_rfl) (by kernel_rfl)) fun hok => ?_
  have hp : Try.f18.params.toList = [32] := by kernel_rfl
  rw [hp] at hok
  obtain ⟨b, hus⟩ : ∃ b, us = [[b]] := by
    obtain ⟨u, rfl, h1⟩ := shape1 (by kernel_rfl : Cs PR 32 = some (false, [.sl false [.int .u8]])) hok.1
    obtain ⟨b, rfl⟩ := len1 h1
    exact ⟨b, rfl⟩
  subst hus
  have hbk : byteOk b.list := bytes_ok (hok.2 [.val (.sl false [.int .u8]) b] (by kernel_rfl)).1
  have hS : mgetS [[b]] = mgetX b.list := rfl
  have hb : b.list.length ≤ 1099511627776 := hpre
  rw [hS]
  refine .eq (mget_tree _ b) ?_
  unfold mgetX mgK
  refine ⟨⟨rfl, rfl, rfl, hb⟩, bi (fun k1 => ?_) (fun k1 => ?_)⟩
  · rw [k1]
    simp only [Bool.true_and]
    refine ⟨pm_size hbk k1, bi (fun k2 => ?_) (fun k2 => ?_)⟩
    · rw [show (metaE (U.i (getN b.list 0 1)) (U.i (getN b.list 1 2)) (U.s (readV b.list 3)) (U.l (tgL b.list (pm1 b.list 0))) (U.l (pmS b.list 0)) (U.l (pmM b.list 0)) (U.l (pmQ b.list 0)) == 0) = false by simpa using k2]
      rfl
    · rw [show (metaE (U.i (getN b.list 0 1)) (U.i (getN b.list 1 2)) (U.s (readV b.list 3)) (U.l (tgL b.list (pm1 b.list 0))) (U.l (pmS b.list 0)) (U.l (pmM b.list 0)) (U.l (pmQ b.list 0)) == 0) = true by simpa using k2]
      refine bi (fun k3 => ?_) (fun k3 => ?_)
      · rw [show mgB (metaX (U.i (getN b.list 0 1)) (U.i (getN b.list 1 2)) (U.s (readV b.list 3)) (U.l (tgL b.list (pm1 b.list 0))) (U.l (pmS b.list 0)) (U.l (pmM b.list 0)) (U.l (pmQ b.list 0))) b.list = false from nt k3]
        rfl
      · rw [show mgB (metaX (U.i (getN b.list 0 1)) (U.i (getN b.list 1 2)) (U.s (readV b.list 3)) (U.l (tgL b.list (pm1 b.list 0))) (U.l (pmS b.list 0)) (U.l (pmM b.list 0)) (U.l (pmQ b.list 0))) b.list = true from nf k3]
        rfl
  · rw [k1]
    intro x
    rfl
end Go.Mat

namespace Go.Mat
open Go Go.Den Go.Proofs
theorem entOk_same {n c i k : Int} {x y : U} (h : entE x y = true) : entOk n c i k x = entOk n c i k y := by
  obtain ⟨h0, h1, h2, h3, h4⟩ := ent_same h
  unfold entOk
  rw [h0, h1, h2, h3, h4]
theorem entsR_same {n c i : Int} : ∀ {l m : List U} {k : Int}, entsE l m = true → entsR n c i k l = entsR n c i k m
  | [], [], _, _ => rfl
  | [], _ :: _, _, h => by cases h
  | _ :: _, [], _, h => by cases h
  | x :: l, y :: m, k, h => by
    rw [entsE, Bool.and_eq_true] at h
    rw [entsR, entsR, entOk_same h.1, entsR_same h.2]
theorem someR_same : ∀ {l m : List U}, entsE l m = true → someR l = someR m
  | [], [], _ => rfl
  | [], _ :: _, h => by cases h
  | _ :: _, [], h => by cases h
  | x :: l, y :: m, h => by
    rw [entsE, Bool.and_eq_true] at h
    obtain ⟨h0, h1, h2, h3, h4⟩ := ent_same h.1
    have ih := someR_same h.2
    unfold someR at ih ⊢
    rw [List.any_cons, List.any_cons, ih, h0, h1, h2, h3, h4]
theorem leafR_same {n c i : Int} {l m : List U} (h : entsE l m = true) : leafR n c i l = leafR n c i m := by
  unfold leafR
  rw [entsE_len h, entsR_same h, someR_same h]
theorem list_nil {l m : List U} (h : l.length = m.length) : l = [] ↔ m = [] := by
  cases l <;> cases m <;> simp at h ⊢
theorem leavesR_same {n c : Int} : ∀ {L M : List U} {i : Int}, tabE L M = true → leavesR n c i L = leavesR n c i M
  | [], [], _, _ => rfl
  | [], _ :: _, _, h => by cases h
  | _ :: _, [], _, h => by cases h
  | x :: l, y :: m, i, h => by
    rw [tabE, Bool.and_eq_true] at h
    have e1 := list_nil (entsE_len h.1)
    have e2 := list_nil (tabE_len h.2)
    rw [leavesR, leavesR, leavesR_same h.2, leafR_same h.1]
    by_cases h1 : x.list = [] ∧ l ≠ []
    · rw [if_pos h1, if_pos ⟨e1.1 h1.1, fun h => h1.2 (e2.2 h)⟩]
    · rw [if_neg h1, if_neg fun h2 => h1 ⟨e1.2 h2.1, fun h => h2.2 (e2.1 h)⟩]
theorem tableR_same {n c : Int} {L M : List U} (h : tabE L M = true) : tableR L n c = tableR M n c := by
  unfold tableR
  rw [leavesR_same h]
theorem spanE_ints {x y : U} (h : spanE x y = true) : (e0 x).int = (e0 y).int ∧ (e1 x).int = (e1 y).int := by
  unfold spanE at h
  simpa using h
theorem spansR_same : ∀ {L M : List U} {k : Int}, spansE L M = true → spansR k L = spansR k M
  | [], [], _, _ => rfl
  | [], _ :: _, _, h => by cases h
  | _ :: _, [], _, h => by cases h
  | x :: l, y :: m, k, h => by
    rw [spansE, Bool.and_eq_true] at h
    obtain ⟨h0, h1⟩ := spanE_ints h.1
    rw [spansR, spansR, h0, h1, spansR_same h.2]
theorem spansE_at : ∀ {L M : List U} {i : Nat}, spansE L M = true → (e1 (U.at L i)).int = (e1 (U.at M i)).int
  | [], [], _, _ => rfl
  | [], _ :: _, _, h => by cases h
  | _ :: _, [], _, h => by cases h
  | x :: l, y :: m, 0, h => by
    rw [spansE, Bool.and_eq_true] at h
    exact (spanE_ints h.1).2
  | x :: l, y :: m, i + 1, h => by
    rw [spansE, Bool.and_eq_true] at h
    show (e1 (U.at l i)).int = (e1 (U.at m i)).int
    exact spansE_at h.2
theorem lastR_same {L M : List U} (h : spansE L M = true) : lastR L = lastR M := by
  unfold lastR
  rw [spansE_at h, spansE_len h]
theorem mapsR_same : ∀ {L M : List U}, mapsE L M = true → mapsR L = mapsR M ∧ (L.map e0).map U.str = (M.map e0).map U.str
  | [], [], _ => ⟨rfl, rfl⟩
  | [], _ :: _, h => by cases h
  | _ :: _, [], h => by cases h
  | x :: l, y :: m, h => by
    rw [mapsE, Bool.and_eq_true, mapE] at h
    simp only [Bool.and_eq_true, beq_iff_eq] at h
    obtain ⟨⟨⟨h1, _⟩, h3⟩, h4⟩ := h
    obtain ⟨ih1, ih2⟩ := mapsR_same h4
    refine ⟨by rw [mapsR, mapsR, spansR_same h3, lastR_same h3, ih1], ?_⟩
    simp only [List.map_cons]
    rw [str_of_list h1, ih2]
theorem shotsR_same {c : Int} : ∀ {L M : List U}, shotsE L M = true → shotsR c L = shotsR c M ∧ (L.map e0).map U.str = (M.map e0).map U.str
  | [], [], _ => ⟨rfl, rfl⟩
  | [], _ :: _, h => by cases h
  | _ :: _, [], h => by cases h
  | x :: l, y :: m, h => by
    rw [shotsE, Bool.and_eq_true, shotE] at h
    simp only [Bool.and_eq_true, beq_iff_eq] at h
    obtain ⟨⟨⟨h1, h2⟩, h3⟩, h4⟩ := h
    obtain ⟨ih1, ih2⟩ := shotsR_same (c := c) h4
    refine ⟨by rw [shotsR, shotsR, h2, tableR_same h3, ih1], ?_⟩
    simp only [List.map_cons]
    rw [str_of_list h1, ih2]
theorem countsR_same : ∀ {L M : List U}, intsE L M = true → countsR L = countsR M
  | [], [], _ => rfl
  | [], _ :: _, h => by cases h
  | _ :: _, [], h => by cases h
  | x :: l, y :: m, h => by
    rw [intsE, Bool.and_eq_true, beq_iff_eq] at h
    rw [countsR, countsR, h.1, countsR_same h.2]
theorem mhas_same {x y : U} (hx : x.str = y.str) : ∀ {es fs : List (U × U)}, es.map (·.1.str) = fs.map (·.1.str) → mhas .str x es = mhas .str y fs
  | [], [], _ => rfl
  | [], _ :: _, h => by simp at h
  | _ :: _, [], h => by simp at h
  | (a, _) :: l, (b, _) :: m, h => by
    simp only [List.map_cons, List.cons.injEq] at h
    rw [mhas, mhas, mhas_same hx h.2]
    simp only [ueq, hx, h.1]
theorem mput_same {x y u v : U} (hx : x.str = y.str) : ∀ {es fs : List (U × U)}, es.map (·.1.str) = fs.map (·.1.str) → (mput .str x u es).map (·.1.str) = (mput .str y v fs).map (·.1.str)
  | [], [], _ => by simp [mput, hx]
  | [], _ :: _, h => by simp at h
  | _ :: _, [], h => by simp at h
  | (a, _) :: l, (b, _) :: m, h => by
    simp only [List.map_cons, List.cons.injEq] at h
    rw [mput, mput]
    have e : ueq .str x a = ueq .str y b := by simp only [ueq, hx, h.1]
    rw [e]
    cases ueq .str y b with
    | true => simp [hx, h.2]
    | false =>
      simp only [cond_false, List.map_cons]
      rw [h.1, mput_same hx h.2]
theorem unlikeR_same : ∀ {L M : List U} {es fs : List (U × U)}, L.map U.str = M.map U.str → es.map (·.1.str) = fs.map (·.1.str) → unlikeR es L = unlikeR fs M
  | [], [], _, _, _, _ => rfl
  | [], _ :: _, _, _, h, _ => by simp at h
  | _ :: _, [], _, _, h, _ => by simp at h
  | x :: l, y :: m, es, fs, h, he => by
    simp only [List.map_cons, List.cons.injEq] at h
    rw [unlikeR, unlikeR, mhas_same h.1 he, h.1, unlikeR_same h.2 (mput_same h.1 he)]
theorem metaR_same {c sz bk T S M Q c' sz' bk' T' S' M' Q' : U} (h : metaEq c sz bk T S M Q c' sz' bk' T' S' M' Q' = true) : metaR c sz bk T S M Q = metaR c' sz' bk' T' S' M' Q' := by
  unfold metaEq at h
  simp only [Bool.and_eq_true, beq_iff_eq] at h
  obtain ⟨⟨⟨⟨⟨⟨h1, h2⟩, h3⟩, h4⟩, h5⟩, h6⟩, h7⟩ := h
  obtain ⟨s1, s2⟩ := shotsR_same (c := c'.int) h7
  obtain ⟨m1, m2⟩ := mapsR_same h5
  unfold metaR
  rw [h1, h2, str_of_list h3, tableR_same h4, s1, m1, countsR_same h6, unlikeR_same s2 rfl, unlikeR_same m2 rfl, shotsE_len h7, mapsE_len h5, intsE_len h6]
end Go.Mat

namespace Go.Mat
open Go Go.Den Go.Proofs
structure At (b : List U) (a : Int) (l : List U) : Prop where
  lo : 0 ≤ a
  hi : a ≤ b.length
  is : ∃ r, b.drop a.toNat = l ++ r
theorem At.app {b : List U} {a : Int} {l m : List U} (h : At b a (l ++ m)) : At b a l ∧ At b (a + l.length) m := by
  obtain ⟨h0, h1, r, hr⟩ := h
  have hl : (b.drop a.toNat).length = (l ++ m ++ r).length := by rw [hr]
  rw [List.length_drop, List.length_append, List.length_append] at hl
  refine ⟨⟨h0, h1, m ++ r, by rw [hr, List.append_assoc]⟩, ⟨by omega, by omega, r, ?_⟩⟩
  rw [show (a + (l.length : Int)).toNat = a.toNat + l.length by omega, ← List.drop_drop, hr, List.append_assoc, List.drop_left]
theorem At.whole (b r : List U) : At (b ++ r) 0 b := ⟨by omega, by omega, r, rfl⟩
theorem At.fits {b : List U} {a : Int} {l : List U} (h : At b a l) : a + l.length ≤ b.length := by
  obtain ⟨h0, h1, r, hr⟩ := h
  have hl : (b.drop a.toNat).length = (l ++ r).length := by rw [hr]
  rw [List.length_drop, List.length_append] at hl
  omega
theorem At.sub {b : List U} {a n : Int} {l : List U} (h : At b a l) (hn : n = l.length) : thereR b a n = true ∧ sub b a n = l := by
  have hf := h.fits
  have ht : thereR b a n = true := thereR_iff.2 ⟨h.lo, h.hi, by omega⟩
  refine ⟨ht, ?_⟩
  obtain ⟨h0, h1, r, hr⟩ := h
  rw [sub_eq ht (by omega), hr, show n.toNat = l.length by omega, List.take_left]
theorem At.eq {b : List U} {a a' : Int} {l : List U} (h : At b a l) (he : a = a') : At b a' l := he ▸ h
theorem num1_len {v : Int} (h0 : 0 ≤ v) (h : v ≤ 255) : (num [] 1 v).length = 1 := by rw [num_list1 h0 h]; rfl
theorem num2_len {v : Int} (h0 : 0 ≤ v) (h : v ≤ 65535) : (num [] 2 v).length = 2 := by rw [num_list2 h0 h]; rfl
theorem num4_len {v : Int} (h0 : 0 ≤ v) (h : v ≤ 4294967295) : (num [] 4 v).length = 4 := by rw [num_list4 h0 h]; rfl
theorem at1 {b : List U} {a v : Int} {r : List U} (h0 : 0 ≤ v) (h1 : v ≤ 255) (h : At b a (num [] 1 v ++ r)) : thereR b a 1 = true ∧ getN b a 1 = v ∧ At b (a + 1) r := by
  obtain ⟨h2, h3⟩ := h.app
  have hl := num1_len h0 h1
  obtain ⟨h4, h5⟩ := h2.sub (n := 1) (by omega)
  refine ⟨h4, ?_, h3.eq (by omega)⟩
  unfold getN
  rw [h4, h5, num_list1 h0 h1, cond_true, leV, leV, U.int_i]
  omega
theorem at2 {b : List U} {a v : Int} {r : List U} (h0 : 0 ≤ v) (h1 : v ≤ 65535) (h : At b a (num [] 2 v ++ r)) : thereR b a 2 = true ∧ getN b a 2 = v ∧ At b (a + 2) r := by
  obtain ⟨h2, h3⟩ := h.app
  have hl := num2_len h0 h1
  obtain ⟨h4, h5⟩ := h2.sub (n := 2) (by omega)
  refine ⟨h4, ?_, h3.eq (by omega)⟩
  unfold getN
  rw [h4, h5, num_list2 h0 h1, cond_true, leV, leV, leV, U.int_i, U.int_i]
  omega
theorem at4 {b : List U} {a v : Int} {r : List U} (h0 : 0 ≤ v) (h1 : v ≤ 4294967295) (h : At b a (num [] 4 v ++ r)) : thereR b a 4 = true ∧ getN b a 4 = v ∧ At b (a + 4) r := by
  obtain ⟨h2, h3⟩ := h.app
  have hl := num4_len h0 h1
  obtain ⟨h4, h5⟩ := h2.sub (n := 4) (by omega)
  refine ⟨h4, ?_, h3.eq (by omega)⟩
  unfold getN
  rw [h4, h5, num_list4 h0 h1, cond_true, leV, leV, leV, leV, leV, U.int_i, U.int_i, U.int_i, U.int_i]
  omega
theorem At.pad {b : List U} {a : Int} {l : List U} (h : At b a l) : At b a (l ++ []) := by rw [List.append_nil]; exact h
theorem toStr_strU (s : ByteArray) : toStr (strU s) = s := by
  show (⟨((strU s).map fun x => UInt8.ofNat x.int.toNat).toArray⟩ : ByteArray) = s
  have h : (strU s).map (fun x => UInt8.ofNat x.int.toNat) = s.data.toList := by
    unfold strU
    rw [List.map_map]
    refine List.map_id'' (fun x => ?_) _
    simp
  rw [h]
theorem at_text {b : List U} {a : Int} {s : ByteArray} {r : List U} (hs : s.size ≤ 65535) (h : At b a (textB [] s ++ r)) : readR b a = true ∧ getN b a 2 = s.size ∧ readV b a = s ∧ At b (a + 2 + s.size) r := by
  unfold textB at h
  rw [show longB s = false from decide_eq_false (by omega), cond_false, List.append_assoc] at h
  obtain ⟨h1, h2, h3⟩ := at2 (by omega) (by omega) h
  obtain ⟨h4, h5⟩ := h3.app
  have hl := strU_len s
  obtain ⟨h6, h7⟩ := h4.sub (n := getN b a 2) (by rw [h2, hl])
  have hr : readR b a = true := by unfold readR; rw [h1, h6]; rfl
  refine ⟨hr, h2, ?_, h5.eq (by rw [hl])⟩
  unfold readV
  rw [hr, h7, cond_true]
  exact toStr_strU s
theorem entX_at {k : Int} {x : U} (h : mayR (e0 x).int (e1 x).int (e2 x).int (e3 x).int (e4 x).int k = true) (hs : sumOk x) :
    (entX k x).length = 16 ∧ egetR (entX k x) k = true ∧ entE (entU (entX k x)) x = true := by
  obtain ⟨ha0, ha, hb0, hb, hc0, hc, hd0, hd⟩ := may_low h
  have he : entX k x = .i (e0 x).int :: .i 0 :: (num [] 2 (e2 x).int ++ (num [] 4 (e1 x).int ++ (num [] 4 (e3 x).int ++ num [] 4 (e4 x).int))) := by
    unfold entX
    rw [h, cond_true, entB_list h hs]
  unfold sumOk at hs
  have l2 := num2_len hc0 (show (e2 x).int ≤ 65535 by omega)
  have l4 := num4_len hb0 (show (e1 x).int ≤ 4294967295 by omega)
  have l8 := num4_len hd0 (show (e3 x).int ≤ 4294967295 by omega)
  have l12 := num4_len hs.1 hs.2
  have hlen : (entX k x).length = 16 := by
    rw [he]
    simp only [List.length_cons, List.length_append, l2, l4, l8, l12]
  have hw : At (entX k x) 0 ([.i (e0 x).int, .i 0] ++ (num [] 2 (e2 x).int ++ (num [] 4 (e1 x).int ++ (num [] 4 (e3 x).int ++ (num [] 4 (e4 x).int ++ []))))) := by
    have := At.whole (entX k x) []
    rw [List.append_nil] at this
    rw [List.append_nil]
    refine ⟨this.lo, this.hi, [], ?_⟩
    rw [List.append_nil]
    exact he
  have h2 := hw.app.2
  obtain ⟨_, g2, h4⟩ := at2 hc0 (by omega) (h2.eq (show (0 : Int) + ([U.i (e0 x).int, U.i 0] : List U).length = 2 by rfl))
  obtain ⟨_, g4, h8⟩ := at4 hb0 (by omega) h4
  obtain ⟨_, g8, h12⟩ := at4 hd0 (by omega) h8
  obtain ⟨_, g12, _⟩ := at4 hs.1 hs.2 h12
  have k0 : eK (entX k x) = (e0 x).int := by rw [he]; rfl
  have k1 : (U.at (entX k x) 1).int = 0 := by rw [he]; rfl
  have kC : eC (entX k x) = (e2 x).int := g2
  have kS : eS (entX k x) = (e1 x).int := g4
  have kZ : eZ (entX k x) = (e3 x).int := g8
  have kM : eM (entX k x) = (e4 x).int := g12
  refine ⟨hlen, ?_, ?_⟩
  · unfold egetR
    rw [hlen, k1, k0, kS, kC, kZ, kM, h]
    rfl
  · show entE (.l [.i (eK (entX k x)), .i (eS (entX k x)), .i (eC (entX k x)), .i (eZ (entX k x)), .i (eM (entX k x))]) x = true
    rw [k0, kS, kC, kZ, kM]
    unfold entE
    simp [e0, e1, e2, e3, e4]
theorem ents_at {b : List U} {n c i : Int} : ∀ {l : List U} {k a : Int} {r : List U}, entsR n c i k l = true → (∀ e ∈ l, sumOk e) → At b a (leafB c l ++ r) →
    entsK b c l.length a = true ∧ entsE (entsG b l.length a) l = true ∧ At b (a + 16 * l.length) r
  | [], _, a, r, _, _, h => ⟨rfl, rfl, h.eq (by simp)⟩
  | x :: l, k, a, r, hr, hs, h => by
    rw [entsR, Bool.and_eq_true] at hr
    have h1 := hr.1
    unfold entOk at h1
    rw [Bool.and_eq_true] at h1
    obtain ⟨g1, g2, g3⟩ := entX_at h1.1 (hs x (List.mem_cons_self ..))
    rw [leafB, List.append_assoc] at h
    obtain ⟨h2, h3⟩ := h.app
    obtain ⟨h4, h5⟩ := h2.sub (n := 16) (by omega)
    obtain ⟨i1, i2, i3⟩ := ents_at (b := b) hr.2 (fun e he => hs e (List.mem_cons_of_mem _ he)) (h3.eq (show a + (entX c x).length = a + 16 by omega))
    have hf := h2.fits
    rw [List.length_cons, entsK, entsG, entsE, h5, g2, g3, i1, i2, decide_eq_true (by omega)]
    exact ⟨rfl, rfl, i3.eq (by omega)⟩
theorem leaf_facts {n c i : Int} {l : U} {t : List U} (h : leavesR n c i (l :: t) = true) : leavesR n c (i + 1) t = true ∧ ((l.list = [] ∧ t ≠ []) ∨ (l.list.length = 8 ∧ entsR n c i 0 l.list = true)) := by
  rw [leavesR] at h
  split at h
  · rename_i hh; exact ⟨h, .inl hh⟩
  · rw [Bool.and_eq_true] at h
    have h1 := h.1
    unfold leafR at h1
    simp only [Bool.and_eq_true, decide_eq_true_eq] at h1
    exact ⟨h.2, .inr h1.1⟩
theorem tabE_app : ∀ {L M P Q : List U}, tabE L M = true → tabE P Q = true → tabE (L ++ P) (M ++ Q) = true
  | [], [], _, _, _, h => h
  | [], _ :: _, _, _, h, _ => by cases h
  | _ :: _, [], _, _, h, _ => by cases h
  | x :: l, y :: m, P, Q, h, h2 => by
    rw [tabE, Bool.and_eq_true] at h
    show (entsE x.list y.list && tabE (l ++ P) (m ++ Q)) = true
    rw [h.1, tabE_app h.2 h2]
    rfl
theorem leaves_at {b : List U} {n c : Int} : ∀ {R : List U} {i a : Int} {L P s : List U}, leavesR n c i R = true → tabOk R → 0 ≤ i → i + R.length ≤ 512 → (L.length : Int) ≤ i → (R = [] → (L.length : Int) = i) → tabE (padU L i) P = true → At b a (leavesB c i R ++ s) →
    leavesK b c (countB R).toNat a L = true ∧ tabE (leavesG b (countB R).toNat a L) (P ++ R) = true ∧ At b (a + 130 * countB R) s
  | [], i, a, L, P, s, _, _, _, _, _, hR, hP, h => by
    refine ⟨rfl, ?_, h.eq (by simp [countB])⟩
    rw [padU_all (by have := hR rfl; omega)] at hP
    show tabE L (P ++ []) = true
    rw [List.append_nil]
    exact hP
  | x :: t, i, a, L, P, s, hx, ht, h0, hl, hL, _, hP, h => by
    obtain ⟨h1, h2⟩ := leaf_facts hx
    have ht' : tabOk t := fun l hl => ht l (List.mem_cons_of_mem _ hl)
    have hc := countB_le t
    rw [List.length_cons] at hl
    rw [leavesB, List.append_assoc] at h
    rcases h2 with ⟨h2, h3⟩ | ⟨h2, h3⟩
    · rw [h2, decide_eq_true rfl, cond_true, List.nil_append] at h
      have hp : padU L (i + 1) = padU L i ++ [.l []] := by
        unfold padU
        rw [show (i + 1 - (L.length : Int)).toNat = (i - (L.length : Int)).toNat + 1 by omega, List.replicate_succ', List.append_assoc]
      have hP' : tabE (padU L (i + 1)) (P ++ [x]) = true := by
        rw [hp]
        refine tabE_app hP ?_
        show (entsE [] x.list && true) = true
        rw [h2]; rfl
      have ih := leaves_at (b := b) h1 ht' (by omega) (by omega) (by omega) (fun h => absurd h h3) hP' h
      rw [List.append_assoc] at ih
      rw [countB, h2, decide_eq_true rfl, cond_true, Int.zero_add]
      exact ih
    · have hne : ¬ x.list = [] := fun h => by rw [h] at h2; simp at h2
      rw [decide_eq_false hne, cond_false, List.append_assoc] at h
      obtain ⟨g1, g2, g3⟩ := at2 h0 (by omega) h
      obtain ⟨g4, g5, g6⟩ := ents_at (b := b) h3 (ht x (List.mem_cons_self ..)) g3
      rw [h2] at g4 g5 g6
      have hplen := padU_len hL
      have hP' : tabE (padU (padU L i ++ [.l (entsG b 8 (a + 2))]) (i + 1)) (P ++ [x]) = true := by
        rw [padU_all (by rw [List.length_append, List.length_singleton]; omega)]
        refine tabE_app hP ?_
        show (entsE (entsG b 8 (a + 2)) x.list && true) = true
        rw [g5]; rfl
      have ih := leaves_at (b := b) (L := padU L i ++ [.l (entsG b 8 (a + 2))]) h1 ht' (by omega) (by omega) (by rw [List.length_append, List.length_singleton]; omega) (fun _ => by rw [List.length_append, List.length_singleton]; omega) hP' (g6.eq (show a + 2 + 16 * ((8 : Nat) : Int) = a + 130 by omega))
      rw [List.append_assoc] at ih
      rw [countB, decide_eq_false hne, cond_false, show (1 + countB t).toNat = (countB t).toNat + 1 by omega, leavesK, leavesG, g1, g2, g4, ih.1, decide_eq_true (show i < 512 by omega), decide_eq_true hL]
      exact ⟨rfl, ih.2.1, ih.2.2.eq (by omega)⟩
theorem tab_at {b : List U} {a n c : Int} {L s : List U} (hl : L.length ≤ 1099511627776) (h : tableR L n c = true) (hs : tabOk L) (hb : At b a (tabX L c ++ s)) :
    tgR b a n c = true ∧ tabE (tgL b a) L = true ∧ At b (a + 2 + 130 * getN b a 2) s := by
  have hlow := (tableR_low hl h).1
  rw [tabX_is hl h hs, tputB, List.append_assoc] at hb
  have hc := countB_le L
  obtain ⟨g1, g2, g3⟩ := at2 hc.1 (by omega) hb
  obtain ⟨g4, g5, g6⟩ := leaves_at (L := []) (P := []) (tableR_parts h).1 hs (by omega) (by omega) (by simp) (by simp) (by rfl) g3
  have g5 : tabE (leavesG b (countB L).toNat (a + 2) []) L = true := g5
  have e : tgL b a = leavesG b (countB L).toNat (a + 2) [] := by show leavesG b (getN b a 2).toNat (a + 2) [] = _; rw [g2]
  refine ⟨?_, by rw [e]; exact g5, by rw [g2]; exact g6⟩
  unfold tgR
  rw [g1, e, tableR_same g5, h, g2, g4]
  rfl
theorem shots_at {b : List U} {c : Int} : ∀ {S : List U} {a : Int} {s : List U}, (∀ x ∈ S, shotGood c x) → shotsR c S = true → At b a (shotsB c S ++ s) →
    shK b c S.length a = true ∧ shotsE (shS b S.length a) S = true ∧ At b (shE b S.length a) s
  | [], a, s, _, _, h => ⟨rfl, rfl, h⟩
  | x :: S, a, s, hg, hr, h => by
    obtain ⟨⟨x1, x2, x3, x4⟩, x5, _⟩ := hg x (List.mem_cons_self ..)
    rw [shotsR] at hr
    simp only [Bool.and_eq_true] at hr
    rw [shotsB] at h
    simp only [List.append_assoc] at h
    obtain ⟨g1, g2, g3, g4⟩ := at_text x1 h
    obtain ⟨g5, g6, g7⟩ := at2 x2 x3 (g4.eq (show a + 2 + ((e0 x).str.size : Int) = rmN b a by unfold rmN; rw [g2]))
    obtain ⟨g8, g9, g10⟩ := tab_at x4 hr.1.2 x5 g7
    obtain ⟨i1, i2, i3⟩ := shots_at (b := b) (fun y hy => hg y (List.mem_cons_of_mem _ hy)) hr.2 (g10.eq (show _ = sh1E b a from rfl))
    rw [List.length_cons, shK, shS, shE, shotsE]
    refine ⟨?_, ?_, i3⟩
    · rw [i1]
      unfold sh1K shZ
      rw [g1, g5, g6, g8]
      rfl
    · rw [i2]
      unfold sh1U shZ shotE
      rw [g3, g6]
      show ((((e0 x).str.toList == (e0 x).str.toList) && ((e1 x).int == (e1 x).int) && tabE (tgL b (rmN b a + 2)) (e2 x).list) && true) = true
      rw [g9]
      simp
theorem spans_at {b : List U} : ∀ {L : List U} {a : Int} {s : List U}, (∀ x ∈ L, spanOk x) → At b a (spansB L ++ s) → spansE (spG b L.length a) L = true ∧ At b (a + 4 * L.length) s
  | [], a, s, _, h => ⟨rfl, h.eq (by simp)⟩
  | x :: L, a, s, hg, h => by
    obtain ⟨x1, x2, x3, x4⟩ := hg x (List.mem_cons_self ..)
    rw [spansB] at h
    simp only [List.append_assoc] at h
    obtain ⟨_, g2, g3⟩ := at2 x1 x2 h
    obtain ⟨_, g5, g6⟩ := at2 x3 x4 g3
    obtain ⟨i1, i2⟩ := spans_at (b := b) (fun y hy => hg y (List.mem_cons_of_mem _ hy)) (g6.eq (show a + 2 + 2 = a + 4 by omega))
    rw [List.length_cons, spG, spansE, i1, g2, g5]
    refine ⟨?_, i2.eq (by omega)⟩
    unfold spanE
    simp [e0, e1]
theorem maps_at {b : List U} : ∀ {M : List U} {a : Int} {s : List U}, (∀ x ∈ M, bmapOk x) → At b a (mapsB M ++ s) → bmK b M.length a = true ∧ mapsE (bmS b M.length a) M = true ∧ At b (bmE b M.length a) s
  | [], a, s, _, h => ⟨rfl, rfl, h⟩
  | x :: M, a, s, hg, h => by
    obtain ⟨x1, x2, x3⟩ := hg x (List.mem_cons_self ..)
    rw [mapsB, mapB] at h
    simp only [List.append_assoc] at h
    obtain ⟨g1, g2, g3, g4⟩ := at_text x1 h
    have on : 0 ≤ onB (e1 x).bool ∧ onB (e1 x).bool ≤ 255 := by cases (e1 x).bool <;> simp [onB]
    obtain ⟨g5, g6, g7⟩ := at1 on.1 on.2 (g4.eq (show a + 2 + ((e0 x).str.size : Int) = rmN b a by unfold rmN; rw [g2]))
    obtain ⟨g8, g9, g10⟩ := at2 (by omega) (by omega) g7
    have g10' := g10.eq (show rmN b a + 1 + 2 = rmN b a + 3 by omega)
    obtain ⟨g11, g12⟩ := spans_at x3 g10'
    have hf : rmN b a + 3 + 4 * ((e2 x).list.length : Int) ≤ b.length := g12.hi
    obtain ⟨i1, i2, i3⟩ := maps_at (b := b) (fun y hy => hg y (List.mem_cons_of_mem _ hy)) (g12.eq (show _ = rmE b a by unfold rmE; rw [g9]))
    rw [List.length_cons, bmK, bmS, bmE, mapsE]
    refine ⟨?_, ?_, i3⟩
    · rw [i1]
      unfold rmK
      rw [g1, g5, g8, g9, decide_eq_true hf]
      rfl
    · rw [i2]
      unfold bm1U rmS mapE
      rw [g3, g6, g9]
      show ((((e0 x).str.toList == (e0 x).str.toList) && ((onB (e1 x).bool == 1) == (e1 x).bool) && spansE (spG b ((e2 x).list.length : Int).toNat (rmN b a + 3)) (e2 x).list) && true) = true
      rw [Int.toNat_natCast, g11]
      cases (e1 x).bool <;> simp [onB]
theorem counts_at {b : List U} : ∀ (m : Nat) {Q : List U} {a : Int}, Q.length ≤ m → (∀ x ∈ Q, cntOk x) → (∃ s, At b a (countsB Q ++ s)) → rcK b Q.length a = true ∧ (rcS b Q.length a).map U.int = Q.map U.int
  | _, [], a, _, _, _ => by
    refine ⟨rcK_end (by simp), ?_⟩
    rw [rcS_end (by simp)]
  | 0, _ :: _, _, hm, _, _ => by simp at hm
  | k + 1, x :: l, a, hm, hx, ⟨s, h⟩ => by
    have x1 := hx x (List.mem_cons_self ..)
    unfold cntOk at x1
    have gx := lead_ge x.int l 1
    have tx := lead_take x.int l 1
    rw [countsB_cons] at h
    simp only [List.append_assoc] at h
    obtain ⟨g1, g2, g3⟩ := at2 (by omega) (by omega) h
    obtain ⟨g4, g5, g6⟩ := at2 x1.1 x1.2 g3
    simp only [List.length_cons] at hm
    obtain ⟨i1, i2⟩ := counts_at k (Q := l.drop (lead x.int 1 l - 1).toNat) (by simp; omega) (fun e he => hx e (List.mem_cons_of_mem _ (List.mem_of_mem_drop he))) ⟨s, g6⟩
    have hlen : ((x :: l).length : Int) = l.length + 1 := by simp
    have e : ((x :: l).length : Int) - getN b a 2 = ((l.drop (lead x.int 1 l - 1).toNat).length : Int) := by rw [hlen, g2, List.length_drop]; omega
    have hp : 0 < getN b a 2 := by omega
    refine ⟨?_, ?_⟩
    · rw [rcK_step (by omega) hp g1 g4 (by omega), e]
      exact i1
    · rw [rcS_step (by omega) hp, e, List.map_append, i2, g2, g5, List.map_replicate, U.int_i, List.map_cons]
      conv => rhs; rw [← List.take_append_drop (lead x.int 1 l - 1).toNat l, List.map_append, tx]
      rw [show (lead x.int 1 l).toNat = (lead x.int 1 l - 1).toNat + 1 by omega, List.replicate_succ]
      rfl
theorem meta_at {c sz bk T S M Q : U} {r : List U} (g : Good c sz bk T S M Q) (hR : metaR c sz bk T S M Q = true) {b : List U} (hb : b = metaB c.int sz.int bk.str T.list S.list M.list Q.list ++ r) :
    pmK b 0 = true ∧ metaEq (.i (getN b 0 1)) (.i (getN b 1 2)) (.s (readV b 3)) (.l (tgL b (pm1 b 0))) (.l (pmS b 0)) (.l (pmM b 0)) (.l (pmQ b 0)) c sz bk T S M Q = true := by
  have b1 := g.c6; have b3 := g.sz1; have b5 := g.bk; have b7 := g.s8; have b9 := g.m8; have b11 := g.ql
  rw [metaR_iff] at hR
  obtain ⟨_, _, _, _, rT, _, _, _, rS, _, _, _, _⟩ := hR
  have h : At b 0 (metaB c.int sz.int bk.str T.list S.list M.list Q.list) := by rw [hb]; exact At.whole _ _
  unfold metaB at h
  simp only [List.append_assoc] at h
  obtain ⟨t1, v1, h⟩ := at1 g.c0 (by omega) h
  obtain ⟨t2, v2, h⟩ := at2 g.sz0 (by omega) h
  obtain ⟨t3, v3, w3, h⟩ := at_text (by omega) (h.eq (show (0 : Int) + 1 + 2 = 3 by rfl))
  have p1 : pm1 b 0 = 3 + 2 + (bk.str.size : Int) := by
    show (0 : Int) + 1 + 2 + 2 + getN b (0 + 1 + 2) 2 = _
    rw [show (0 : Int) + 1 + 2 = 3 by rfl, v3]
  obtain ⟨t4, v4, h⟩ := tab_at g.tl rT g.ts (h.eq p1.symm)
  obtain ⟨t5, v5, h⟩ := at1 (by omega) (by omega) (h.eq (show _ = pm2 b 0 from rfl))
  obtain ⟨t6, v6, h⟩ := shots_at g.sg rS h
  have p3 : shE b S.list.length (pm2 b 0 + 1) = pm3 b 0 := by unfold pm3; rw [v5, Int.toNat_natCast]
  obtain ⟨t7, v7, h⟩ := at1 (by omega) (by omega) (h.eq p3)
  obtain ⟨t8, v8, h⟩ := maps_at (fun s hs => (g.maps s hs).1) h
  have p4 : bmE b M.list.length (pm3 b 0 + 1) = pm4 b 0 := by unfold pm4; rw [v7, Int.toNat_natCast]
  obtain ⟨t9, v9, h⟩ := at4 (by omega) (by omega) (h.eq p4)
  obtain ⟨t10, v10⟩ := counts_at (b := b) _ (Nat.le_refl _) g.counts ⟨[], h.pad⟩
  have e1 : getN b (0 + 1) 2 = sz.int := v2
  refine ⟨?_, ?_⟩
  · unfold pmK rnK
    rw [t1, show thereR b (0 + 1) 2 = true from t2, show readR b (0 + 1 + 2) = true from t3, e1, v1, t4, t5, v5, Int.toNat_natCast, t6, t7, v7, Int.toNat_natCast, t8, t9, v9, decide_eq_true (by omega), t10]
    rfl
  · have e2 : getN b 1 2 = sz.int := v2
    unfold metaEq pmS pmM pmQ
    simp only [U.int_i, U.str_s, U.list_l]
    rw [v1, e2, w3, v4, v5, v7, v9, Int.toNat_natCast, Int.toNat_natCast, v6, v8, intsE_iff.2 v10]
    simp
end Go.Mat

namespace Go.Mat
open Go Go.Den Go.Proofs
theorem entsG_sums {b : List U} (hb : byteOk b) : ∀ {m : Nat} {a : Int}, ∀ e ∈ entsG b m a, sumOk e
  | 0, _, e, he => by cases he
  | m + 1, a, e, he => by
    rw [entsG] at he
    rcases List.mem_cons.1 he with rfl | he
    · exact getN4 (sub_bytes a 16 hb)
    · exact entsG_sums hb e he
theorem leavesG_sums {b : List U} (hb : byteOk b) : ∀ {m : Nat} {a : Int} {L : List U}, tabOk L → tabOk (leavesG b m a L)
  | 0, _, _, h => h
  | m + 1, a, L, h => by
    rw [leavesG]
    refine leavesG_sums hb fun l hl => ?_
    rcases List.mem_append.1 hl with hl | hl
    · unfold padU at hl
      rcases List.mem_append.1 hl with hl | hl
      · exact h l hl
      · rw [List.eq_of_mem_replicate hl]
        intro e he
        cases he
    · rw [List.mem_singleton.1 hl]
      exact entsG_sums hb
theorem tgL_sums {b : List U} (hb : byteOk b) {a : Int} : tabOk (tgL b a) := leavesG_sums hb fun l hl => by cases hl
theorem shS_good {b : List U} {c : Int} (hb : byteOk b) : ∀ {m : Nat} {a : Int}, shK b c m a = true → ∀ s ∈ shS b m a, 0 ≤ (e1 s).int ∧ (e1 s).int ≤ 65535 ∧ tabOk (e2 s).list ∧ (e2 s).list.length ≤ 512 ∧ ∃ n, tableR (e2 s).list n c = true
  | 0, _, _, s, hs => by cases hs
  | m + 1, a, h, s, hs => by
    rw [shK, Bool.and_eq_true] at h
    rw [shS] at hs
    rcases List.mem_cons.1 hs with rfl | hs
    · have h2 := h.1
      unfold sh1K at h2
      simp only [Bool.and_eq_true] at h2
      have h3 := h2.2
      have hl := tgL_len h3
      unfold tgR at h3
      simp only [Bool.and_eq_true] at h3
      have hg := getN2 (a := rmN b a) hb
      exact ⟨hg.1, hg.2, tgL_sums hb, hl, _, h3.2⟩
    · exact shS_good hb h.2 s hs
theorem pm_good {b : List U} (hb : byteOk b) (h : pmK b 0 = true) (hR : metaR (.i (getN b 0 1)) (.i (getN b 1 2)) (.s (readV b 3)) (.l (tgL b (pm1 b 0))) (.l (pmS b 0)) (.l (pmM b 0)) (.l (pmQ b 0)) = true) : Good (.i (getN b 0 1)) (.i (getN b 1 2)) (.s (readV b 3)) (.l (tgL b (pm1 b 0))) (.l (pmS b 0)) (.l (pmM b 0)) (.l (pmQ b 0)) := by
  have hs := pm_size hb h
  have hF := right_facts hs.1 hs.2.1 (by rw [rmetaR_eq hs.1 hs.2.1]; exact hR)
  refine { hF with tl := hs.1, ts := tgL_sums hb, ql := hF.q, sg := fun s hm => ?_ }
  unfold pmK at h
  simp only [Bool.and_eq_true] at h
  obtain ⟨h1, h2, h3, h4, h5⟩ := shS_good hb h.1.1.1.2 s hm
  exact ⟨⟨by have := (hF.shots s hm).1; omega, h1, h2, by omega⟩, h3, h5⟩
theorem mput_ok_bytes {c sz bk T S M Q : U} (hR : metaR c sz bk T S M Q = true) (hL : metaL c.int sz.int bk.str T.list S.list M.list Q.list = false) : metaE c sz bk T S M Q = 0 ∧ metaX c sz bk T S M Q = metaB c.int sz.int bk.str T.list S.list M.list Q.list := by
  unfold metaE metaX
  rw [hR, hL]
  exact ⟨rfl, rfl⟩
theorem metaE_zero {c sz bk T S M Q : U} (h : metaE c sz bk T S M Q = 0) : metaR c sz bk T S M Q = true ∧ metaL c.int sz.int bk.str T.list S.list M.list Q.list = false := by
  unfold metaE at h
  cases hR : metaR c sz bk T S M Q with
  | false => rw [hR] at h; cases h
  | true =>
    rw [hR] at h
    cases hL : metaL c.int sz.int bk.str T.list S.list M.list Q.list with
    | false => exact ⟨rfl, rfl⟩
    | true => rw [hL] at h; cases h
def cb (l : List U) : List U := l.map fun x => .i x.int
theorem byteOk_all {l : List U} (h : allBytes l) : byteOk l := fun u hu => by
  obtain ⟨n, hn, rfl⟩ := h.all u hu
  simp only [U.int_i]
  omega
theorem mg_back {c sz bk T S M Q : U} (g : Good c sz bk T S M Q) (hR : metaR c sz bk T S M Q = true) (hL : metaL c.int sz.int bk.str T.list S.list M.list Q.list = false) {b : List U} (hbm : b = metaB c.int sz.int bk.str T.list S.list M.list Q.list) :
    mgK b = true ∧ metaEq (.i (getN b 0 1)) (.i (getN b 1 2)) (.s (readV b 3)) (.l (tgL b (pm1 b 0))) (.l (pmS b 0)) (.l (pmM b 0)) (.l (pmQ b 0)) c sz bk T S M Q = true := by
  have hab : allBytes b := by rw [hbm]; exact good_bytes g
  have hb := byteOk_all hab
  obtain ⟨h1, h2⟩ := meta_at g hR (b := b) (r := []) (by rw [List.append_nil]; exact hbm)
  have hR' : metaR (.i (getN b 0 1)) (.i (getN b 1 2)) (.s (readV b 3)) (.l (tgL b (pm1 b 0))) (.l (pmS b 0)) (.l (pmM b 0)) (.l (pmQ b 0)) = true := by rw [metaR_same h2]; exact hR
  have g' := pm_good hb h1 hR'
  have hB : metaB (U.i (getN b 0 1)).int (U.i (getN b 1 2)).int (U.s (readV b 3)).str (U.l (tgL b (pm1 b 0))).list (U.l (pmS b 0)).list (U.l (pmM b 0)).list (U.l (pmQ b 0)).list = b := (metaB_same g' g h2).trans hbm.symm
  have hL' : metaL (U.i (getN b 0 1)).int (U.i (getN b 1 2)).int (U.s (readV b 3)).str (U.l (tgL b (pm1 b 0))).list (U.l (pmS b 0)).list (U.l (pmM b 0)).list (U.l (pmQ b 0)).list = false := by
    unfold metaL at hL ⊢
    rw [hB, hbm]
    exact hL
  obtain ⟨hE, hX⟩ := mput_ok_bytes hR' hL'
  refine ⟨?_, h2⟩
  unfold mgK mgB
  rw [h1, hE, hX, hB]
  simp
theorem metaL_len {c sz bk T S M Q : U} (h : metaL c.int sz.int bk.str T.list S.list M.list Q.list = false) : (metaB c.int sz.int bk.str T.list S.list M.list Q.list).length ≤ 1048576 := by
  unfold metaL at h
  have := of_decide_eq_false h
  omega
end Go.Mat

namespace Go.Mat
open Go Go.Den Go.Proofs
noncomputable def mputF : Tr := fun vs objs k => match vs, objs with
  | [.agg [.val (.int .i64) c, .val (.int .i64) sz, .val .str bk, .val (.sl false [.sl true x1]) T, .val (.sl true x2) S, .val (.sl true x3) M, .val (.sl false [.int .i64]) Q]], [] =>
    ((x1 = EC ∧ x2 = SC ∧ x3 = BC) ∧ sizeOk T S M) ∧ k (.ret [.own 2097152, vi (.i (metaE c sz bk T S M Q))]) [(2097152, .arr u8T (metaX c sz bk T S M Q))]
  | _, _ => False
theorem mputT_tree (R : RT) (c sz bk T S M Q : U) : (runD mputC Try.f12 [.agg (mCells c sz bk T S M Q)] [] R) = (bif !metaR c sz bk T S M Q then R (Out.ret [.own 2097152, vi (U.i 1)]) [(2097152, .arr 5 [])] else (wIs 2097153 (0 : Nat) 2097153 2097280 2097280 5 ∧ (1 : Int) ≤ 8 ∧ (0 : Nat) ≤ (800000000 : Nat)) ∧ (wIs 2097153 (0 : Nat) 2097153 2097280 2097280 5 ∧ (2 : Int) ≤ 8 ∧ List.length ([] ++ num [] 1 c.int) ≤ (800000000 : Nat)) ∧ (wIs 2097153 (0 : Nat) 2097153 2097280 2097280 5 ∧ List.length ([] ++ num [] 1 c.int ++ num [] 2 sz.int) ≤ (800000000 : Nat)) ∧ (wIs 2097153 (0 : Nat) 2097153 2097280 2097280 5 ∧ EC = EC ∧ T.list.length ≤ (1099511627776 : Nat) ∧ List.length ([] ++ num [] 1 c.int ++ num [] 2 sz.int ++ textB [] bk.str) ≤ (800000000 : Nat)) ∧ (wIs 2097153 (0 : Nat) 2097153 2097280 2097280 5 ∧ (1 : Int) ≤ 8 ∧ List.length ([] ++ num [] 1 c.int ++ num [] 2 sz.int ++ textB [] bk.str ++ tabX T.list c.int) ≤ (800000000 : Nat)) ∧ (mIs 1664 (0 : Nat) 128 (0 : Nat) 1666 5 ∧ (SC = SC ∧ EC = EC ∧ SC = SC ∧ BC = BC) ∧ (S.list.length : Int) = (S.list.length : Int) ∧ (S.list.length : Int) ≤ 8 ∧ (0 : Int) ≤ 0 ∧ (0 : Int) ≤ (S.list.length : Int) ∧ (∀ (s : U), s ∈ S.list → List.length (U.list (e2 s)) ≤ (1099511627776 : Nat)) ∧ (↑(List.length ([] ++ num [] 1 c.int ++ num [] 2 sz.int ++ textB [] bk.str ++ tabX T.list c.int ++ num [] 1 (S.list.length : Int))) : Int) + 200000 * ((S.list.length : Int) - 0) ≤ 300000000) ∧ (wIs 2097153 (0 : Nat) 2097153 2097280 2097280 5 ∧ (1 : Int) ≤ 8 ∧ List.length ([] ++ num [] 1 c.int ++ num [] 2 sz.int ++ textB [] bk.str ++ tabX T.list c.int ++ num [] 1 (S.list.length : Int) ++ shotsB c.int (List.drop (Int.toNat 0) S.list)) ≤ (800000000 : Nat)) ∧ (mIs 1664 (0 : Nat) 128 (0 : Nat) 1666 5 ∧ (BC = BC ∧ EC = EC ∧ SC = SC ∧ BC = BC) ∧ (M.list.length : Int) = (M.list.length : Int) ∧ (M.list.length : Int) ≤ 8 ∧ (0 : Int) ≤ 0 ∧ (0 : Int) ≤ (M.list.length : Int) ∧ (∀ (b : U), b ∈ M.list → List.length (U.list (e2 b)) ≤ (1000000 : Nat)) ∧ (↑(List.length ([] ++ num [] 1 c.int ++ num [] 2 sz.int ++ textB [] bk.str ++ tabX T.list c.int ++ num [] 1 (S.list.length : Int) ++ shotsB c.int (List.drop (Int.toNat 0) S.list) ++ num [] 1 (M.list.length : Int))) : Int) + 9000000 * ((M.list.length : Int) - 0) ≤ 400000000) ∧ (wIs 2097153 (0 : Nat) 2097153 2097280 2097280 5 ∧ (↑(List.length ([] ++ num [] 1 c.int ++ num [] 2 sz.int ++ textB [] bk.str ++ tabX T.list c.int ++ num [] 1 (S.list.length : Int) ++ shotsB c.int (List.drop (Int.toNat 0) S.list) ++ num [] 1 (M.list.length : Int) ++ mapsB (List.drop (Int.toNat 0) M.list))) : Int) + 8 * (Q.list.length : Int) ≤ 700000000) ∧ bif decide ((↑(List.length ([] ++ num [] 1 c.int ++ num [] 2 sz.int ++ textB [] bk.str ++ tabX T.list c.int ++ num [] 1 (S.list.length : Int) ++ shotsB c.int (List.drop (Int.toNat 0) S.list) ++ num [] 1 (M.list.length : Int) ++ mapsB (List.drop (Int.toNat 0) M.list) ++ (num [] 4 (Q.list.length : Int) ++ countsB Q.list))) : Int) > 1048576) then R (Out.ret [.own 2097152, vi (U.i 2)]) [(2097152, .arr 5 [])] else R (Out.ret [.own 2097152, vi (U.i 0)]) [(2097152, .arr 5 ([] ++ num [] 1 c.int ++ num [] 2 sz.int ++ textB [] bk.str ++ tabX T.list c.int ++ num [] 1 (S.list.length : Int) ++ shotsB c.int (List.drop (Int.toNat 0) S.list) ++ num [] 1 (M.list.length : Int) ++ mapsB (List.drop (Int.toNat 0) M.list) ++ (num [] 4 (Q.list.length : Int) ++ countsB Q.list)))]) := by kernel_rfl
end Go.Mat

namespace Go.Mat
open Go Go.Den Go.Proofs
theorem mputT_ok : SpecT PR 12 mputF := fun fn hfn => by
  have hf : PR.funcs[(12 : Nat)]? = some Try.f12 := by kernel_rfl
  rw [hf] at hfn; cases hfn
  refine fnT_okH (C := mputC) (mkC_ok eqs0_ok mixed_ok (.cons meta_ok .nil) (.cons wnum_ok (.cons wtext_ok (.cons wtable_ok (.cons wmap_ok (.cons wcounts_ok .nil)))))) hf (by kernel_rfl) (loops_two (by kernel_rfl) mput_loop0 mput_loop2) fun vs objs R h1 h2 h => ?_
  unfold mputF at h
  split at h
  · rename_i c sz bk x1 T x2 S x3 M Q
    obtain ⟨⟨⟨rfl, rfl, rfl⟩, hT, hS, hM⟩, h⟩ := h
    clear h1 h2
    refine .eq (mputT_tree R c sz bk T S M Q) ?_
    unfold metaX metaE at h
    refine bi (fun hr => by rw [nt hr] at h; exact h) (fun hr => ?_)
    have hr := nf hr
    rw [hr] at h
    obtain ⟨_, _, _, _, _, hS8, hM8, hQ, _⟩ := (metaR_iff ..).1 hr
    have l1 := num1 c.int
    have l2 := num2 sz.int
    have l3 := textB_len bk.str
    have l4 := tabX_len c.int hT
    have l5 := num1 S.list.length
    have l6 := shotsB_len c.int S.list hS
    have l7 := num1 M.list.length
    have l8 := mapsB_len M.list hM
    have hB : [] ++ num [] 1 c.int ++ num [] 2 sz.int ++ textB [] bk.str ++ tabX T.list c.int ++ num [] 1 S.list.length ++ shotsB c.int S.list ++ num [] 1 M.list.length ++ mapsB M.list ++ (num [] 4 Q.list.length ++ countsB Q.list) = metaB c.int sz.int bk.str T.list S.list M.list Q.list := by
      simp [metaB]
    simp only [List.drop_zero, Int.toNat_zero, hB]
    refine ⟨⟨wis, by omega, by omega⟩, ⟨wis, by omega, ?_⟩, ⟨wis, ?_⟩, ⟨wis, by trivial, hT, ?_⟩, ⟨wis, by omega, ?_⟩, ⟨mis, ⟨by trivial, by trivial, by trivial, by trivial⟩, by trivial, by omega, by trivial, by omega, hS, ?_⟩, ⟨wis, by omega, ?_⟩, ⟨mis, ⟨by trivial, by trivial, by trivial, by trivial⟩, by trivial, by omega, by trivial, by omega, hM, ?_⟩, ⟨wis, ?_⟩, ?_⟩
    all_goals try (simp only [List.length_append, List.length_nil]; omega)
    refine bi (fun hl => ?_) (fun hl => ?_)
    · rw [show metaL c.int sz.int bk.str T.list S.list M.list Q.list = true from hl] at h; exact h
    · rw [show metaL c.int sz.int bk.str T.list S.list M.list Q.list = false from hl] at h; exact h
  · exact h.elim
end Go.Mat

namespace Go.Mat
open Go Go.Den Go.Proofs
noncomputable def backC : Ctx := mkC PR eqs0 (fnsConsP 18 mgetP mgetS (fnsCons 14 errS (fnsCons 10 metaGS (fnsCons 11 trueS (fnsCons 15 rmetaS (fnsCons 17 sameS fnsNil)))))) (trsCons 12 [false] mputF trsNil) noLoops noOut noOut
noncomputable def backB : Code := bodyOf Try.f7
noncomputable def backA : Code := .seq (piece backB [0]) (.seq (piece backB [1, 0]) (piece backB [1, 1, 0]))
abbrev seen (ts os : List Nat) (k : KE) : KE := fun e σ => k e (mask σ (some (ts, os)))
theorem back_tree1 (k : KE) (c sz bk T S M Q : U) : (exec (backC.panics fun _ _ => False) backA 0 ⟨[(0, .agg (mCells c sz bk T S M Q))], []⟩ (seen [1, 2, 3, 4] [128, 2960] k)) = (bif metaG bk T S M Q then k Ex.ret (St.mk [(1, SV.ptr 128 0), (2, SV.val Ct.bool (U.b true)), (3, SV.unk), (4, SV.unk)] [(128, Obj.box [vi c, vi sz, SV.val Ct.str bk, SV.val (Ct.sl false [Ct.sl true EC])
  T, SV.val (Ct.sl true SC) S, SV.val (Ct.sl true BC) M, SV.val (Ct.sl false [.int .i64]) Q])]) else bif !rmetaR c sz bk T S M Q then k Ex.ret (St.mk [(1, SV.ptr 128 0), (2, SV.val Ct.bool (U.b true)), (3,
  SV.unk), (4, SV.unk)] [(128, Obj.box [vi c, vi sz, SV.val Ct.str bk, SV.val (Ct.sl false [Ct.sl true EC]) T, SV.val (Ct.sl true SC) S, SV.val (Ct.sl true BC) M, SV.val (Ct.sl false [.int .i64]) Q])]) else
  ((EC = EC ∧ SC = SC ∧ BC = BC) ∧ sizeOk T S M) ∧ k Ex.normal (St.mk [(1, SV.ptr 128 0), (2, SV.val Ct.bool (U.b false)), (3, SV.own 2960), (4, vi (U.i (metaE c sz bk T S M Q)))] [(128, Obj.box [vi c, vi
  sz, SV.val Ct.str bk, SV.val (Ct.sl false [Ct.sl true EC]) T, SV.val (Ct.sl true SC) S, SV.val (Ct.sl true BC) M, SV.val (Ct.sl false [.int .i64]) Q]), (2960, Obj.arr 5 (metaX c sz bk T S M Q))])) := by kernel_rfl
theorem back_tree2 (k : KE) (B e : U) : (exec (backC.panics fun _ _ => False) (piece backB [1, 1, 1, 0]) 0 ⟨[(1, .ptr 129 0), (3, vl (.int .u8) B), (4, vi e)], []⟩ (seen [1, 3, 4, 5, 6] [640] k)) = (mgetP [[B]] ∧ k Ex.normal (St.mk [(1, SV.ptr 129 0), (3, SV.val (Ct.sl false [.int .u8]) B), (4, vi e), (5, SV.ptr 640 0), (6, vi (U.i (bif mgK B.list then (0 : Int) else (3 : Int))))] [(640, Obj.box [vi
  (U.i (bif mgK B.list then getN B.list 0 1 else (0 : Int))), vi (U.i (bif mgK B.list then getN B.list 1 2 else (0 : Int))), SV.val Ct.str (U.s (bif mgK B.list then readV B.list 3 else ByteArray.mk #[])),
  SV.val (Ct.sl false [Ct.sl true EC]) (U.l (bif mgK B.list then tgL B.list (pm1 B.list 0) else [])), SV.val (Ct.sl true SC) (U.l (bif mgK B.list then pmS B.list 0 else [])), SV.val (Ct.sl true BC) (U.l
  (bif mgK B.list then pmM B.list 0 else [])), SV.val (Ct.sl false [.int .i64]) (U.l (bif mgK B.list then pmQ B.list 0 else []))])])) := by kernel_rfl
theorem back_tree3 (k : KE) (e e2 c sz bk T S M Q c' sz' bk' T' S' M' Q' : U) : (exec (backC.panics fun _ _ => False) (piece backB [1, 1, 1, 1, 0]) 0 ⟨[(1, .ptr 129 0), (3, .own 131), (4, vi e), (5, .ptr 641 0), (6, vi e2)], [(129, .box (mCells c sz bk T S M Q)), (641, .box (mCells c' sz' bk' T' S' M' Q'))]⟩ (seen [1, 3, 5, 7] [129, 641] k)) = (bif e.int == 0 then bif e2.int == 0 then k Ex.normal (St.mk [(1, .ptr 129 0), (3, .own 131), (5, .ptr 641 0), (7, .val .bool (U.b (metaEq c sz bk T S M Q c' sz' bk' T' S' M' Q')))] [(129, .box [vi c, vi sz, .val .str bk, .val (.sl false [.sl true EC]) T, .val (.sl true SC) S, .val (.sl true BC) M, .val (.sl false [.int .i64]) Q]), (641, .box [vi c', vi sz', .val .str bk', .val (.sl false [.sl true EC]) T', .val (.sl true SC) S', .val (.sl true BC) M', .val (.sl false [.int .i64]) Q'])]) else k Ex.normal (St.mk [(1, .ptr 129 0), (3, .own 131), (5, .ptr 641 0), (7, .val .bool (U.b false))] [(129, .box [vi c, vi sz, .val .str bk, .val (.sl false [.sl true EC]) T, .val (.sl true SC) S, .val (.sl true BC) M, .val (.sl false [.int .i64]) Q]), (641, .box [vi c', vi sz', .val .str bk', .val (.sl false [.sl true EC]) T', .val (.sl true SC) S', .val (.sl true BC) M', .val (.sl false [.int .i64]) Q'])]) else k Ex.normal (St.mk [(1, .ptr 129 0), (3, .own 131), (5, .ptr 641 0), (7, .val .bool (U.b false))] [(129, .box [vi c, vi sz, .val .str bk, .val (.sl false [.sl true EC]) T, .val (.sl true SC) S, .val (.sl true BC) M, .val (.sl false [.int .i64]) Q]), (641, .box [vi c', vi sz', .val .str bk', .val (.sl false [.sl true EC]) T', .val (.sl true SC) S', .val (.sl true BC) M', .val (.sl false [.int .i64]) Q'])])) := by kernel_rfl
theorem back_tree4 (k : KE) (B ok c sz bk T S M Q : U) : (exec (backC.panics fun _ _ => False) (piece backB [1, 1, 1, 1, 1, 1, 1]) 0 ⟨[(1, .ptr 129 0), (3, vl (.int .u8) B), (7, vb ok)], [(129, .box (mCells c sz bk T S M Q))]⟩ (seen [2] [] k)) = (mgetP [[B]] ∧ bif ok.bool then bif (bif mgK B.list then (0 : Int) else (3 : Int)) == 0 then bif metaEq c sz bk T S M Q (U.i (bif mgK B.list then getN B.list 0 1 else (0 : Int))) (U.i (bif mgK B.list then
  getN B.list 1 2 else (0 : Int))) (U.s (bif mgK B.list then readV B.list 3 else ByteArray.mk #[])) (U.l (bif mgK B.list then tgL B.list (pm1 B.list 0) else [])) (U.l (bif mgK B.list then pmS B.list 0 else
  [])) (U.l (bif mgK B.list then pmM B.list 0 else [])) (U.l (bif mgK B.list then pmQ B.list 0 else [])) then k Ex.ret (St.mk [(2, SV.val Ct.bool (U.b true))] []) else k Ex.ret (St.mk [(2, SV.val Ct.bool
  (U.b false))] []) else k Ex.ret (St.mk [(2, SV.val Ct.bool (U.b false))] []) else k Ex.ret (St.mk [(2, SV.val Ct.bool (U.b false))] [])) := by kernel_rfl
end Go.Mat

namespace Go.Mat
open Go Go.Den Go.Proofs
def regId : Code → Nat
  | .region i _ _ => i
  | _ => 0
def regOps : Code → Array Oper
  | .region _ o _ => o
  | _ => #[]
theorem fd29_3 : ∃ fd, fieldOf PR 29 3 = some fd ∧ fd.offset = 3 ∧ sizeT PR fd.type = some 1 := ⟨(fieldOf PR 29 3).getD default, by kernel_rfl, by kernel_rfl, by kernel_rfl⟩
theorem fd24_0 : ∃ fd, fieldOf PR 24 0 = some fd ∧ fd.offset = 0 ∧ sizeT PR fd.type = some 1 := ⟨(fieldOf PR 24 0).getD default, by kernel_rfl, by kernel_rfl, by kernel_rfl⟩
theorem fd29_6 : ∃ fd, fieldOf PR 29 6 = some fd ∧ fd.offset = 6 ∧ sizeT PR fd.type = some 1 := ⟨(fieldOf PR 29 6).getD default, by kernel_rfl, by kernel_rfl, by kernel_rfl⟩
theorem fd54_0 : ∃ fd, fieldOf PR 54 0 = some fd ∧ fd.offset = 0 ∧ sizeT PR fd.type = some 1 := ⟨(fieldOf PR 54 0).getD default, by kernel_rfl, by kernel_rfl, by kernel_rfl⟩
theorem u22 : PR.underlying 22 = some (.slice 51) := by kernel_rfl
theorem u51 : PR.underlying 51 = some (.slice 54) := by kernel_rfl
theorem u27 : PR.underlying 27 = some (.slice 3) := by kernel_rfl
theorem s51 : sizeT PR 51 = some 1 := by kernel_rfl
theorem s54 : sizeT PR 54 = some 5 := by kernel_rfl
theorem s3 : sizeT PR 3 = some 1 := by kernel_rfl
theorem ev_const {a : Act} {v : Value} : a.eval (.const v) = v := rfl
theorem put_none {a : Act} {v : Value} : a.put none v = a := rfl
structure Kept (v1 v3 v7 : Value) (b : Nat) (a : Act) : Prop where
  size : a.tmps.size = 102
  calm : a.defers = []
  e1 : a.eval (.tmp 1) = v1
  e3 : a.eval (.tmp 3) = v3
  e5 : a.eval (.tmp 5) = .pointer (some ⟨b, 0, none⟩)
  e7 : a.eval (.tmp 7) = v7
theorem Kept.put {v1 v3 v7 : Value} {b : Nat} {a : Act} (K : Kept v1 v3 v7 b a) {d : Nat} {v : Value} (hd : d < 102) (h1 : d ≠ 1) (h3 : d ≠ 3) (h5 : d ≠ 5) (h7 : d ≠ 7) : Kept v1 v3 v7 b (a.put (some d) v) := by
  have hs : d < a.tmps.size := by rw [K.size]; exact hd
  exact ⟨by rw [size_put]; exact K.size, by rw [defers_put]; exact K.calm, by rw [ev_put hs, if_neg h1]; exact K.e1, by rw [ev_put hs, if_neg h3]; exact K.e3, by rw [ev_put hs, if_neg h5]; exact K.e5, by rw [ev_put hs, if_neg h7]; exact K.e7⟩
theorem wrap1 {i n : Nat} (h : i < n) (hn : n ≤ maxLen) : IntKind.i64.wrap ((i : Int) + 1) = ((i + 1 : Nat) : Int) := by
  rw [i64_in (by omega) (by unfold maxLen at hn; omega)]
  rfl
theorem back_r6_is : RegIs (piece backB [1, 1, 1, 1, 1, 0, 0]) [(some 8, .assign (.const (.int .i64 0)))] := ⟨regId (piece backB [1, 1, 1, 1, 1, 0, 0]), regOps (piece backB [1, 1, 1, 1, 1, 0, 0]), by kernel_rfl, by kernel_rfl, by kernel_rfl⟩
theorem back_r6 {v1 v3 v7 : Value} {b : Nat} {a : Act} {w : World} {Q : Exit → Act → World → Prop} (K : Kept v1 v3 v7 b a)  (hQ : ∀ a', Kept v1 v3 v7 b a' → a'.eval (.tmp 8) = .int .i64 ((0 : Nat) : Int) → Q .normal a' w) : ((piece backB [1, 1, 1, 1, 1, 0, 0])).wp PR Q a w := by
  refine wp_regIs back_r6_is ?_
  simp only [wpL]
  intro o hd ho
  refine op_assign ho ?_
  rw [hd]
  clear hd ho o
  exact hQ _ (by (repeat refine Kept.put ?_ (by decide) (by decide) (by decide) (by decide) (by decide)); exact K) (by simp [ev_put, ev_const, size_put, K.size, K.e5])
theorem back_r9_is : RegIs (piece backB [1, 1, 1, 1, 1, 0, 1, 0, 0, 1, 0, 0, 0]) [(some 9, .assign (.const (.int .i64 0)))] := ⟨regId (piece backB [1, 1, 1, 1, 1, 0, 1, 0, 0, 1, 0, 0, 0]), regOps (piece backB [1, 1, 1, 1, 1, 0, 1, 0, 0, 1, 0, 0, 0]), by kernel_rfl, by kernel_rfl, by kernel_rfl⟩
theorem back_r9 {v1 v3 v7 : Value} {b : Nat} {a : Act} {w : World} {Q : Exit → Act → World → Prop} (K : Kept v1 v3 v7 b a) {i : Nat} (h8 : a.eval (.tmp 8) = .int .i64 (i : Int)) (hQ : ∀ a', Kept v1 v3 v7 b a' → a'.eval (.tmp 8) = .int .i64 ((i : Nat) : Int) → a'.eval (.tmp 9) = .int .i64 ((0 : Nat) : Int) → Q .normal a' w) : ((piece backB [1, 1, 1, 1, 1, 0, 1, 0, 0, 1, 0, 0, 0])).wp PR Q a w := by
  refine wp_regIs back_r9_is ?_
  simp only [wpL]
  intro o hd ho
  refine op_assign ho ?_
  rw [hd]
  clear hd ho o
  exact hQ _ (by (repeat refine Kept.put ?_ (by decide) (by decide) (by decide) (by decide) (by decide)); exact K) (by simp [ev_put, ev_const, size_put, K.size, K.e5, h8]) (by simp [ev_put, ev_const, size_put, K.size, K.e5, h8])
theorem back_r13_is : RegIs (piece backB [1, 1, 1, 1, 1, 1, 0, 0]) [(some 10, .assign (.const (.int .i64 0)))] := ⟨regId (piece backB [1, 1, 1, 1, 1, 1, 0, 0]), regOps (piece backB [1, 1, 1, 1, 1, 1, 0, 0]), by kernel_rfl, by kernel_rfl, by kernel_rfl⟩
theorem back_r13 {v1 v3 v7 : Value} {b : Nat} {a : Act} {w : World} {Q : Exit → Act → World → Prop} (K : Kept v1 v3 v7 b a)  (hQ : ∀ a', Kept v1 v3 v7 b a' → a'.eval (.tmp 10) = .int .i64 ((0 : Nat) : Int) → Q .normal a' w) : ((piece backB [1, 1, 1, 1, 1, 1, 0, 0])).wp PR Q a w := by
  refine wp_regIs back_r13_is ?_
  simp only [wpL]
  intro o hd ho
  refine op_assign ho ?_
  rw [hd]
  clear hd ho o
  exact hQ _ (by (repeat refine Kept.put ?_ (by decide) (by decide) (by decide) (by decide) (by decide)); exact K) (by simp [ev_put, ev_const, size_put, K.size, K.e5])
theorem back_r7_is : RegIs (piece backB [1, 1, 1, 1, 1, 0, 1, 0, 0, 0, 0]) [(some 44, .move (.tmp 8)), (some 45, .fieldAddr 29 (.tmp 5) 3), (some 46, .fieldAddr 24 (.tmp 45) 0), (some 47, .load 22 (.tmp 46)), (some 48, .call { callee := .builtin .len, args := #[.tmp 47], argTypes := #[22] }), (some 49, .binOp .lss 3 (.tmp 44) (.tmp 48) 3)] := ⟨regId (piece backB [1, 1, 1, 1, 1, 0, 1, 0, 0, 0, 0]), regOps (piece backB [1, 1, 1, 1, 1, 0, 1, 0, 0, 0, 0]), by kernel_rfl, by kernel_rfl, by kernel_rfl⟩
theorem back_r7 {v1 v3 v7 : Value} {b : Nat} {a : Act} {w : World} {Q : Exit → Act → World → Prop} (K : Kept v1 v3 v7 b a) {i n c : Nat} {A : Option Addr} (hr : w.cell? ⟨b, 3, none⟩ = some (.slice A n c)) (h8 : a.eval (.tmp 8) = .int .i64 (i : Int)) (hQ : ∀ a', Kept v1 v3 v7 b a' → a'.eval (.tmp 8) = .int .i64 ((i : Nat) : Int) → a'.eval (.tmp 49) = .bool (decide (i < n)) → Q .normal a' w) : ((piece backB [1, 1, 1, 1, 1, 0, 1, 0, 0, 0, 0])).wp PR Q a w := by
  obtain ⟨f1, f1f, f1o, f1s⟩ := fd29_3
  obtain ⟨f2, f2f, f2o, f2s⟩ := fd24_0
  refine wp_regIs back_r7_is ?_
  simp only [wpL]
  intro o hd ho
  refine op_move ho ?_
  rw [hd]
  clear hd ho o
  intro o hd ho
  refine op_fieldAddr (k := 0) (b := b) (off := 0) ho f1f f1s (by simp [ev_put, ev_const, size_put, K.size, K.e5, f1o, f2o, h8]) ?_
  rw [hd]
  clear hd ho o
  intro o hd ho
  refine op_fieldAddr (k := 0) (b := b) (off := 3) ho f2f f2s (by simp [ev_put, ev_const, size_put, K.size, K.e5, f1o, f2o, h8]) ?_
  rw [hd]
  clear hd ho o
  intro o hd ho
  refine op_load (p := ⟨b, 3, none⟩) ho (by simp [ev_put, ev_const, size_put, K.size, K.e5, f1o, f2o, h8]) (run_loadVar_one u22 rfl hr) ?_
  rw [hd]
  clear hd ho o
  intro o hd ho
  refine op_len_slice (A := A) (l := n) (c := c) ho rfl rfl u22 (by simp [ev_put, ev_const, size_put, K.size, K.e5, f1o, f2o, h8]) ?_
  rw [hd]
  clear hd ho o
  intro o hd ho
  refine bin_int (C := backC) (i := .i64) (j := .i64) (m := (i : Nat)) (n := (n : Nat)) (v := .bool (decide ((i : Int) < (n : Int)))) ho (by simp [ev_put, ev_const, size_put, K.size, K.e5, f1o, f2o, h8]) (by simp [ev_put, ev_const, size_put, K.size, K.e5, f1o, f2o, h8]) (by simp [binOp, Op.intCmp]) ?_
  rw [hd]
  clear hd ho o
  exact hQ _ (by (repeat refine Kept.put ?_ (by decide) (by decide) (by decide) (by decide) (by decide)); exact K) (by simp [ev_put, ev_const, size_put, K.size, K.e5, f1o, f2o, h8]) (by simp [ev_put, ev_const, size_put, K.size, K.e5, f1o, f2o, h8])
theorem back_r10_is : RegIs (piece backB [1, 1, 1, 1, 1, 0, 1, 0, 0, 1, 0, 0, 1, 0, 0, 0, 0]) [(some 52, .move (.tmp 9)), (some 53, .fieldAddr 29 (.tmp 5) 3), (some 54, .fieldAddr 24 (.tmp 53) 0), (some 55, .load 22 (.tmp 54)), (some 56, .move (.tmp 8)), (some 57, .indexAddr 22 (.tmp 55) (.tmp 56)), (some 58, .load 51 (.tmp 57)), (some 59, .call { callee := .builtin .len, args := #[.tmp 58], argTypes := #[51] }), (some 60, .binOp .lss 3 (.tmp 52) (.tmp 59) 3)] := ⟨regId (piece backB [1, 1, 1, 1, 1, 0, 1, 0, 0, 1, 0, 0, 1, 0, 0, 0, 0]), regOps (piece backB [1, 1, 1, 1, 1, 0, 1, 0, 0, 1, 0, 0, 1, 0, 0, 0, 0]), by kernel_rfl, by kernel_rfl, by kernel_rfl⟩
theorem back_r10 {v1 v3 v7 : Value} {b : Nat} {a : Act} {w : World} {Q : Exit → Act → World → Prop} (K : Kept v1 v3 v7 b a) {i j n c m c2 b1 o1 : Nat} {A2 : Option Addr} (hr : w.cell? ⟨b, 3, none⟩ = some (.slice (some ⟨b1, o1, none⟩) n c)) (hu : w.cell? ⟨b1, o1 + i, none⟩ = some (.slice A2 m c2)) (hi : i < n) (h8 : a.eval (.tmp 8) = .int .i64 (i : Int)) (h9 : a.eval (.tmp 9) = .int .i64 (j : Int)) (hQ : ∀ a', Kept v1 v3 v7 b a' → a'.eval (.tmp 8) = .int .i64 ((i : Nat) : Int) → a'.eval (.tmp 9) = .int .i64 ((j : Nat) : Int) → a'.eval (.tmp 60) = .bool (decide (j < m)) → Q .normal a' w) : ((piece backB [1, 1, 1, 1, 1, 0, 1, 0, 0, 1, 0, 0, 1, 0, 0, 0, 0])).wp PR Q a w := by
  obtain ⟨f1, f1f, f1o, f1s⟩ := fd29_3
  obtain ⟨f2, f2f, f2o, f2s⟩ := fd24_0
  refine wp_regIs back_r10_is ?_
  simp only [wpL]
  intro o hd ho
  refine op_move ho ?_
  rw [hd]
  clear hd ho o
  intro o hd ho
  refine op_fieldAddr (k := 0) (b := b) (off := 0) ho f1f f1s (by simp [ev_put, ev_const, size_put, K.size, K.e5, f1o, f2o, h8, h9]) ?_
  rw [hd]
  clear hd ho o
  intro o hd ho
  refine op_fieldAddr (k := 0) (b := b) (off := 3) ho f2f f2s (by simp [ev_put, ev_const, size_put, K.size, K.e5, f1o, f2o, h8, h9]) ?_
  rw [hd]
  clear hd ho o
  intro o hd ho
  refine op_load (p := ⟨b, 3, none⟩) ho (by simp [ev_put, ev_const, size_put, K.size, K.e5, f1o, f2o, h8, h9]) (run_loadVar_one u22 rfl hr) ?_
  rw [hd]
  clear hd ho o
  intro o hd ho
  refine op_move ho ?_
  rw [hd]
  clear hd ho o
  intro o hd ho
  refine op_indexAddr (kd := .i64) (b := b1) (len := n) (off := o1) (c := c) (j := i) ho u22 s51 (by simp [ev_put, ev_const, size_put, K.size, K.e5, f1o, f2o, h8, h9]) (by simp [ev_put, ev_const, size_put, K.size, K.e5, f1o, f2o, h8, h9]) (by omega) (by exact_mod_cast hi) ?_
  rw [hd]
  clear hd ho o
  intro o hd ho
  refine op_load (p := ⟨b1, o1 + i, none⟩) ho (by simp [ev_put, ev_const, size_put, K.size, K.e5, f1o, f2o, h8, h9]) (run_loadVar_one u51 rfl hu) ?_
  rw [hd]
  clear hd ho o
  intro o hd ho
  refine op_len_slice (A := A2) (l := m) (c := c2) ho rfl rfl u51 (by simp [ev_put, ev_const, size_put, K.size, K.e5, f1o, f2o, h8, h9]) ?_
  rw [hd]
  clear hd ho o
  intro o hd ho
  refine bin_int (C := backC) (i := .i64) (j := .i64) (m := (j : Nat)) (n := (m : Nat)) (v := .bool (decide ((j : Int) < (m : Int)))) ho (by simp [ev_put, ev_const, size_put, K.size, K.e5, f1o, f2o, h8, h9]) (by simp [ev_put, ev_const, size_put, K.size, K.e5, f1o, f2o, h8, h9]) (by simp [binOp, Op.intCmp]) ?_
  rw [hd]
  clear hd ho o
  exact hQ _ (by (repeat refine Kept.put ?_ (by decide) (by decide) (by decide) (by decide) (by decide)); exact K) (by simp [ev_put, ev_const, size_put, K.size, K.e5, f1o, f2o, h8, h9]) (by simp [ev_put, ev_const, size_put, K.size, K.e5, f1o, f2o, h8, h9]) (by simp [ev_put, ev_const, size_put, K.size, K.e5, f1o, f2o, h8, h9])
theorem back_r12_is : RegIs (piece backB [1, 1, 1, 1, 1, 0, 1, 0, 0, 1, 0, 0, 1, 0, 0, 1, 0, 0]) [(some 63, .fieldAddr 29 (.tmp 5) 3), (some 64, .fieldAddr 24 (.tmp 63) 0), (some 65, .load 22 (.tmp 64)), (some 66, .move (.tmp 8)), (some 67, .indexAddr 22 (.tmp 65) (.tmp 66)), (some 68, .load 51 (.tmp 67)), (some 69, .move (.tmp 9)), (some 70, .indexAddr 51 (.tmp 68) (.tmp 69)), (some 71, .fieldAddr 54 (.tmp 70) 0), (none, .store 3 (.tmp 71) (.const (.int .i64 (9))))] := ⟨regId (piece backB [1, 1, 1, 1, 1, 0, 1, 0, 0, 1, 0, 0, 1, 0, 0, 1, 0, 0]), regOps (piece backB [1, 1, 1, 1, 1, 0, 1, 0, 0, 1, 0, 0, 1, 0, 0, 1, 0, 0]), by kernel_rfl, by kernel_rfl, by kernel_rfl⟩
theorem back_r12 {v1 v3 v7 : Value} {b : Nat} {a : Act} {w : World} {Q : Exit → Act → World → Prop} (K : Kept v1 v3 v7 b a) {i j n c m c2 b1 o1 b2 o2 : Nat} {w' : World} (hr : w.cell? ⟨b, 3, none⟩ = some (.slice (some ⟨b1, o1, none⟩) n c)) (hu : w.cell? ⟨b1, o1 + i, none⟩ = some (.slice (some ⟨b2, o2, none⟩) m c2)) (hi : i < n) (hj : j < m) (hw : (storeVar 3 ⟨b2, o2 + j * 5, none⟩ (.int .i64 9)).run PR w = .ok () w') (h8 : a.eval (.tmp 8) = .int .i64 (i : Int)) (h9 : a.eval (.tmp 9) = .int .i64 (j : Int)) (hQ : ∀ a', Kept v1 v3 v7 b a' → a'.eval (.tmp 8) = .int .i64 ((i : Nat) : Int) → a'.eval (.tmp 9) = .int .i64 ((j : Nat) : Int) → Q .normal a' w') : ((piece backB [1, 1, 1, 1, 1, 0, 1, 0, 0, 1, 0, 0, 1, 0, 0, 1, 0, 0])).wp PR Q a w := by
  obtain ⟨f1, f1f, f1o, f1s⟩ := fd29_3
  obtain ⟨f2, f2f, f2o, f2s⟩ := fd24_0
  obtain ⟨f3, f3f, f3o, f3s⟩ := fd54_0
  refine wp_regIs back_r12_is ?_
  simp only [wpL]
  intro o hd ho
  refine op_fieldAddr (k := 0) (b := b) (off := 0) ho f1f f1s (by simp [ev_put, ev_const, size_put, K.size, K.e5, f1o, f2o, f3o, h8, h9]) ?_
  rw [hd]
  clear hd ho o
  intro o hd ho
  refine op_fieldAddr (k := 0) (b := b) (off := 3) ho f2f f2s (by simp [ev_put, ev_const, size_put, K.size, K.e5, f1o, f2o, f3o, h8, h9]) ?_
  rw [hd]
  clear hd ho o
  intro o hd ho
  refine op_load (p := ⟨b, 3, none⟩) ho (by simp [ev_put, ev_const, size_put, K.size, K.e5, f1o, f2o, f3o, h8, h9]) (run_loadVar_one u22 rfl hr) ?_
  rw [hd]
  clear hd ho o
  intro o hd ho
  refine op_move ho ?_
  rw [hd]
  clear hd ho o
  intro o hd ho
  refine op_indexAddr (kd := .i64) (b := b1) (len := n) (off := o1) (c := c) (j := i) ho u22 s51 (by simp [ev_put, ev_const, size_put, K.size, K.e5, f1o, f2o, f3o, h8, h9]) (by simp [ev_put, ev_const, size_put, K.size, K.e5, f1o, f2o, f3o, h8, h9]) (by omega) (by exact_mod_cast hi) ?_
  rw [hd]
  clear hd ho o
  intro o hd ho
  refine op_load (p := ⟨b1, o1 + i, none⟩) ho (by simp [ev_put, ev_const, size_put, K.size, K.e5, f1o, f2o, f3o, h8, h9]) (run_loadVar_one u51 rfl hu) ?_
  rw [hd]
  clear hd ho o
  intro o hd ho
  refine op_move ho ?_
  rw [hd]
  clear hd ho o
  intro o hd ho
  refine op_indexAddr (kd := .i64) (b := b2) (len := m) (off := o2) (c := c2) (j := j) ho u51 s54 (by simp [ev_put, ev_const, size_put, K.size, K.e5, f1o, f2o, f3o, h8, h9]) (by simp [ev_put, ev_const, size_put, K.size, K.e5, f1o, f2o, f3o, h8, h9]) (by omega) (by exact_mod_cast hj) ?_
  rw [hd]
  clear hd ho o
  intro o hd ho
  refine op_fieldAddr (k := 0) (b := b2) (off := o2 + j * 5) ho f3f f3s (by simp [ev_put, ev_const, size_put, K.size, K.e5, f1o, f2o, f3o, h8, h9]) ?_
  rw [hd]
  clear hd ho o
  intro o hd ho
  refine op_store (C := backC) (p := ⟨b2, o2 + j * 5, none⟩) (w' := w') ho (by simp [ev_put, ev_const, size_put, K.size, K.e5, f1o, f2o, f3o, h8, h9]) hw ?_
  rw [hd, put_none]
  clear hd ho o
  exact hQ _ (by (repeat refine Kept.put ?_ (by decide) (by decide) (by decide) (by decide) (by decide)); exact K) (by simp [ev_put, ev_const, size_put, K.size, K.e5, f1o, f2o, f3o, h8, h9]) (by simp [ev_put, ev_const, size_put, K.size, K.e5, f1o, f2o, f3o, h8, h9])
theorem back_r11_is : RegIs (piece backB [1, 1, 1, 1, 1, 0, 1, 0, 0, 1, 0, 0, 1, 0, 0, 1, 1]) [(some 61, .move (.tmp 9)), (some 62, .binOp .add 3 (.tmp 61) (.const (.int .i64 1)) 3), (some 9, .assign (.tmp 62))] := ⟨regId (piece backB [1, 1, 1, 1, 1, 0, 1, 0, 0, 1, 0, 0, 1, 0, 0, 1, 1]), regOps (piece backB [1, 1, 1, 1, 1, 0, 1, 0, 0, 1, 0, 0, 1, 0, 0, 1, 1]), by kernel_rfl, by kernel_rfl, by kernel_rfl⟩
theorem back_r11 {v1 v3 v7 : Value} {b : Nat} {a : Act} {w : World} {Q : Exit → Act → World → Prop} (K : Kept v1 v3 v7 b a) {i j m : Nat} (hj : j < m) (hm : m ≤ maxLen) (h8 : a.eval (.tmp 8) = .int .i64 (i : Int)) (h9 : a.eval (.tmp 9) = .int .i64 (j : Int)) (hQ : ∀ a', Kept v1 v3 v7 b a' → a'.eval (.tmp 8) = .int .i64 ((i : Nat) : Int) → a'.eval (.tmp 9) = .int .i64 ((j + 1 : Nat) : Int) → Q .normal a' w) : ((piece backB [1, 1, 1, 1, 1, 0, 1, 0, 0, 1, 0, 0, 1, 0, 0, 1, 1])).wp PR Q a w := by
  have hw := wrap1 hj hm
  refine wp_regIs back_r11_is ?_
  simp only [wpL]
  intro o hd ho
  refine op_move ho ?_
  rw [hd]
  clear hd ho o
  intro o hd ho
  refine bin_int (C := backC) (i := .i64) (j := .i64) (m := (j : Nat)) (n := 1) (v := .int .i64 (IntKind.i64.wrap ((j : Int) + 1))) ho (by simp [ev_put, ev_const, size_put, K.size, K.e5, h8, h9]) rfl (by simp [binOp, Op.intArith]) ?_
  rw [hd]
  clear hd ho o
  intro o hd ho
  refine op_assign ho ?_
  rw [hd]
  clear hd ho o
  exact hQ _ (by (repeat refine Kept.put ?_ (by decide) (by decide) (by decide) (by decide) (by decide)); exact K) (by simp [ev_put, ev_const, size_put, K.size, K.e5, h8, h9]) (by rw [← hw]; simp [ev_put, ev_const, size_put, K.size, K.e5, h8, h9])
theorem back_r8_is : RegIs (piece backB [1, 1, 1, 1, 1, 0, 1, 0, 0, 1, 1]) [(some 50, .move (.tmp 8)), (some 51, .binOp .add 3 (.tmp 50) (.const (.int .i64 1)) 3), (some 8, .assign (.tmp 51))] := ⟨regId (piece backB [1, 1, 1, 1, 1, 0, 1, 0, 0, 1, 1]), regOps (piece backB [1, 1, 1, 1, 1, 0, 1, 0, 0, 1, 1]), by kernel_rfl, by kernel_rfl, by kernel_rfl⟩
theorem back_r8 {v1 v3 v7 : Value} {b : Nat} {a : Act} {w : World} {Q : Exit → Act → World → Prop} (K : Kept v1 v3 v7 b a) {i n : Nat} (hj : i < n) (hm : n ≤ maxLen) (h8 : a.eval (.tmp 8) = .int .i64 (i : Int)) (hQ : ∀ a', Kept v1 v3 v7 b a' → a'.eval (.tmp 8) = .int .i64 ((i + 1 : Nat) : Int) → Q .normal a' w) : ((piece backB [1, 1, 1, 1, 1, 0, 1, 0, 0, 1, 1])).wp PR Q a w := by
  have hw := wrap1 hj hm
  refine wp_regIs back_r8_is ?_
  simp only [wpL]
  intro o hd ho
  refine op_move ho ?_
  rw [hd]
  clear hd ho o
  intro o hd ho
  refine bin_int (C := backC) (i := .i64) (j := .i64) (m := (i : Nat)) (n := 1) (v := .int .i64 (IntKind.i64.wrap ((i : Int) + 1))) ho (by simp [ev_put, ev_const, size_put, K.size, K.e5, h8]) rfl (by simp [binOp, Op.intArith]) ?_
  rw [hd]
  clear hd ho o
  intro o hd ho
  refine op_assign ho ?_
  rw [hd]
  clear hd ho o
  exact hQ _ (by (repeat refine Kept.put ?_ (by decide) (by decide) (by decide) (by decide) (by decide)); exact K) (by rw [← hw]; simp [ev_put, ev_const, size_put, K.size, K.e5, h8])
theorem back_r14_is : RegIs (piece backB [1, 1, 1, 1, 1, 1, 0, 1, 0, 0, 0, 0]) [(some 72, .move (.tmp 10)), (some 73, .fieldAddr 29 (.tmp 5) 6), (some 74, .load 27 (.tmp 73)), (some 75, .call { callee := .builtin .len, args := #[.tmp 74], argTypes := #[27] }), (some 76, .binOp .lss 3 (.tmp 72) (.tmp 75) 3)] := ⟨regId (piece backB [1, 1, 1, 1, 1, 1, 0, 1, 0, 0, 0, 0]), regOps (piece backB [1, 1, 1, 1, 1, 1, 0, 1, 0, 0, 0, 0]), by kernel_rfl, by kernel_rfl, by kernel_rfl⟩
theorem back_r14 {v1 v3 v7 : Value} {b : Nat} {a : Act} {w : World} {Q : Exit → Act → World → Prop} (K : Kept v1 v3 v7 b a) {i n c : Nat} {A : Option Addr} (hr : w.cell? ⟨b, 6, none⟩ = some (.slice A n c)) (h10 : a.eval (.tmp 10) = .int .i64 (i : Int)) (hQ : ∀ a', Kept v1 v3 v7 b a' → a'.eval (.tmp 10) = .int .i64 ((i : Nat) : Int) → a'.eval (.tmp 76) = .bool (decide (i < n)) → Q .normal a' w) : ((piece backB [1, 1, 1, 1, 1, 1, 0, 1, 0, 0, 0, 0])).wp PR Q a w := by
  obtain ⟨f1, f1f, f1o, f1s⟩ := fd29_6
  refine wp_regIs back_r14_is ?_
  simp only [wpL]
  intro o hd ho
  refine op_move ho ?_
  rw [hd]
  clear hd ho o
  intro o hd ho
  refine op_fieldAddr (k := 0) (b := b) (off := 0) ho f1f f1s (by simp [ev_put, ev_const, size_put, K.size, K.e5, f1o, h10]) ?_
  rw [hd]
  clear hd ho o
  intro o hd ho
  refine op_load (p := ⟨b, 6, none⟩) ho (by simp [ev_put, ev_const, size_put, K.size, K.e5, f1o, h10]) (run_loadVar_one u27 rfl hr) ?_
  rw [hd]
  clear hd ho o
  intro o hd ho
  refine op_len_slice (A := A) (l := n) (c := c) ho rfl rfl u27 (by simp [ev_put, ev_const, size_put, K.size, K.e5, f1o, h10]) ?_
  rw [hd]
  clear hd ho o
  intro o hd ho
  refine bin_int (C := backC) (i := .i64) (j := .i64) (m := (i : Nat)) (n := (n : Nat)) (v := .bool (decide ((i : Int) < (n : Int)))) ho (by simp [ev_put, ev_const, size_put, K.size, K.e5, f1o, h10]) (by simp [ev_put, ev_const, size_put, K.size, K.e5, f1o, h10]) (by simp [binOp, Op.intCmp]) ?_
  rw [hd]
  clear hd ho o
  exact hQ _ (by (repeat refine Kept.put ?_ (by decide) (by decide) (by decide) (by decide) (by decide)); exact K) (by simp [ev_put, ev_const, size_put, K.size, K.e5, f1o, h10]) (by simp [ev_put, ev_const, size_put, K.size, K.e5, f1o, h10])
theorem back_r16_is : RegIs (piece backB [1, 1, 1, 1, 1, 1, 0, 1, 0, 0, 1, 0, 0]) [(some 79, .fieldAddr 29 (.tmp 5) 6), (some 80, .load 27 (.tmp 79)), (some 81, .move (.tmp 10)), (some 82, .indexAddr 27 (.tmp 80) (.tmp 81)), (none, .store 3 (.tmp 82) (.const (.int .i64 (-1))))] := ⟨regId (piece backB [1, 1, 1, 1, 1, 1, 0, 1, 0, 0, 1, 0, 0]), regOps (piece backB [1, 1, 1, 1, 1, 1, 0, 1, 0, 0, 1, 0, 0]), by kernel_rfl, by kernel_rfl, by kernel_rfl⟩
theorem back_r16 {v1 v3 v7 : Value} {b : Nat} {a : Act} {w : World} {Q : Exit → Act → World → Prop} (K : Kept v1 v3 v7 b a) {i n c b1 o1 : Nat} {w' : World} (hr : w.cell? ⟨b, 6, none⟩ = some (.slice (some ⟨b1, o1, none⟩) n c)) (hi : i < n) (hw : (storeVar 3 ⟨b1, o1 + i * 1, none⟩ (.int .i64 (-1))).run PR w = .ok () w') (h10 : a.eval (.tmp 10) = .int .i64 (i : Int)) (hQ : ∀ a', Kept v1 v3 v7 b a' → a'.eval (.tmp 10) = .int .i64 ((i : Nat) : Int) → Q .normal a' w') : ((piece backB [1, 1, 1, 1, 1, 1, 0, 1, 0, 0, 1, 0, 0])).wp PR Q a w := by
  obtain ⟨f1, f1f, f1o, f1s⟩ := fd29_6
  refine wp_regIs back_r16_is ?_
  simp only [wpL]
  intro o hd ho
  refine op_fieldAddr (k := 0) (b := b) (off := 0) ho f1f f1s (by simp [ev_put, ev_const, size_put, K.size, K.e5, f1o, h10]) ?_
  rw [hd]
  clear hd ho o
  intro o hd ho
  refine op_load (p := ⟨b, 6, none⟩) ho (by simp [ev_put, ev_const, size_put, K.size, K.e5, f1o, h10]) (run_loadVar_one u27 rfl hr) ?_
  rw [hd]
  clear hd ho o
  intro o hd ho
  refine op_move ho ?_
  rw [hd]
  clear hd ho o
  intro o hd ho
  refine op_indexAddr (kd := .i64) (b := b1) (len := n) (off := o1) (c := c) (j := i) ho u27 s3 (by simp [ev_put, ev_const, size_put, K.size, K.e5, f1o, h10]) (by simp [ev_put, ev_const, size_put, K.size, K.e5, f1o, h10]) (by omega) (by exact_mod_cast hi) ?_
  rw [hd]
  clear hd ho o
  intro o hd ho
  refine op_store (C := backC) (p := ⟨b1, o1 + i * 1, none⟩) (w' := w') ho (by simp [ev_put, ev_const, size_put, K.size, K.e5, f1o, h10]) hw ?_
  rw [hd, put_none]
  clear hd ho o
  exact hQ _ (by (repeat refine Kept.put ?_ (by decide) (by decide) (by decide) (by decide) (by decide)); exact K) (by simp [ev_put, ev_const, size_put, K.size, K.e5, f1o, h10])
theorem back_r15_is : RegIs (piece backB [1, 1, 1, 1, 1, 1, 0, 1, 0, 0, 1, 1]) [(some 77, .move (.tmp 10)), (some 78, .binOp .add 3 (.tmp 77) (.const (.int .i64 1)) 3), (some 10, .assign (.tmp 78))] := ⟨regId (piece backB [1, 1, 1, 1, 1, 1, 0, 1, 0, 0, 1, 1]), regOps (piece backB [1, 1, 1, 1, 1, 1, 0, 1, 0, 0, 1, 1]), by kernel_rfl, by kernel_rfl, by kernel_rfl⟩
theorem back_r15 {v1 v3 v7 : Value} {b : Nat} {a : Act} {w : World} {Q : Exit → Act → World → Prop} (K : Kept v1 v3 v7 b a) {i n : Nat} (hj : i < n) (hm : n ≤ maxLen) (h10 : a.eval (.tmp 10) = .int .i64 (i : Int)) (hQ : ∀ a', Kept v1 v3 v7 b a' → a'.eval (.tmp 10) = .int .i64 ((i + 1 : Nat) : Int) → Q .normal a' w) : ((piece backB [1, 1, 1, 1, 1, 1, 0, 1, 0, 0, 1, 1])).wp PR Q a w := by
  have hw := wrap1 hj hm
  refine wp_regIs back_r15_is ?_
  simp only [wpL]
  intro o hd ho
  refine op_move ho ?_
  rw [hd]
  clear hd ho o
  intro o hd ho
  refine bin_int (C := backC) (i := .i64) (j := .i64) (m := (i : Nat)) (n := 1) (v := .int .i64 (IntKind.i64.wrap ((i : Int) + 1))) ho (by simp [ev_put, ev_const, size_put, K.size, K.e5, h10]) rfl (by simp [binOp, Op.intArith]) ?_
  rw [hd]
  clear hd ho o
  intro o hd ho
  refine op_assign ho ?_
  rw [hd]
  clear hd ho o
  exact hQ _ (by (repeat refine Kept.put ?_ (by decide) (by decide) (by decide) (by decide) (by decide)); exact K) (by rw [← hw]; simp [ev_put, ev_const, size_put, K.size, K.e5, h10])
end Go.Mat

namespace Go.Mat
open Go Go.Den Go.Proofs
theorem l2_code : piece backB [1, 1, 1, 1, 1, 0, 1, 0, 0, 1, 0, 0, 1] = .block 2 (.loop (.seq (.seq (piece backB [1, 1, 1, 1, 1, 0, 1, 0, 0, 1, 0, 0, 1, 0, 0, 0, 0]) (.cond (.tmp 60) .skip (.exit 2)))
    (.seq (.block 3 (piece backB [1, 1, 1, 1, 1, 0, 1, 0, 0, 1, 0, 0, 1, 0, 0, 1, 0, 0])) (piece backB [1, 1, 1, 1, 1, 0, 1, 0, 0, 1, 0, 0, 1, 0, 0, 1, 1])))) := by kernel_rfl
theorem l0_code : piece backB [1, 1, 1, 1, 1, 0] = .seq (piece backB [1, 1, 1, 1, 1, 0, 0]) (.block 0 (.loop (.seq (.seq (piece backB [1, 1, 1, 1, 1, 0, 1, 0, 0, 0, 0]) (.cond (.tmp 49) .skip (.exit 0)))
    (.seq (.block 1 (.seq (piece backB [1, 1, 1, 1, 1, 0, 1, 0, 0, 1, 0, 0, 0]) (piece backB [1, 1, 1, 1, 1, 0, 1, 0, 0, 1, 0, 0, 1]))) (piece backB [1, 1, 1, 1, 1, 0, 1, 0, 0, 1, 1]))))) := by kernel_rfl
theorem l4_code : piece backB [1, 1, 1, 1, 1, 1, 0] = .seq (piece backB [1, 1, 1, 1, 1, 1, 0, 0]) (.block 4 (.loop (.seq (.seq (piece backB [1, 1, 1, 1, 1, 1, 0, 1, 0, 0, 0, 0]) (.cond (.tmp 76) .skip (.exit 4)))
    (.seq (.block 5 (piece backB [1, 1, 1, 1, 1, 1, 0, 1, 0, 0, 1, 0, 0])) (piece backB [1, 1, 1, 1, 1, 1, 0, 1, 0, 0, 1, 1]))))) := by kernel_rfl
section
variable {v1 v3 v7 : Value} {b : Nat} {J : Nat → Prop} {w0 : World}
theorem sl_ne {A : Option Addr} {n c : Nat} : ∀ i, Value.slice A n c ≠ .int .i64 i := fun _ e => by cases e
theorem back_l2 {i n c b1 o1 m c2 : Nat} {A2 : Option Addr} (hr : w0.cell? ⟨b, 3, none⟩ = some (.slice (some ⟨b1, o1, none⟩) n c)) (hu : w0.cell? ⟨b1, o1 + i, none⟩ = some (.slice A2 m c2)) (hi : i < n) (hrow : IntRow w0 J 5 m (.slice A2 m c2))
    {a : Act} {w : World} {Q : Exit → Act → World → Prop} (K : Kept v1 v3 v7 b a) (s : Spoil J w0 w) (h8 : a.eval (.tmp 8) = .int .i64 (i : Int)) (h9 : a.eval (.tmp 9) = .int .i64 ((0 : Nat) : Int))
    (hQ : ∀ a' w', Kept v1 v3 v7 b a' → Spoil J w0 w' → a'.eval (.tmp 8) = .int .i64 (i : Int) → Q .normal a' w') : (piece backB [1, 1, 1, 1, 1, 0, 1, 0, 0, 1, 0, 0, 1]).wp PR Q a w := by
  rw [l2_code]
  have hm : m ≤ maxLen := by obtain ⟨_, _, _, h, _⟩ := hrow; exact h
  refine wp_for (t := 9) (fun j a w => Kept v1 v3 v7 b a ∧ Spoil J w0 w ∧ a.eval (.tmp 8) = .int .i64 (i : Int) ∧ a.eval (.tmp 9) = .int .i64 (j : Int)) m (fun j a w h => h.2.2.2) (Nat.zero_le _) ⟨K, s, h8, h9⟩ ?_ ?_ ?_ ?_
  · rintro j a w _ ⟨K, s, h8, h9⟩
    exact back_r10 K (s.same hr sl_ne) (s.same hu sl_ne) hi h8 h9 fun a' K' g8 g9 g => ⟨rfl, g, K', s, g8, g9⟩
  · rintro j a w hj ⟨K, s, h8, h9⟩
    obtain ⟨A, c', he, _, hel⟩ := hrow.spoil s
    cases he
    obtain ⟨b2, o2, rfl, hJ, hp, x, hx⟩ := hel j hj
    obtain ⟨w', hw, s'⟩ := Spoil.store (P := PR) (t := 3) (j := 9) s3 hJ hp hx
    refine wp_block (back_r12 K (s.same hr sl_ne) (s.same hu sl_ne) hi hj hw h8 h9 fun a' K' g8 g9 => ?_)
    exact ⟨rfl, K', s.trans s', g8, g9⟩
  · rintro j a w hj ⟨K, s, h8, h9⟩
    exact back_r11 K hj hm h8 h9 fun a' K' g8 g9 => ⟨rfl, K', s, g8, g9⟩
  · rintro j a w ⟨K, s, h8, h9⟩
    exact hQ a w K s h8
theorem back_l0 {n : Nat} {v : Value} (hr : w0.cell? ⟨b, 3, none⟩ = some v) (hrows : IntRows w0 J 5 n v)
    {a : Act} {w : World} {Q : Exit → Act → World → Prop} (K : Kept v1 v3 v7 b a) (s : Spoil J w0 w)
    (hQ : ∀ a' w', Kept v1 v3 v7 b a' → Spoil J w0 w' → Q .normal a' w') : (piece backB [1, 1, 1, 1, 1, 0]).wp PR Q a w := by
  rw [l0_code]
  obtain ⟨A, c, rfl, hn, hel⟩ := hrows
  refine wp_seq (back_r6 K fun a1 K1 h8 => ?_)
  refine wp_for (t := 8) (fun i a w => Kept v1 v3 v7 b a ∧ Spoil J w0 w ∧ a.eval (.tmp 8) = .int .i64 (i : Int)) n (fun j a w h => h.2.2) (Nat.zero_le _) ⟨K1, s, h8⟩ ?_ ?_ ?_ ?_
  · rintro i a w _ ⟨K, s, h8⟩
    exact back_r7 K (s.same hr sl_ne) h8 fun a' K' g8 g => ⟨rfl, g, K', s, g8⟩
  · rintro i a w hi ⟨K, s, h8⟩
    obtain ⟨b1, o1, rfl, m, u, hu, A2, c2, rfl, hrow⟩ := hel i hi
    rw [Nat.mul_one] at hu
    refine wp_block (wp_seq (back_r9 K h8 fun a2 K2 g8 g9 => ?_))
    refine back_l2 hr hu hi ⟨A2, c2, rfl, hrow⟩ K2 s g8 g9 fun a3 w3 K3 s3 g => ?_
    exact ⟨rfl, K3, s3, g⟩
  · rintro i a w hi ⟨K, s, h8⟩
    exact back_r8 K hi hn h8 fun a' K' g8 => ⟨rfl, K', s, g8⟩
  · rintro j a w ⟨K, s, h8⟩
    exact hQ a w K s
theorem back_l4 {n : Nat} {v : Value} (hr : w0.cell? ⟨b, 6, none⟩ = some v) (hrow : IntRow w0 J 1 n v)
    {a : Act} {w : World} {Q : Exit → Act → World → Prop} (K : Kept v1 v3 v7 b a) (s : Spoil J w0 w)
    (hQ : ∀ a' w', Kept v1 v3 v7 b a' → Spoil J w0 w' → Q .normal a' w') : (piece backB [1, 1, 1, 1, 1, 1, 0]).wp PR Q a w := by
  rw [l4_code]
  have hrow0 := hrow
  obtain ⟨A, c, rfl, hn, _⟩ := hrow
  refine wp_seq (back_r13 K fun a1 K1 h8 => ?_)
  refine wp_for (t := 10) (fun i a w => Kept v1 v3 v7 b a ∧ Spoil J w0 w ∧ a.eval (.tmp 10) = .int .i64 (i : Int)) n (fun j a w h => h.2.2) (Nat.zero_le _) ⟨K1, s, h8⟩ ?_ ?_ ?_ ?_
  · rintro i a w _ ⟨K, s, h8⟩
    exact back_r14 K (s.same hr sl_ne) h8 fun a' K' g8 g => ⟨rfl, g, K', s, g8⟩
  · rintro i a w hi ⟨K, s, h8⟩
    obtain ⟨A', c', he, _, hel⟩ := hrow0.spoil s
    cases he
    obtain ⟨b2, o2, rfl, hJ, hp, x, hx⟩ := hel i hi
    obtain ⟨w', hw, s'⟩ := Spoil.store (P := PR) (t := 3) (j := -1) s3 hJ hp hx
    refine wp_block (back_r16 K (s.same hr sl_ne) hi hw h8 fun a' K' g8 => ?_)
    exact ⟨rfl, K', s.trans s', g8⟩
  · rintro i a w hi ⟨K, s, h8⟩
    exact back_r15 K hi hn h8 fun a' K' g8 => ⟨rfl, K', s, g8⟩
  · rintro j a w ⟨K, s, h8⟩
    exact hQ a w K s
end
end Go.Mat

namespace Go.Mat
open Go Go.Den Go.Proofs
theorem intsE_comm : ∀ l m : List U, intsE l m = intsE m l
  | [], [] => rfl
  | [], _ :: _ => rfl
  | _ :: _, [] => rfl
  | x :: r, y :: s => by rw [intsE, intsE, intsE_comm r s, BEq.comm]
theorem entsE_comm : ∀ l m : List U, entsE l m = entsE m l
  | [], [] => rfl
  | [], _ :: _ => rfl
  | _ :: _, [] => rfl
  | x :: r, y :: s => by
    rw [entsE, entsE, entsE_comm r s]
    unfold entE
    rw [BEq.comm (a := (e0 x).int), BEq.comm (a := (e1 x).int), BEq.comm (a := (e2 x).int), BEq.comm (a := (e3 x).int), BEq.comm (a := (e4 x).int)]
theorem tabE_comm : ∀ l m : List U, tabE l m = tabE m l
  | [], [] => rfl
  | [], _ :: _ => rfl
  | _ :: _, [] => rfl
  | x :: r, y :: s => by rw [tabE, tabE, tabE_comm r s, entsE_comm]
theorem spansE_comm : ∀ l m : List U, spansE l m = spansE m l
  | [], [] => rfl
  | [], _ :: _ => rfl
  | _ :: _, [] => rfl
  | x :: r, y :: s => by
    rw [spansE, spansE, spansE_comm r s]
    unfold spanE
    rw [BEq.comm (a := (e0 x).int), BEq.comm (a := (e1 x).int)]
theorem mapsE_comm : ∀ l m : List U, mapsE l m = mapsE m l
  | [], [] => rfl
  | [], _ :: _ => rfl
  | _ :: _, [] => rfl
  | x :: r, y :: s => by
    rw [mapsE, mapsE, mapsE_comm r s]
    unfold mapE
    rw [spansE_comm, BEq.comm (a := (e0 x).str.toList), BEq.comm (a := (e1 x).bool)]
theorem shotsE_comm : ∀ l m : List U, shotsE l m = shotsE m l
  | [], [] => rfl
  | [], _ :: _ => rfl
  | _ :: _, [] => rfl
  | x :: r, y :: s => by
    rw [shotsE, shotsE, shotsE_comm r s]
    unfold shotE
    rw [tabE_comm, BEq.comm (a := (e0 x).str.toList), BEq.comm (a := (e1 x).int)]
theorem metaEq_comm (c sz bk T S M Q c' sz' bk' T' S' M' Q' : U) : metaEq c sz bk T S M Q c' sz' bk' T' S' M' Q' = metaEq c' sz' bk' T' S' M' Q' c sz bk T S M Q := by
  unfold metaEq
  rw [tabE_comm, mapsE_comm, intsE_comm, shotsE_comm, BEq.comm (a := c.int), BEq.comm (a := sz.int), BEq.comm (a := bk.str.toList)]
theorem mCells_rep {w : World} {Z : Nat → Prop} {G G' : Nat → Value} {c sz bk T S M Q : U} {l : List Value} (h : RepSVs w Z G (mCells c sz bk T S M Q) l) : RepSVs w Z G' (mCells c sz bk T S M Q) l := by
  obtain ⟨v1, t1, e1, h1, v2, t2, e2, h2, v3, t3, e3, h3, v4, t4, e4, h4, v5, t5, e5, h5, v6, t6, e6, h6, v7, t7, e7, h7, h8⟩ := h
  exact ⟨v1, t1, e1, h1, v2, t2, e2, h2, v3, t3, e3, h3, v4, t4, e4, h4, v5, t5, e5, h5, v6, t6, e6, h6, v7, t7, e7, h7, h8⟩
theorem elems_int {w w' : World} {Z Z' : Nat → Prop} {m : Bool} {k : IntKind} : ∀ {us : List U} {vs : List Value}, RepElems w Z m [.int k] us vs → RepElems w' Z' m [.int k] us vs
  | [], _, h => h
  | _ :: _, _, h => by
    obtain ⟨p, q, hv, ⟨v, t, h1, h2, h3⟩, ht⟩ := h
    exact ⟨p, q, hv, ⟨v, t, h1, h2, h3⟩, elems_int ht⟩
theorem backD_ok : (backC.panics fun _ _ => False).Ok := (mkC_ok eqs0_ok mixed_ok (.consP mget_ok (.cons err_ok (.cons metaG_ok (.cons awake_ok (.cons rmeta_ok (.cons same_ok .nil)))))) (.cons mputT_ok .nil)).panics _
theorem slots_of {w : World} {Z : Nat → Prop} {G : Nat → Value} {a : Act} : ∀ {env : List (Nat × SV)}, (∀ t s, (t, s) ∈ env → RepSV w Z G s (a.tmps.getD t undef)) → ∀ t, RepSV w Z G (get env t) (a.tmps.getD t undef)
  | [], _, t => trivial
  | (k, s) :: r, h, t => by
    rw [get_cons]
    by_cases e : k = t
    · rw [if_pos e, ← e]
      exact h k s (List.mem_cons_self ..)
    · rw [if_neg e]
      exact slots_of (fun t s hs => h t s (List.mem_cons_of_mem _ hs)) t
section
variable {Q : Exit → Act → World → Prop} {c sz bk T S M Q0 : U} {B : List U}
abbrev rdV (f : U → U → U → U → U → U → U → Bool) (B : List U) : Bool := f (.i (bif mgK B then getN B 0 1 else 0)) (.i (bif mgK B then getN B 1 2 else 0)) (.s (bif mgK B then readV B 3 else ⟨#[]⟩)) (.l (bif mgK B then tgL B (pm1 B 0) else [])) (.l (bif mgK B then pmS B 0 else [])) (.l (bif mgK B then pmM B 0 else [])) (.l (bif mgK B then pmQ B 0 else []))
theorem back_end {w : World} {a : Act} {Bm : Nat} {v3 : Value} {cm : Array Value} {ty : TypeId} {G : Nat → Value} {Zr : Nat → Prop} (hsize : a.tmps.size = 102) (calm : a.defers = []) (e1 : a.eval (.tmp 1) = .pointer (some ⟨Bm, 0, none⟩)) (e3 : a.eval (.tmp 3) = v3) (e7 : a.eval (.tmp 7) = .bool true)
    (hZr : ∀ b, Zr b → b < w.heap.size) (hb : RepC w Zr (.sl false [.int .u8]) v3 (.l B)) (hbox : w.heap[Bm]? = some (.cells cm ty (0, 0))) (hm : RepSVs w Zr G (mCells c sz bk T S M Q0) cm.toList) (hBm : ¬ Zr Bm)
    (hK : mgK B = true) (hE : rdV (metaEq c sz bk T S M Q0) B = true) (hlen : B.length ≤ 1099511627776) (hpan : ∀ c a w d v, Q (.panic c) (a.put d v) w → Q (.panic c) a w)
    (hend : ∀ a' w', a'.defers = [] → a'.tmps.getD 2 undef = .bool true → Fut (· = Bm) w w' → Q .ret a' w') : (piece backB [1, 1, 1, 1, 1, 1, 1]).wp PR Q a w := by
  let G7 : Nat → Value := fun i => if i = 129 then .pointer (some ⟨Bm, 0, none⟩) else .pointer none
  have hlt : Bm < w.heap.size := (Array.getElem?_eq_some_iff.1 hbox).1
  have S7 : Sim PR ⟨w, (· = Bm), fun _ => False, Zr, false, false, G7, []⟩ 102 ⟨[(1, .ptr 129 0), (3, vl (.int .u8) (.l B)), (7, vb (.b true))], [(129, .box (mCells c sz bk T S M Q0))]⟩ a w Zr G7 :=
    { size := hsize
      calm := calm
      slot := slots_of fun t s hs => by
        simp only [List.mem_cons, Prod.mk.injEq, List.not_mem_nil, or_false] at hs
        rcases hs with ⟨rfl, rfl⟩ | ⟨rfl, rfl⟩ | ⟨rfl, rfl⟩
        · exact ⟨Bm, rfl, e1⟩
        · rw [← e3] at hb; exact hb
        · exact e7
      obj := fun id o h => by
        rw [getO_cons] at h
        split at h
        · rename_i e
          subst e
          cases h
          exact ⟨Bm, ty, cm, rfl, hbox, mCells_rep hm⟩
        · cases h
      sep := fun id id' o o' b h h' _ _ => by
        rw [getO_cons] at h h'
        split at h
        · split at h'
          · rename_i e e'; exact e.symm.trans e'
          · cases h'
        · cases h
      free := fun id o b h hb' => by
        rw [getO_cons] at h
        split at h
        · rename_i e
          subst e
          cases hb'
          exact ⟨hBm, .inl rfl⟩
        · cases h
      keep := fun _ _ _ _ _ h => h.elim
      nlt := fun _ h => h.elim
      lt := hZr
      fut := Fut.refl _ w
      new := fun b hb => .inl hb
      sub := fun b hb => hb
      flat := fun id => by
        show (if id = 129 then _ else _ : Value).oneCell' = true
        split <;> rfl
      odd := fun _ _ => rfl
      row := fun _ hb => .inl hb }
  have hx : Holds (exec (backC.panics fun _ _ => False) (piece backB [1, 1, 1, 1, 1, 1, 1]) 0 ⟨[(1, .ptr 129 0), (3, vl (.int .u8) (.l B)), (7, vb (.b true))], [(129, .box (mCells c sz bk T S M Q0))]⟩ (seen [2] [] fun e σ => e = .ret ∧ get σ.env 2 = vb (.b true))) := by
    refine .eq (back_tree4 _ (.l B) (.b true) c sz bk T S M Q0) ?_
    refine ⟨hlen, ?_⟩
    unfold rdV at hE
    rw [U.list_l, hE, hK]
    exact ⟨rfl, rfl⟩
  refine exec_soundH (C := (backC.panics fun _ _ => False)) backD_ok rfl rfl (fun _ h => h) (fun _ _ _ _ _ _ _ h _ _ => h.elim) hpan (by kernel_rfl) (by kernel_rfl) S7 hx ?_
  · rintro e σ' a' w' Z' G' ⟨rfl, h2⟩ S'
    have S2 := (mask_sim (x := some ([2], [])) S').slot 2
    rw [h2] at S2
    exact hend a' w' S'.calm S2 S'.fut
theorem r5_lets {Θ : Anc} (h1 : Θ.kb = true) (h2 : Θ.ka = false) : ((regOps (piece backB [1, 1, 1, 1, 0])).toList.all fun o => Θ.lets (backC.panics fun _ _ => False) o) = true := by
  unfold Anc.lets
  rw [h1, h2]
  kernel_rfl
theorem back_mid {w : World} {a : Act} {Bm Bn : Nat} {cm cn : Array Value} {tm tn : TypeId} {G G' : Nat → Value} {Z3 Z4 : Nat → Prop} {c' sz' bk' T' S' M' Q' : U} (hsize : a.tmps.size = 102) (calm : a.defers = [])
    (e1 : a.eval (.tmp 1) = .pointer (some ⟨Bm, 0, none⟩)) (e4 : a.eval (.tmp 4) = .int .i64 0) (e5 : a.eval (.tmp 5) = .pointer (some ⟨Bn, 0, none⟩)) (e6 : a.eval (.tmp 6) = .int .i64 0)
    (hZ3 : ∀ b, Z3 b → b < w.heap.size) (hZ4 : ∀ b, Z4 b → b < w.heap.size) (hdis : ∀ b, Z3 b → ¬ Z4 b) (hb : RepC w Z4 (.sl false [.int .u8]) (a.eval (.tmp 3)) (.l B))
    (hboxm : w.heap[Bm]? = some (.cells cm tm (0, 0))) (hm : RepSVs w Z3 G (mCells c sz bk T S M Q0) cm.toList) (hm3 : ¬ Z3 Bm) (hm4 : ¬ Z4 Bm)
    (hboxn : w.heap[Bn]? = some (.cells cn tn (0, 0))) (hn : RepSVs w Z4 G' (mCells c' sz' bk' T' S' M' Q') cn.toList) (hn3 : ¬ Z3 Bn) (hn4 : ¬ Z4 Bn) (hne : Bm ≠ Bn) (hJ : ∀ b, Z4 b → Plain w b)
    (hE' : metaEq c sz bk T S M Q0 c' sz' bk' T' S' M' Q' = true) (hK : mgK B = true) (hE : rdV (metaEq c sz bk T S M Q0) B = true) (hlen : B.length ≤ 1099511627776) (hpan : ∀ c a w d v, Q (.panic c) (a.put d v) w → Q (.panic c) a w)
    (hend : ∀ a' w', a'.defers = [] → a'.tmps.getD 2 undef = .bool true → Fut (fun b => Z4 b ∨ b = Bm) w w' → Q .ret a' w') : (piece backB [1, 1, 1, 1]).wp PR Q a w := by
  let G5 : Nat → Value := fun i => if i = 129 then .pointer (some ⟨Bm, 0, none⟩) else if i = 641 then .pointer (some ⟨Bn, 0, none⟩) else if i = 131 then a.eval (.tmp 3) else .pointer none
  have hltm : Bm < w.heap.size := (Array.getElem?_eq_some_iff.1 hboxm).1
  have hltn : Bn < w.heap.size := (Array.getElem?_eq_some_iff.1 hboxn).1
  have hob : ∀ {id o}, getO [(129, Den.Obj.box (mCells c sz bk T S M Q0)), (641, Den.Obj.box (mCells c' sz' bk' T' S' M' Q'))] id = some o → (id = 129 ∧ o = .box (mCells c sz bk T S M Q0)) ∨ (id = 641 ∧ o = .box (mCells c' sz' bk' T' S' M' Q')) := by
    intro id o h
    rw [getO_cons] at h
    split at h
    · rename_i e; cases h; exact .inl ⟨e.symm, rfl⟩
    · rw [getO_cons] at h
      split at h
      · rename_i e; cases h; exact .inr ⟨e.symm, rfl⟩
      · cases h
  have S5 : Sim PR ⟨w, fun _ => False, fun b => b = Bm ∨ b = Bn, fun b => Z3 b ∨ Z4 b, true, false, G5, []⟩ 102 ⟨[(1, .ptr 129 0), (3, .own 131), (4, vi (.i 0)), (5, .ptr 641 0), (6, vi (.i 0))], [(129, .box (mCells c sz bk T S M Q0)), (641, .box (mCells c' sz' bk' T' S' M' Q'))]⟩ a w (fun b => Z3 b ∨ Z4 b) G5 :=
    { size := hsize
      calm := calm
      slot := slots_of fun t s hs => by
        simp only [List.mem_cons, Prod.mk.injEq, List.not_mem_nil, or_false] at hs
        rcases hs with ⟨rfl, rfl⟩ | ⟨rfl, rfl⟩ | ⟨rfl, rfl⟩ | ⟨rfl, rfl⟩ | ⟨rfl, rfl⟩
        · exact ⟨Bm, rfl, e1⟩
        · exact rfl
        · exact ⟨e4, by decide, by decide⟩
        · exact ⟨Bn, rfl, e5⟩
        · exact ⟨e6, by decide, by decide⟩
      obj := fun id o h => by
        rcases hob h with ⟨rfl, rfl⟩ | ⟨rfl, rfl⟩
        · exact ⟨Bm, tm, cm, rfl, hboxm, mCells_rep (RepSVs.mono ⟨fun _ h => .inl h, fun _ _ => rfl⟩ _ _ hm)⟩
        · exact ⟨Bn, tn, cn, rfl, hboxn, mCells_rep (RepSVs.mono ⟨fun _ h => .inr h, fun _ _ => rfl⟩ _ _ hn)⟩
      sep := fun id id' o o' b h h' hb hb' => by
        rcases hob h with ⟨rfl, rfl⟩ | ⟨rfl, rfl⟩ <;> rcases hob h' with ⟨rfl, rfl⟩ | ⟨rfl, rfl⟩
        · rfl
        · cases hb; cases hb'; exact absurd rfl hne
        · cases hb; cases hb'; exact absurd rfl hne
        · rfl
      free := fun id o b h hb => by
        rcases hob h with ⟨rfl, rfl⟩ | ⟨rfl, rfl⟩
        · cases hb; exact ⟨fun h => h.elim hm3 hm4, .inr (.inl (.inl rfl))⟩
        · cases hb; exact ⟨fun h => h.elim hn3 hn4, .inr (.inl (.inr rfl))⟩
      keep := fun id o b h hb _ => by
        rcases hob h with ⟨rfl, rfl⟩ | ⟨rfl, rfl⟩ <;> rfl
      nlt := fun b h => by rcases h with rfl | rfl <;> assumption
      lt := fun b h => h.elim (hZ3 b) (hZ4 b)
      fut := Fut.refl _ w
      new := fun b hb => .inl hb
      sub := fun b hb => hb
      flat := fun id => by
        obtain ⟨A, c, hv, _⟩ := hb
        show (if id = 129 then _ else if id = 641 then _ else if id = 131 then a.eval (.tmp 3) else _ : Value).oneCell' = true
        rw [hv]
        split
        · rfl
        · split
          · rfl
          · split <;> rfl
      odd := fun _ _ => rfl
      row := fun _ hb => .inl hb }
  have hx : Holds (exec (backC.panics fun _ _ => False) (piece backB [1, 1, 1, 1, 0]) 0 ⟨[(1, .ptr 129 0), (3, .own 131), (4, vi (.i 0)), (5, .ptr 641 0), (6, vi (.i 0))], [(129, .box (mCells c sz bk T S M Q0)), (641, .box (mCells c' sz' bk' T' S' M' Q'))]⟩
      (seen [1, 3, 5, 7] [129, 641] fun e σ => e = .normal → σ = ⟨[(1, .ptr 129 0), (3, .own 131), (5, .ptr 641 0), (7, vb (.b true))], [(129, .box (mCells c sz bk T S M Q0)), (641, .box (mCells c' sz' bk' T' S' M' Q'))]⟩)) := by
    refine .eq (back_tree3 _ (.i 0) (.i 0) c sz bk T S M Q0 c' sz' bk' T' S' M' Q') ?_
    rw [hE']
    exact fun _ => rfl
  have hc1 : piece backB [1, 1, 1, 1] = .seq (piece backB [1, 1, 1, 1, 0]) (.seq (piece backB [1, 1, 1, 1, 1, 0]) (.seq (piece backB [1, 1, 1, 1, 1, 1, 0]) (piece backB [1, 1, 1, 1, 1, 1, 1]))) := by kernel_rfl
  rw [hc1]
  refine wp_seq (region_letsH (C := (backC.panics fun _ _ => False)) backD_ok (fun _ _ _ _ _ _ _ h _ _ => h.elim) ⟨regId (piece backB [1, 1, 1, 1, 0]), regOps (piece backB [1, 1, 1, 1, 0]), by kernel_rfl, r5_lets rfl rfl⟩
    (k := fun σ => mask σ (some ([1, 3, 5, 7], [129, 641])) = ⟨[(1, .ptr 129 0), (3, .own 131), (5, .ptr 641 0), (7, vb (.b true))], [(129, .box (mCells c sz bk T S M Q0)), (641, .box (mCells c' sz' bk' T' S' M' Q'))]⟩) ?_ (by kernel_rfl) S5 hx)
  intro σ5 a5 w5 Z5 G5' hσ S5'
  have S5' := mask_sim (x := some ([1, 3, 5, 7], [129, 641])) S5'
  rw [hσ] at S5'
  have hfut : Fut (fun _ => False) w w5 := S5'.fut
  have h129 : G5' 129 = .pointer (some ⟨Bm, 0, none⟩) := S5'.odd 129 rfl
  have h641 : G5' 641 = .pointer (some ⟨Bn, 0, none⟩) := S5'.odd 641 rfl
  have h131 : G5' 131 = a.eval (.tmp 3) := S5'.odd 131 rfl
  have K5 : Kept (.pointer (some ⟨Bm, 0, none⟩)) (a.eval (.tmp 3)) (.bool true) Bn a5 :=
    { size := S5'.size
      calm := S5'.calm
      e1 := by obtain ⟨b, h1, h2⟩ := S5'.slot 1; rw [h129] at h1; cases h1; exact h2
      e3 := (S5'.slot 3).trans h131
      e5 := by obtain ⟨b, h1, h2⟩ := S5'.slot 5; rw [h641] at h1; cases h1; exact h2
      e7 := S5'.slot 7 }
  have hst : ∀ b, b < w.heap.size → w5.heap[b]? = w.heap[b]? := fun b hb => hfut.block b hb fun h => h
  have hJ5 : ∀ b, Z4 b → Plain w5 b := fun b h => (hJ b h).of (hst b (hZ4 b h))
  obtain ⟨x1, t1, g1, _, x2, t2, g2, _, x3, t3, g3, _, x4, t4, g4, r4, x5, t5, g5, _, x6, t6, g6, _, x7, t7, g7, r7, g8⟩ := hn
  subst g2 g3 g4 g5 g6 g7
  have hbn5 : w5.heap[Bn]? = some (.cells cn tn (0, 0)) := (hst Bn hltn).trans hboxn
  have hc3 : w5.cell? ⟨Bn, 3, none⟩ = some x4 := by
    rw [cell_of_row w5 Bn 3 cn tn (0, 0) hbn5, ← Array.getElem?_toList, g1]
    rfl
  have hc6 : w5.cell? ⟨Bn, 6, none⟩ = some x7 := by
    rw [cell_of_row w5 Bn 6 cn tn (0, 0) hbn5, ← Array.getElem?_toList, g1]
    rfl
  have st4 : Stays w w5 Z4 Z4 := ⟨fun _ h => h, fun b h => hst b (hZ4 b h)⟩
  have hrows : IntRows w5 Z4 5 T'.list.length x4 := intRows_of hJ5 (RepC.mono st4 _ _ _ r4)
  have hrow : IntRow w5 Z4 1 Q'.list.length x7 := intRow_of hJ5 (RepC.mono st4 _ _ _ r7)
  refine wp_seq (back_l0 hc3 hrows K5 (Spoil.refl Z4 w5) fun a6 w6 K6 s6 => ?_)
  refine wp_seq (back_l4 hc6 hrow K6 s6 fun a7 w7 K7 s7 => ?_)
  have hst7 : ∀ b, b < w.heap.size → ¬ Z4 b → w7.heap[b]? = w.heap[b]? := fun b hb h4 => (s7.block b h4).trans (hst b hb)
  refine back_end (Zr := fun b => Z3 b ∨ Z4 b) K7.size K7.calm K7.e1 K7.e3 K7.e7 (fun b h => ?_) (bytes_spoil s7 (RepC.mono ⟨fun _ h => .inr h, fun b h => hst b (hZ4 b h)⟩ _ _ _ hb)) ((hst7 Bm hltm hm4).trans hboxm)
    (RepSVs.mono ⟨fun _ h => .inl h, fun b h => hst7 b (hZ3 b h) (hdis b h)⟩ _ _ hm) (fun h => h.elim hm3 hm4) hK hE hlen hpan fun a' w' h1 h2 hf => hend a' w' h1 h2 ?_
  · rw [s7.size]
    exact Nat.lt_of_lt_of_le (h.elim (hZ3 b) (hZ4 b)) hfut.size
  · refine ⟨hf.os.trans (s7.os.trans hfut.os), hf.tape.trans (s7.tape.trans hfut.tape), hf.output.trans (s7.output.trans hfut.output), Nat.le_trans hfut.size (s7.size ▸ hf.size), fun k hk hn => ?_⟩
    rw [hf.block k (by rw [s7.size]; exact Nat.lt_of_lt_of_le hk hfut.size) (fun h => hn (.inr h))]
    exact hst7 k hk fun h => hn (.inl h)
theorem back_walk {w : World} {a : Act} {Z : Nat → Prop} (Sm : Sim PR ⟨w, fun _ => False, fun _ => False, Z, false, false, fun _ => .pointer none, []⟩ 102 ⟨[(0, .agg (mCells c sz bk T S M Q0))], []⟩ a w Z (fun _ => .pointer none))
    (hT : okC (.sl false [.sl true EC]) T) (hS : okC (.sl true SC) S) (hpan : ∀ c a w d v, Q (.panic c) (a.put d v) w → Q (.panic c) a w)
    (hend : ∀ a' w', a'.defers = [] → a'.tmps.getD 2 undef = .bool true → Fut (fun _ => False) w w' → Q .ret a' w') : backB.wp PR Q a w := by
  have hx : Holds (exec (backC.panics fun _ _ => False) backA 0 ⟨[(0, .agg (mCells c sz bk T S M Q0))], []⟩ (seen [1, 2, 3, 4] [128, 2960] fun e σ => (e = .ret ∧ get σ.env 2 = vb (.b true)) ∨ (e = .normal ∧ (metaG bk T S M Q0 = false ∧ rmetaR c sz bk T S M Q0 = true) ∧
      σ = ⟨[(1, .ptr 128 0), (2, vb (.b false)), (3, .own 2960), (4, vi (.i 0))], [(128, .box (mCells c sz bk T S M Q0)), (2960, .arr u8T (metaB c.int sz.int bk.str T.list S.list M.list Q0.list))]⟩))) := by
    refine .eq (back_tree1 _ c sz bk T S M Q0) ?_
    refine bi (fun _ => .inl ⟨rfl, rfl⟩) (fun hg => bi (fun _ => .inl ⟨rfl, rfl⟩) (fun hr => ?_))
    obtain ⟨g, hE, hX⟩ := good_of hg (nf hr) hT hS
    refine ⟨⟨⟨rfl, rfl, rfl⟩, metaG_low hg⟩, .inr ⟨rfl, ⟨hg, nf hr⟩, ?_⟩⟩
    rw [hE, hX]
  have hc0 : backB = snoc backA (piece backB [1, 1, 1]) := by kernel_rfl
  rw [hc0]
  refine exec_cutH (C := (backC.panics fun _ _ => False)) backD_ok rfl rfl (fun _ h => h) (fun _ _ _ _ _ _ _ h _ _ => h.elim) hpan (by kernel_rfl) (by kernel_rfl) Sm hx ?_
  intro e σ' a3 w3 Z3 G3 hk S'
  have S3 := mask_sim (x := some ([1, 2, 3, 4], [128, 2960])) S'
  rcases hk with ⟨rfl, h2⟩ | ⟨rfl, ⟨hg, hr⟩, hσ⟩
  · have h3 := S3.slot 2
    rw [h2] at h3
    exact hend a3 w3 S'.calm h3 S'.fut
  rw [hσ] at S3
  clear hσ S' hx hc0
  obtain ⟨g, hE, hX⟩ := good_of hg hr hT hS
  obtain ⟨hR, hL⟩ := metaE_zero hE
  have hlen := metaL_len hL
  generalize hB : metaB c.int sz.int bk.str T.list S.list M.list Q0.list = B at S3 hlen
  obtain ⟨hK, hE'⟩ := mg_back g hR hL hB.symm
  rw [metaEq_comm] at hE'
  obtain ⟨Bm, tm, cm, hGm, hboxm, hm⟩ := S3.obj 128 _ rfl
  obtain ⟨mm, cs, vs, hcs, hown, hel⟩ := S3.obj 2960 _ rfl
  have hcs : Cs PR u8T = some (mm, cs) := hcs
  rw [show Cs PR u8T = some (false, [.int .u8]) by kernel_rfl] at hcs
  cases hcs
  have hltm : Bm < w3.heap.size := (Array.getElem?_eq_some_iff.1 hboxm).1
  have hfm := S3.free 128 _ Bm rfl (by rw [hGm]; rfl)
  have hnew : ∀ b, blk (G3 2960) = some b → w.heap.size ≤ b ∧ ¬ Z3 b ∧ b < w3.heap.size ∧ Plain w3 b := fun b hb => by
    have h1 := S3.free 2960 _ b rfl hb
    exact ⟨h1.2.elim False.elim (fun h => h.elim False.elim fun h => h), h1.1, RepO.lt S3 (j := 2960) rfl hb, arr_plain (S3.obj 2960 _ rfl) hb⟩
  have hrep : RepC w3 (fun b => blk (G3 2960) = some b) (.sl false [.int .u8]) (a3.eval (.tmp 3)) (.l B) := by
    rw [show a3.eval (.tmp 3) = G3 2960 from S3.slot 3]
    exact own_rep (Z := fun _ => False) (fun _ h => h.elim) (fun b h => h) hown (elems_int hel)
  let G4 : Nat → Value := fun i => if i = 129 then .pointer (some ⟨Bm, 0, none⟩) else .pointer none
  have S4 : Sim PR ⟨w3, fun _ => False, fun _ => False, fun b => blk (G3 2960) = some b, false, false, G4, []⟩ 102 ⟨[(1, .ptr 129 0), (3, vl (.int .u8) (.l B)), (4, vi (.i 0))], []⟩ a3 w3 (fun b => blk (G3 2960) = some b) G4 :=
    { size := S3.size
      calm := S3.calm
      slot := slots_of fun t s hs => by
        simp only [List.mem_cons, Prod.mk.injEq, List.not_mem_nil, or_false] at hs
        rcases hs with ⟨rfl, rfl⟩ | ⟨rfl, rfl⟩ | ⟨rfl, rfl⟩
        · obtain ⟨b, h1, h2⟩ := S3.slot 1
          rw [hGm] at h1
          cases h1
          exact ⟨Bm, rfl, h2⟩
        · exact hrep
        · exact S3.slot 4
      obj := fun id o h => by cases h
      sep := fun id id' o o' b h => by cases h
      free := fun id o b h => by cases h
      keep := fun id o b h => by cases h
      nlt := fun _ h => h.elim
      lt := fun b h => (hnew b h).2.2.1
      fut := Fut.refl _ w3
      new := fun b hb => .inl hb
      sub := fun b hb => hb
      flat := fun id => by
        show (if id = 129 then _ else _ : Value).oneCell' = true
        split <;> rfl
      odd := fun _ _ => rfl
      row := fun _ hb => .inl hb }
  have hx : Holds (exec (backC.panics fun _ _ => False) (piece backB [1, 1, 1, 0]) 0 ⟨[(1, .ptr 129 0), (3, vl (.int .u8) (.l B)), (4, vi (.i 0))], []⟩ (seen [1, 3, 4, 5, 6] [640] fun e σ => e = .normal ∧
      σ = ⟨[(1, .ptr 129 0), (3, vl (.int .u8) (.l B)), (4, vi (.i 0)), (5, .ptr 640 0), (6, vi (.i 0))], [(640, .box (mCells (.i (getN B 0 1)) (.i (getN B 1 2)) (.s (readV B 3)) (.l (tgL B (pm1 B 0))) (.l (pmS B 0)) (.l (pmM B 0)) (.l (pmQ B 0))))]⟩)) := by
    refine .eq (back_tree2 _ (.l B) (.i 0)) ?_
    rw [U.list_l, hK]
    exact ⟨show B.length ≤ 1099511627776 by omega, rfl, rfl⟩
  have hc1 : piece backB [1, 1, 1] = snoc (piece backB [1, 1, 1, 0]) (piece backB [1, 1, 1, 1]) := by kernel_rfl
  rw [hc1]
  refine exec_cutH (C := (backC.panics fun _ _ => False)) backD_ok rfl rfl (fun _ h => h) (fun _ _ _ _ _ _ _ h _ _ => h.elim) hpan (by kernel_rfl) (by kernel_rfl) S4 hx ?_
  rintro e σ4 a4 w4 Z4 G4' ⟨rfl, hσ⟩ S4'
  have S4' := mask_sim (x := some ([1, 3, 4, 5, 6], [640])) S4'
  rw [hσ] at S4'
  have h129 : G4' 129 = .pointer (some ⟨Bm, 0, none⟩) := S4'.odd 129 rfl
  obtain ⟨Bn, tn, cn, hGn, hboxn, hn⟩ := S4'.obj 640 _ rfl
  have hfn := S4'.free 640 _ Bn rfl (by rw [hGn]; rfl)
  have hltn : w3.heap.size ≤ Bn := hfn.2.elim False.elim (fun h => h.elim False.elim fun h => h)
  have hst : ∀ b, b < w3.heap.size → w4.heap[b]? = w3.heap[b]? := fun b hb => S4'.fut.block b hb fun h => h
  have hn4 : ∀ b, Z4 b → blk (G3 2960) = some b ∨ w3.heap.size ≤ b := fun b hb => (S4'.new b hb).imp_right fun h => h.elim False.elim (fun h => h.elim False.elim fun h => h)
  have hw3 : w.heap.size ≤ w3.heap.size := S3.fut.size
  refine back_mid (B := B) (Z3 := Z3) (Z4 := Z4) S4'.size S4'.calm ?_ (S4'.slot 4).1 ?_ (S4'.slot 6).1 (fun b h => Nat.lt_of_lt_of_le (S3.lt b h) S4'.fut.size) S4'.lt (fun b h3 h4 => ?_) (S4'.slot 3)
    ((hst Bm hltm).trans hboxm) (RepSVs.mono ⟨fun _ h => h, fun b h => hst b (S3.lt b h)⟩ _ _ hm) hfm.1 (fun h => ?_) hboxn hn (fun h => ?_) hfn.1 (fun h => ?_) (fun b h => ?_) hE' hK ?_ (by omega) hpan fun a' w' h1 h2 hf => hend a' w' h1 h2 ?_
  · obtain ⟨b, h1, h2⟩ := S4'.slot 1
    rw [h129] at h1
    cases h1
    exact h2
  · obtain ⟨b, h1, h2⟩ := S4'.slot 5
    rw [hGn] at h1
    cases h1
    exact h2
  · rcases hn4 b h4 with h | h
    · exact (hnew b h).2.1 h3
    · have := S3.lt b h3
      omega
  · rcases hn4 Bm h with h | h
    · exact absurd (S3.sep 128 2960 _ _ Bm rfl rfl (by rw [hGm]; rfl) h) (by decide)
    · omega
  · have := S3.lt Bn h
    omega
  · omega
  · rcases S4'.row b h with h | h
    · exact (hnew b h).2.2.2.of (hst b (hnew b h).2.2.1)
    · exact h
  · unfold rdV
    rw [hK]
    exact hE'
  · refine ⟨hf.os.trans (S4'.fut.os.trans S3.fut.os), hf.tape.trans (S4'.fut.tape.trans S3.fut.tape), hf.output.trans (S4'.fut.output.trans S3.fut.output), Nat.le_trans hw3 (Nat.le_trans S4'.fut.size hf.size), fun k hk _ => ?_⟩
    rw [hf.block k (Nat.lt_of_lt_of_le hk (Nat.le_trans hw3 S4'.fut.size)) ?_, hst k (Nat.lt_of_lt_of_le hk hw3)]
    · exact S3.fut.block k hk fun h => h
    · rintro (h | rfl)
      · rcases hn4 k h with h | h
        · have := (hnew k h).1
          omega
        · omega
      · have : w.heap.size ≤ k := hfm.2.elim False.elim (fun h => h.elim False.elim fun h => h)
        omega
end
theorem lawback_ok : SpecF PR 7 trueS := fun fn us hfn => by
  have hf : PR.funcs[(7 : Nat)]? = some Try.f7 := by kernel_rfl
  rw [hf] at hfn; cases hfn
  refine fn_walk (code := backB) hf (by kernel_rfl) (by kernel_rfl) (Nat.le_of_ble_eq_true (by kernel_rfl)) fun hok => ?_
  have hp : Try.f7.params.toList = [29] := by kernel_rfl
  rw [hp] at hok
  obtain ⟨c, sz, bk, T, S, M, Q, hus⟩ : ∃ c sz bk T S M Q, us = [[c, sz, bk, T, S, M, Q]] := by
    obtain ⟨u, rfl, h1⟩ := shape1 (by kernel_rfl : Cs PR 29 = some (true, [.int .i64, .int .i64, .str, .sl false [.sl true EC], .sl true SC, .sl true BC, .sl false [.int .i64]])) hok.1
    obtain ⟨c, sz, bk, T, S, M, Q, rfl⟩ := len7 h1
    exact ⟨c, sz, bk, T, S, M, Q, rfl⟩
  subst hus
  have hok2 := hok.2 [.agg (mCells c sz bk T S M Q)] (by kernel_rfl)
  refine ⟨[(0, .agg (mCells c sz bk T S M Q))], by kernel_rfl, fun a w Z hZ Sm => ?_⟩
  refine back_walk Sm hok2.1.2.2.2.1 hok2.1.2.2.2.2.1 (fun _ _ _ d _ h => by cases d <;> exact h) fun a' w' h1 h2 h3 => ?_
  have hres : Try.f7.results = #[.tmp 2] := by kernel_rfl
  refine ends_bool (t := 2) (fun a => ?_) (by kernel_rfl) h1 h2 h3 hZ
  rw [results_of, hres]
  simp [resOf]
end Go.Mat
