/- A part of the proof of this: two unlike right metas have unlike bytes. Conditions: none. Joined of F20, B22, F22, B23, F23, F24, F25. -/
import Derived.Test.YtmgncojckndckaaC4
import Derived.KernelRfl
/-
  LAWS 20: how many bytes a meta has. Conditions: none.
-/
namespace Go.Mat
open Go Go.Den Go.Proofs

theorem num_eq {n v : Int} (h : putErr n (IntKind.wrap .u64 v) = 0) : (num [] n v).length = n.toNat := by
  unfold num putX
  rw [if_pos h, List.nil_append, putFrom_len]
theorem num1_eq {v : Int} (h0 : 0 ≤ v) (h : v ≤ 255) : (num [] 1 v).length = 1 := num_eq (good1 h0 h)
theorem num2_eq {v : Int} (h0 : 0 ≤ v) (h : v ≤ 65535) : (num [] 2 v).length = 2 := num_eq (good2 h0 h)
theorem num4_eq {v : Int} (h0 : 0 ≤ v) (h : v ≤ 4294967295) : (num [] 4 v).length = 4 := num_eq (good4 h0 h)
theorem textB_eq {s : ByteArray} (h : s.size ≤ 65535) : (textB [] s).length = 2 + s.size := by
  unfold textB
  rw [show longB s = false from decide_eq_false (by omega), cond_false, List.length_append, num2_eq (by omega) (by omega), strU_len]
/-- sums that may be -/
def sumOk (e : U) : Prop := 0 ≤ (e4 e).int ∧ (e4 e).int ≤ 4294967295
def tabOk (L : List U) : Prop := ∀ l ∈ L, ∀ e ∈ l.list, sumOk e
theorem may_low {k st ct sz sm c : Int} (h : mayR k st ct sz sm c = true) : 0 ≤ k ∧ k ≤ 3 ∧ 0 ≤ st ∧ st ≤ 65536 ∧ 0 ≤ ct ∧ ct ≤ 64 ∧ 0 ≤ sz ∧ sz ≤ 1024 := by
  unfold mayR at h
  split at h
  · cases h
  · rename_i hc
    have hp := pow_le (c := c) (by omega) (by omega)
    split at h
    · have := of_decide_eq_true h
      omega
    · split at h
      · simp only [Bool.and_eq_true, placeR, decide_eq_true_eq] at h
        omega
      · split at h
        · simp only [Bool.and_eq_true, placeR, decide_eq_true_eq] at h
          omega
        · cases h
theorem entB_len {a b c d e k : Int} (h : mayR a b c d e k = true) (he : 0 ≤ e ∧ e ≤ 4294967295) : (entB a b c d e).length = 16 := by
  obtain ⟨_, _, hb0, hb, hc0, hc, hd0, hd⟩ := may_low h
  have hw : IntKind.wrap .i64 e = e := i64_in (by omega) (by omega)
  unfold entB
  rw [hw, num_app (v := e) (good4 he.1 he.2), List.length_append, num_app (v := d) (good4 (by omega) (by omega)), List.length_append, num_app (v := b) (good4 (by omega) (by omega)), List.length_append, num_app (v := c) (good2 (by omega) (by omega)), List.length_append,
    num4_eq he.1 he.2, num4_eq (by omega) (by omega), num4_eq (by omega) (by omega), num2_eq (by omega) (by omega)]
  rfl
theorem leafB_eq {n c i : Int} : ∀ {l : List U} {k : Int}, entsR n c i k l = true → (∀ e ∈ l, sumOk e) → (leafB c l).length = 16 * l.length
  | [], _, _, _ => by simp [leafB]
  | e :: r, k, h, hs => by
    rw [entsR, Bool.and_eq_true] at h
    have h1 := h.1
    unfold entOk at h1
    rw [Bool.and_eq_true] at h1
    have hl := leafB_eq h.2 fun e he => hs e (List.mem_cons_of_mem _ he)
    rw [leafB, entX, h1.1, cond_true, List.length_append, entB_len h1.1 (hs e (List.mem_cons_self ..)), hl, List.length_cons]
    omega
theorem leavesB_eq {n c : Int} : ∀ {L : List U} {i : Int}, leavesR n c i L = true → 0 ≤ i → i + L.length ≤ 65535 → tabOk L → ((leavesB c i L).length : Int) = 130 * countB L
  | [], _, _, _, _, _ => by simp [leavesB, countB]
  | l :: r, i, h, h0, hi, hs => by
    simp only [List.length_cons] at hi
    rw [leavesR] at h
    have key : leavesR n c (i + 1) r = true ∧ (l.list = [] ∨ (l.list.length = 8 ∧ entsR n c i 0 l.list = true)) := by
      split at h
      · rename_i hh; exact ⟨h, .inl hh.1⟩
      · rw [Bool.and_eq_true] at h
        have h1 := h.1
        unfold leafR at h1
        simp only [Bool.and_eq_true, decide_eq_true_eq] at h1
        exact ⟨h.2, .inr h1.1⟩
    have ih := leavesB_eq key.1 (by omega) (by omega) fun l hl => hs l (List.mem_cons_of_mem _ hl)
    rw [leavesB, countB, List.length_append]
    rcases key.2 with hl | ⟨hl, he⟩
    · rw [hl]; simp only [decide_true, cond_true, List.length_nil]; omega
    · rw [decide_eq_false (by intro h0; rw [h0] at hl; simp at hl)]
      simp only [cond_false, List.length_append]
      have h2 := leafB_eq he (hs l (List.mem_cons_self ..))
      have h3 := num2_eq (v := i) h0 (by omega)
      omega
theorem tabX_eq {L : List U} {n c : Int} (hl : L.length ≤ 1099511627776) (h : tableR L n c = true) (hs : tabOk L) : ((tabX L c).length : Int) = 2 + 130 * countB L ∧ countB L ≤ 512 := by
  obtain ⟨h1, h2, h3, h4, h5, h6⟩ := tableR_low hl h
  have h7 : leavesR n c 0 L = true := by
    unfold tableR at h
    split at h
    · cases h
    · exact h
  have hc := countB_le L
  have hm : ∀ {m : Int}, n ≤ m → ∀ {L : List U} {i : Int}, leavesR n c i L = true → leavesR m c i L = true := fun {m} hm => by
    have he : ∀ {l : List U} {i k : Int}, entsR n c i k l = true → entsR m c i k l = true := by
      intro l
      induction l with
      | nil => intro i k _; rfl
      | cons e r ih =>
        intro i k h
        rw [entsR, Bool.and_eq_true] at h ⊢
        refine ⟨?_, ih h.2⟩
        have h1 := h.1
        unfold entOk at h1 ⊢
        rw [Bool.and_eq_true, Bool.or_eq_true] at h1 ⊢
        refine ⟨h1.1, h1.2.imp id fun h => ?_⟩
        have := of_decide_eq_true h
        exact decide_eq_true (by omega)
    intro L
    induction L with
    | nil => intro i _; rfl
    | cons l r ih =>
      intro i h
      rw [leavesR] at h ⊢
      split at h
      · rename_i hc; rw [if_pos hc]; exact ih h
      · rename_i hc
        rw [if_neg hc]
        rw [Bool.and_eq_true] at h ⊢
        refine ⟨?_, ih h.2⟩
        have h1 := h.1
        unfold leafR at h1 ⊢
        simp only [Bool.and_eq_true] at h1 ⊢
        exact ⟨⟨h1.1.1, he h1.1.2⟩, h1.2⟩
  have ht : tableR L 4096 c = true := by
    unfold tableR
    rw [if_neg (by omega)]
    exact hm h4 h7
  have hB := leavesB_eq h7 (by omega) (by omega) hs
  unfold tabX tputB
  rw [ht, cond_true, List.length_append]
  have h9 := num2_eq (v := countB L) hc.1 (by omega)
  omega
theorem spansB_eq : ∀ {L : List U}, (∀ s ∈ L, spanOk s) → (spansB L).length = 4 * L.length
  | [], _ => by simp [spansB]
  | s :: r, h => by
    obtain ⟨h1, h2, h3, h4⟩ := h s (List.mem_cons_self ..)
    rw [spansB, List.length_append, List.length_append, spansB_eq fun s hs => h s (List.mem_cons_of_mem _ hs), num2_eq h1 h2, num2_eq h3 h4, List.length_cons]
    omega
theorem runsB_len {x : Int} : ∀ {l : List U} {n : Int}, 0 ≤ x → x ≤ 65535 → (∀ y ∈ l, cntOk y) → 1 ≤ n → n + l.length ≤ 65535 → ((runsB x n l).length : Int) = 4 + diffsN x l
  | [], n, hx0, hx, _, h1, h2 => by
    simp only [List.length_nil] at h2
    rw [runsB, diffsN, List.length_append, num2_eq (by omega) (by omega), num2_eq hx0 hx]
    rfl
  | y :: r, n, hx0, hx, hc, h1, h2 => by
    simp only [List.length_cons] at h2
    have hy := hc y (List.mem_cons_self ..)
    unfold cntOk at hy
    have hr : ∀ y ∈ r, cntOk y := fun z hz => hc z (List.mem_cons_of_mem _ hz)
    rw [runsB, diffsN, decide_eq_true (show n < 65535 by omega), Bool.true_and]
    cases he : y.int == x with
    | true =>
      have he' : y.int = x := by simpa using he
      rw [cond_true, cond_true, he', runsB_len hx0 hx hr (by omega) (by omega)]
      omega
    | false =>
      rw [cond_false, cond_false, List.length_append, List.length_append, num2_eq (by omega) (by omega), num2_eq hx0 hx]
      have := runsB_len (x := y.int) (n := 1) hy.1 hy.2 hr (by omega) (by omega)
      omega
theorem countsB_eq {Q : List U} (h : ∀ y ∈ Q, cntOk y) (hl : Q.length ≤ 65535) : ((countsB Q).length : Int) = countsN Q := by
  cases Q with
  | nil => rfl
  | cons x r =>
    have hx := h x (List.mem_cons_self ..)
    simp only [List.length_cons] at hl
    rw [countsB, countsN]
    exact runsB_len hx.1 hx.2 (fun y hy => h y (List.mem_cons_of_mem _ hy)) (by omega) (by omega)
theorem diffsN_le (p : Int) : ∀ (l : List U), 0 ≤ diffsN p l ∧ diffsN p l ≤ 4 * l.length
  | [] => by simp [diffsN]
  | y :: r => by
    have := diffsN_le y.int r
    rw [diffsN, List.length_cons]
    cases y.int == p with
    | true => simp only [cond_true]; omega
    | false => simp only [cond_false]; omega
theorem countsN_le (Q : List U) : 0 ≤ countsN Q ∧ countsN Q ≤ 4 * Q.length := by
  cases Q with
  | nil => simp [countsN]
  | cons x r => have := diffsN_le x.int r; rw [countsN, List.length_cons]; omega
theorem shotsB_eq {c : Int} : ∀ {S : List U}, (∀ s ∈ S, shotOk s ∧ (e0 s).str.size ≤ 16 ∧ tabOk (e2 s).list ∧ ∃ n, tableR (e2 s).list n c = true) → ((shotsB c S).length : Int) = shotsN S ∧ 0 ≤ shotsN S ∧ shotsN S ≤ 70000 * S.length
  | [], _ => by simp [shotsB, shotsN]
  | s :: r, h => by
    obtain ⟨ih, ih0, ih1⟩ := shotsB_eq (c := c) fun s hs => h s (List.mem_cons_of_mem _ hs)
    obtain ⟨⟨h1, h2, h3, h4⟩, h5, h6, n, h7⟩ := h s (List.mem_cons_self ..)
    have g1 := textB_eq h1
    have g2 := num2_eq h2 h3
    obtain ⟨g3, g4⟩ := tabX_eq h4 h7 h6
    have g5 := countB_le (e2 s).list
    rw [shotsB, shotsN, List.length_append, List.length_append, List.length_append, List.length_cons]
    omega
theorem mapsB_eq : ∀ {M : List U}, (∀ s ∈ M, bmapOk s ∧ (e0 s).str.size ≤ 16 ∧ (e2 s).list.length ≤ 500) → ((mapsB M).length : Int) = mapsN M ∧ 0 ≤ mapsN M ∧ mapsN M ≤ 3000 * M.length
  | [], _ => by simp [mapsB, mapsN]
  | s :: r, h => by
    obtain ⟨ih, ih0, ih1⟩ := mapsB_eq fun s hs => h s (List.mem_cons_of_mem _ hs)
    obtain ⟨⟨h1, h2, h3⟩, h4, h5⟩ := h s (List.mem_cons_self ..)
    have g1 := textB_eq h1
    have g2 := num1_eq (v := onB (e1 s).bool) (by cases (e1 s).bool <;> simp [onB]) (by cases (e1 s).bool <;> simp [onB])
    have g3 := num2_eq (v := (e2 s).list.length) (by omega) (by omega)
    have g4 := spansB_eq h3
    rw [mapsB, mapB, mapsN, List.length_append, List.length_append, List.length_append, List.length_append, List.length_cons]
    omega
/-- what is read is in range: sums -/
theorem tab_sums {L : U} (h : okC (.sl false [.sl true EC]) L) : tabOk L.list := fun l hl e he => by
  obtain ⟨i, hi, rfl⟩ := List.getElem_of_mem hl
  obtain ⟨j, hj, rfl⟩ := List.getElem_of_mem he
  have h1 := (h.2 i hi).1
  simp only [elemU_false] at h1
  have e1 : U.at [U.at L.list i] 0 = L.list[i] := at_getElem _ _ hi
  rw [e1] at h1
  have h2 := (h1.2 j hj).2.2.2.2.1
  simp only [elemU_true, nth_tail, U.at] at h2
  have e2 : nth (U.i 0) (L.list[i]).list j = (L.list[i]).list[j] := at_getElem _ _ hj
  rw [e2] at h2
  exact h2
theorem shot_sums {S : U} (h : okC (.sl true SC) S) : ∀ s ∈ S.list, tabOk (e2 s).list := fun s hs => by
  obtain ⟨i, hi, rfl⟩ := List.getElem_of_mem hs
  have h1 := (h.2 i hi).2.2.1
  simp only [elemU_true, nth_tail, U.at] at h1
  have e1 : nth (U.i 0) S.list i = S.list[i] := at_getElem _ _ hi
  rw [e1] at h1
  exact tab_sums h1
structure RightFacts (c sz bk T S M Q : U) : Prop where
  c0 : 0 ≤ c.int
  c6 : c.int ≤ 6
  sz0 : 0 ≤ sz.int
  sz1 : sz.int ≤ 4096
  bk : bk.str.size ≤ 16
  t : tableR T.list (sz.int / 2 ^ c.int.toNat) c.int = true
  s8 : S.list.length ≤ 8
  m8 : M.list.length ≤ 8
  q : Q.list.length ≤ 65536
  shots : ∀ s ∈ S.list, (e0 s).str.size ≤ 16 ∧ 0 ≤ (e1 s).int ∧ (e1 s).int ≤ 4096 ∧ ∃ n, tableR (e2 s).list n c.int = true
  maps : ∀ s ∈ M.list, bmapOk s ∧ (e0 s).str.size ≤ 16
  counts : ∀ x ∈ Q.list, cntOk x
theorem shotsR_each {c : Int} : ∀ {r : List U}, shotsR c r = true → ∀ s ∈ r, ∃ n, tableR (e2 s).list n c = true
  | [], _, s, hs => by cases hs
  | x :: r, h, s, hs => by
    rw [shotsR] at h
    simp only [Bool.and_eq_true] at h
    rcases List.mem_cons.1 hs with rfl | hs
    · exact ⟨_, h.1.2⟩
    · exact shotsR_each h.2 s hs
theorem right_facts {c sz bk T S M Q : U} (hT : T.list.length ≤ 1099511627776) (hS : ∀ s ∈ S.list, (e2 s).list.length ≤ 1099511627776) (h : rmetaR c sz bk T S M Q = true) : RightFacts c sz bk T S M Q := by
  have hr2 := h
  rw [rmetaR_eq hT hS, metaR_iff] at hr2
  rw [rmetaR] at h
  simp only [Bool.and_eq_true, decide_eq_true_eq] at h
  obtain ⟨⟨⟨⟨⟨⟨⟨⟨⟨⟨hc0, hc6⟩, hsz⟩, hbk⟩, hS8⟩, hM8⟩, hQ⟩, _⟩, hSr⟩, hMr⟩, hQr⟩ := h
  have hsz := size_low hsz
  exact { c0 := hc0, c6 := hc6, sz0 := hsz.1, sz1 := hsz.2, bk := back_size hbk, t := hr2.2.2.2.2.1, s8 := hS8, m8 := hM8, q := hQ
          shots := fun s hs => by
            obtain ⟨h1, h2⟩ := rshots_each hSr s hs
            have h3 := size_low h2
            exact ⟨name_size h1, h3.1, h3.2, shotsR_each hr2.2.2.2.2.2.2.2.2.1 s hs⟩
          maps := fun s hs => by
            obtain ⟨h1, h2, h3⟩ := rmaps_each hMr s hs
            have := name_size h1
            have := span_ok h2 h3
            exact ⟨⟨by omega, this.1, this.2⟩, by omega⟩
          counts := counts_each hQr }
theorem metaB_len {c sz bk T S M Q : U} (hg : metaG bk T S M Q = false) (hr : RightFacts c sz bk T S M Q) (hT : tabOk T.list) (hS : ∀ s ∈ S.list, tabOk (e2 s).list) :
    ((metaB c.int sz.int bk.str T.list S.list M.list Q.list).length : Int) = 13 + bk.str.size + countB T.list * 130 + shotsN S.list + mapsN M.list + countsN Q.list ∧ metaL c.int sz.int bk.str T.list S.list M.list Q.list = false ∧ 0 ≤ shotsN S.list ∧ shotsN S.list ≤ 560000 ∧ 0 ≤ mapsN M.list ∧ mapsN M.list ≤ 24000 ∧
      countB T.list ≤ 512 ∧ (∀ s ∈ S.list, shotLow s) ∧ (∀ s ∈ M.list, mapLow s) ∧ Q.list.length ≤ 20000 := by
  obtain ⟨g1, g2, g3⟩ := metaG_low hg
  have hg' := hg
  unfold metaG at hg'
  simp only [Bool.or_eq_false_iff] at hg'
  obtain ⟨⟨⟨⟨⟨⟨f1, f2⟩, f3⟩, f4⟩, f5⟩, f6⟩, f7⟩ := hg'
  have f4 := of_decide_eq_false f4
  have k1 := num1_eq hr.c0 (by have := hr.c6; omega)
  have k2 := num2_eq hr.sz0 (by have := hr.sz1; omega)
  have k3 := textB_eq (s := bk.str) (by have := hr.bk; omega)
  obtain ⟨k4, k5⟩ := tabX_eq g1 hr.t hT
  have k6 := num1_eq (v := S.list.length) (by omega) (by have := hr.s8; omega)
  have k7 := num1_eq (v := M.list.length) (by omega) (by have := hr.m8; omega)
  have k8 := num4_eq (v := Q.list.length) (by omega) (by omega)
  obtain ⟨k9, k10, k11⟩ := shotsB_eq (c := c.int) (S := S.list) fun s hs => by
    obtain ⟨q1, q2, q3, q4⟩ := hr.shots s hs
    exact ⟨⟨by omega, q2, by omega, g2 s hs⟩, q1, hS s hs, q4⟩
  obtain ⟨k12, k13, k14⟩ := mapsB_eq (M := M.list) fun s hs => ⟨(hr.maps s hs).1, (hr.maps s hs).2, mapsG_low f7 s hs⟩
  have k15 := countsB_eq hr.counts (by omega)
  have k16 := countsN_le Q.list
  have k17 := countB_le T.list
  have s8 := hr.s8
  have m8 := hr.m8
  have hb := hr.bk
  have hlen : ((metaB c.int sz.int bk.str T.list S.list M.list Q.list).length : Int) = 13 + bk.str.size + countB T.list * 130 + shotsN S.list + mapsN M.list + countsN Q.list := by
    unfold metaB
    simp only [List.length_append]
    omega
  refine ⟨hlen, ?_, k10, by omega, k13, by omega, k5, fun s hs => ⟨by have := (hr.shots s hs).1; omega, shotsG_low f6 s hs⟩, fun s hs => ⟨by have := (hr.maps s hs).2; omega, mapsG_low f7 s hs⟩, by omega⟩
  unfold metaL
  exact decide_eq_false (by omega)
theorem long_ok : SpecF PR 4 trueS := fun fn us hfn => by
  have hf : PR.funcs[(4 : Nat)]? = some Try.f4 := by kernel_rfl
  rw [hf] at hfn; cases hfn
  refine fn_okH (C := longC) (mkC_ok eqs0_ok mixed_ok (.consP mput_ok (.cons err_ok (.cons metaG_ok (.cons awake_ok (.cons leaves_ok (.cons rmeta_ok .nil)))))) .nil) hf (by kernel_rfl) (loops_three (by kernel_rfl) long_loop0 long_loop2 long_loop4) fun hok => ?_
  have hp : Try.f4.params.toList = [29] := by kernel_rfl
  rw [hp] at hok
  obtain ⟨c, sz, bk, T, S, M, Q, hus⟩ : ∃ c sz bk T S M Q, us = [[c, sz, bk, T, S, M, Q]] := by
    obtain ⟨u, rfl, h1⟩ := shape1 (by kernel_rfl : Cs PR 29 = some (true, [.int .i64, .int .i64, .str, .sl false [.sl true EC], .sl true SC, .sl true BC, .sl false [.int .i64]])) hok.1
    obtain ⟨c, sz, bk, T, S, M, Q, rfl⟩ := len7 h1
    exact ⟨c, sz, bk, T, S, M, Q, rfl⟩
  subst hus
  refine .eq (long_tree _ c sz bk T S M Q) ?_
  refine bi (fun h => rfl) (fun hg => bi (fun h => rfl) (fun hr => ?_))
  have hsz := metaG_low hg
  have hr := nf hr
  have hR := right_facts hsz.1 hsz.2.1 hr
  have hok2 := hok.2 [.agg (mCells c sz bk T S M Q)] (by kernel_rfl)
  have hC := hok2.1
  obtain ⟨hl, hL, k10, k11, k13, k14, k5, hsl, hml, hq⟩ := metaB_len hg hR (tab_sums hC.2.2.2.1) (shot_sums hC.2.2.2.2.1)
  have hb := hR.bk
  have k17 := countB_le T.list
  have s8 := hR.s8
  have m8 := hR.m8
  rw [i64_in (x := 13 + _) (by omega) (by omega), i64_in (x := countB T.list * 130) (by omega) (by omega), i64_in (x := 13 + _ + _) (by omega) (by omega)]
  simp only [Int.toNat_zero, List.drop_zero]
  refine ⟨⟨⟨by trivial, by trivial⟩, ⟨by trivial, by trivial, by trivial⟩, by trivial, by omega, by trivial, by omega, hsl, by omega, by omega⟩, ⟨⟨by trivial, by trivial⟩, ⟨by trivial, by trivial, by trivial⟩, by trivial, by omega, by trivial, by omega, hml, by omega, by omega⟩, ⟨⟨by trivial, by trivial⟩, ⟨by trivial, by trivial, by trivial⟩, by trivial, hq, by trivial, by omega, by omega, by omega⟩, hsz, ?_⟩
  rw [rmetaR_eq hsz.1 hsz.2.1] at hr
  unfold metaE metaX
  rw [hr, hL]
  refine bt rfl (bt ?_ rfl)
  simp only [cond_true, cond_false, decide_true]
  rw [hl]
  simp
end Go.Mat

/-
  TREES 22: are two metas one? Conditions: none.
-/
namespace Go.Mat
open Go Go.Den Go.Proofs
noncomputable def eqs1 (t : TypeId) : Option (List IntKind) := bif Nat.beq t 72 then some [.i64, .i64] else eqs0 t
def intsE : List U → List U → Bool
  | [], [] => true
  | x :: r, y :: s => (x.int == y.int) && intsE r s
  | _, _ => false
def spanE (x y : U) : Bool := (e0 x).int == (e0 y).int && ((e1 x).int == (e1 y).int && true)
def spansE : List U → List U → Bool
  | [], [] => true
  | x :: r, y :: s => spanE x y && spansE r s
  | _, _ => false
def entE (x y : U) : Bool := (e0 x).int == (e0 y).int && ((e1 x).int == (e1 y).int && ((e2 x).int == (e2 y).int && ((e3 x).int == (e3 y).int && ((e4 x).int == (e4 y).int && true))))
def entsE : List U → List U → Bool
  | [], [] => true
  | x :: r, y :: s => entE x y && entsE r s
  | _, _ => false
def tabE : List U → List U → Bool
  | [], [] => true
  | x :: r, y :: s => entsE x.list y.list && tabE r s
  | _, _ => false
def mapE (x y : U) : Bool := ((e0 x).str.toList == (e0 y).str.toList) && ((e1 x).bool == (e1 y).bool) && spansE (e2 x).list (e2 y).list
def mapsE : List U → List U → Bool
  | [], [] => true
  | x :: r, y :: s => mapE x y && mapsE r s
  | _, _ => false
def lists2 (f : List U → List U → Bool) : List (List U) → List (List U) := fun us => [[.b (f (nth (.i 0) (nth [] us 0) 0).list (nth (.i 0) (nth [] us 1) 0).list)]]
noncomputable def intsLoop : LoopF := fun _ svs _ k => match svs with
  | [.val (.int .i64) i, .val (.sl false [.int .i64]) a, .val (.sl false [.int .i64]) b] =>
    (a.list.length = b.list.length ∧ 0 ≤ i.int ∧ i.int ≤ a.list.length) ∧
    (bif intsE (a.list.drop i.int.toNat) (b.list.drop i.int.toNat) then k (.exit 0) ⟨[(4, .unk)], []⟩ else k .ret ⟨[(4, vb (.b false))], []⟩)
  | _ => False
noncomputable def intsC : Ctx := mkC PR eqs1 fnsNil trsNil (loopCons 0 [5, 0, 1] [] intsLoop noLoops) (outCons 0 [4] [] noOut) noOut
theorem ints_round (pan : KP) (μ : Mu) (N : Nat) (k : KE) (i a b : U) : (exec (intsC.panics pan) (loopBody Try.f38 0) 0 ⟨[(5, vi i), (0, vl (.int .i64) a), (1, vl (.int .i64) b)], []⟩ (again PR (some ([4], [])) none pan [5, 0, 1] [] intsLoop μ N k)) = (bif decide (U.int i < (↑(List.length (U.list a)) : Int)) then bif decide ((0 : Int) ≤ U.int i ∧ U.int i < (↑(List.length (U.list a)) : Int)) then bif decide ((0 : Int) ≤ U.int i ∧ U.int i < (↑(List.length 
  (U.list b)) : Int)) then bif U.int (nth (U.i (0 : Int)) (U.list a) (Int.toNat (U.int i))) != U.int (nth (U.i (0 : Int)) (U.list b) (Int.toNat (U.int i))) then k Ex.ret (St.mk [(nat_lit 4, SV.val Ct.bool 
  (U.b false))] []) else bif Nat.blt (μ [SV.val (Ct.int IntKind.i64) (U.i (IntKind.wrap IntKind.i64 (U.int i + (1 : Int)))), SV.val (Ct.sl false [Ct.int IntKind.i64]) a, SV.val (Ct.sl false [Ct.int IntKind.i64]) 
  b] []) N then (List.length (U.list a) = List.length (U.list b) ∧ (0 : Int) ≤ IntKind.wrap IntKind.i64 (U.int i + (1 : Int)) ∧ IntKind.wrap IntKind.i64 (U.int i + (1 : Int)) ≤ (↑(List.length (U.list a)) 
  : Int)) ∧ bif intsE (List.drop (Int.toNat (IntKind.wrap IntKind.i64 (U.int i + (1 : Int)))) (U.list a)) (List.drop (Int.toNat (IntKind.wrap IntKind.i64 (U.int i + (1 : Int)))) (U.list b)) then k (Ex.exit 
  (nat_lit 0)) (St.mk [(nat_lit 4, SV.unk)] []) else k Ex.ret (St.mk [(nat_lit 4, SV.val Ct.bool (U.b false))] []) else False else False else False else k (Ex.exit (nat_lit 0)) (St.mk [(nat_lit 4, SV.unk)] 
  [])) := by kernel_rfl
theorem ints_tree (R : RF) (a b : U) : (run intsC Try.f38 [[a], [b]] R) = (bif (↑(List.length (U.list a)) : Int) != (↑(List.length (U.list b)) : Int) then R [[U.b false]] else (List.length (U.list a) = List.length (U.list b) ∧ (0 : Int) ≤ (0 : Int) ∧ (0 : Int) ≤ (↑(List.length 
  (U.list a)) : Int)) ∧ bif intsE (List.drop (Int.toNat (0 : Int)) (U.list a)) (List.drop (Int.toNat (0 : Int)) (U.list b)) then R [[U.b true]] else R [[U.b false]]) := by kernel_rfl
noncomputable def spsLoop : LoopF := fun _ svs _ k => match svs with
  | [.val (.int .i64) i, .val (.sl true ca) a, .val (.sl true cb) b] =>
    (ca = SpC ∧ cb = SpC ∧ a.list.length = b.list.length ∧ 0 ≤ i.int ∧ i.int ≤ a.list.length) ∧
    (bif spansE (a.list.drop i.int.toNat) (b.list.drop i.int.toNat) then k (.exit 0) ⟨[(4, .unk)], []⟩ else k .ret ⟨[(4, vb (.b false))], []⟩)
  | _ => False
noncomputable def spsC : Ctx := mkC PR eqs1 fnsNil trsNil (loopCons 0 [5, 0, 1] [] spsLoop noLoops) (outCons 0 [4] [] noOut) noOut
theorem sps_round (pan : KP) (μ : Mu) (N : Nat) (k : KE) (i a b : U) : (exec (spsC.panics pan) (loopBody Try.f56 0) 0 ⟨[(5, vi i), (0, vt SpC a), (1, vt SpC b)], []⟩ (again PR (some ([4], [])) none pan [5, 0, 1] [] spsLoop μ N k)) = (bif decide (U.int i < (↑(List.length (U.list a)) : Int)) then bif decide ((0 : Int) ≤ U.int i ∧ U.int i < (↑(List.length (U.list a)) : Int)) then bif decide ((0 : Int) ≤ U.int i ∧ U.int i < (↑(List.length 
  (U.list b)) : Int)) then bif !(U.int (nth (U.i (0 : Int)) (U.list (nth (U.i (0 : Int)) (U.list a) (Int.toNat (U.int i)))) (0 : Nat)) == U.int (nth (U.i (0 : Int)) (U.list (nth (U.i (0 : Int)) (U.list b) 
  (Int.toNat (U.int i)))) (0 : Nat)) && (U.int (nth (U.i (0 : Int)) (List.tail (U.list (nth (U.i (0 : Int)) (U.list a) (Int.toNat (U.int i))))) (0 : Nat)) == U.int (nth (U.i (0 : Int)) (List.tail (U.list 
  (nth (U.i (0 : Int)) (U.list b) (Int.toNat (U.int i))))) (0 : Nat)) && true)) then k Ex.ret (St.mk [(nat_lit 4, SV.val Ct.bool (U.b false))] []) else bif Nat.blt (μ [SV.val (Ct.int IntKind.i64) (U.i (IntKind.wrap 
  IntKind.i64 (U.int i + (1 : Int)))), SV.val (Ct.sl true [Ct.int IntKind.i64, Ct.int IntKind.i64]) a, SV.val (Ct.sl true [Ct.int IntKind.i64, Ct.int IntKind.i64]) b] []) N then ([Ct.int IntKind.i64, Ct.int 
  IntKind.i64] = [Ct.int IntKind.i64, Ct.int IntKind.i64] ∧ [Ct.int IntKind.i64, Ct.int IntKind.i64] = [Ct.int IntKind.i64, Ct.int IntKind.i64] ∧ List.length (U.list a) = List.length (U.list b) ∧ (0 : Int) 
  ≤ IntKind.wrap IntKind.i64 (U.int i + (1 : Int)) ∧ IntKind.wrap IntKind.i64 (U.int i + (1 : Int)) ≤ (↑(List.length (U.list a)) : Int)) ∧ bif spansE (List.drop (Int.toNat (IntKind.wrap IntKind.i64 (U.int 
  i + (1 : Int)))) (U.list a)) (List.drop (Int.toNat (IntKind.wrap IntKind.i64 (U.int i + (1 : Int)))) (U.list b)) then k (Ex.exit (nat_lit 0)) (St.mk [(nat_lit 4, SV.unk)] []) else k Ex.ret (St.mk [(nat_lit 
  4, SV.val Ct.bool (U.b false))] []) else False else False else False else k (Ex.exit (nat_lit 0)) (St.mk [(nat_lit 4, SV.unk)] [])) := by kernel_rfl
theorem sps_tree (R : RF) (a b : U) : (run spsC Try.f56 [[a], [b]] R) = (bif (↑(List.length (U.list a)) : Int) != (↑(List.length (U.list b)) : Int) then R [[U.b false]] else ([Ct.int IntKind.i64, Ct.int IntKind.i64] = [Ct.int IntKind.i64, Ct.int IntKind.i64] ∧ [Ct.int IntKind.i64, 
  Ct.int IntKind.i64] = [Ct.int IntKind.i64, Ct.int IntKind.i64] ∧ List.length (U.list a) = List.length (U.list b) ∧ (0 : Int) ≤ (0 : Int) ∧ (0 : Int) ≤ (↑(List.length (U.list a)) : Int)) ∧ bif spansE (List.drop 
  (Int.toNat (0 : Int)) (U.list a)) (List.drop (Int.toNat (0 : Int)) (U.list b)) then R [[U.b true]] else R [[U.b false]]) := by kernel_rfl
noncomputable def mpsLoop : LoopF := fun _ svs _ k => match svs with
  | [.val (.int .i64) i, .val (.sl true ca) a, .val (.sl true cb) b] =>
    (ca = BC ∧ cb = BC ∧ a.list.length = b.list.length ∧ 0 ≤ i.int ∧ i.int ≤ a.list.length) ∧
    (bif mapsE (a.list.drop i.int.toNat) (b.list.drop i.int.toNat) then k (.exit 0) ⟨[(4, .unk)], []⟩ else k .ret ⟨[(4, vb (.b false))], []⟩)
  | _ => False
noncomputable def mpsC : Ctx := mkC PR eqs1 (fnsCons 56 (lists2 spansE) fnsNil) trsNil (loopCons 0 [5, 0, 1] [] mpsLoop noLoops) (outCons 0 [4] [] noOut) noOut
theorem mps_round (pan : KP) (μ : Mu) (N : Nat) (k : KE) (i a b : U) : (exec (mpsC.panics pan) (loopBody Try.f37 0) 0 ⟨[(5, vi i), (0, vt BC a), (1, vt BC b)], []⟩ (again PR (some ([4], [])) none pan [5, 0, 1] [] mpsLoop μ N k)) = (bif decide (U.int i < (↑(List.length (U.list a)) : Int)) then bif decide ((0 : Int) ≤ U.int i ∧ U.int i < (↑(List.length (U.list a)) : Int)) then bif decide ((0 : Int) ≤ U.int i ∧ U.int i < (↑(List.length 
  (U.list b)) : Int)) then bif !ByteArray.toList (U.str (nth (U.i (0 : Int)) (List.drop (0 : Nat) (U.list (nth (U.i (0 : Int)) (U.list a) (Int.toNat (U.int i))))) (0 : Nat))) == ByteArray.toList (U.str (nth 
  (U.i (0 : Int)) (List.drop (0 : Nat) (U.list (nth (U.i (0 : Int)) (U.list b) (Int.toNat (U.int i))))) (0 : Nat))) then k Ex.ret (St.mk [(nat_lit 4, SV.val Ct.bool (U.b false))] []) else bif decide ((0 
  : Int) ≤ U.int i ∧ U.int i < (↑(List.length (U.list a)) : Int)) then bif decide ((0 : Int) ≤ U.int i ∧ U.int i < (↑(List.length (U.list b)) : Int)) then bif !U.bool (nth (U.i (0 : Int)) (List.drop (1 : 
  Nat) (U.list (nth (U.i (0 : Int)) (U.list a) (Int.toNat (U.int i))))) (0 : Nat)) == U.bool (nth (U.i (0 : Int)) (List.drop (1 : Nat) (U.list (nth (U.i (0 : Int)) (U.list b) (Int.toNat (U.int i))))) (0 
  : Nat)) then k Ex.ret (St.mk [(nat_lit 4, SV.val Ct.bool (U.b false))] []) else bif decide ((0 : Int) ≤ U.int i ∧ U.int i < (↑(List.length (U.list a)) : Int)) then bif decide ((0 : Int) ≤ U.int i ∧ U.int 
  i < (↑(List.length (U.list b)) : Int)) then bif !spansE (U.list (nth (U.i (0 : Int)) (List.drop (2 : Nat) (U.list (nth (U.i (0 : Int)) (U.list a) (Int.toNat (U.int i))))) (0 : Nat))) (U.list (nth (U.i 
  (0 : Int)) (List.drop (2 : Nat) (U.list (nth (U.i (0 : Int)) (U.list b) (Int.toNat (U.int i))))) (0 : Nat))) then k Ex.ret (St.mk [(nat_lit 4, SV.val Ct.bool (U.b false))] []) else bif Nat.blt (μ [SV.val 
  (Ct.int IntKind.i64) (U.i (IntKind.wrap IntKind.i64 (U.int i + (1 : Int)))), SV.val (Ct.sl true [Ct.str, Ct.bool, Ct.sl true [Ct.int IntKind.i64, Ct.int IntKind.i64]]) a, SV.val (Ct.sl true [Ct.str, Ct.bool, 
  Ct.sl true [Ct.int IntKind.i64, Ct.int IntKind.i64]]) b] []) N then ([Ct.str, Ct.bool, Ct.sl true [Ct.int IntKind.i64, Ct.int IntKind.i64]] = [Ct.str, Ct.bool, Ct.sl true [Ct.int IntKind.i64, Ct.int IntKind.i64]] 
  ∧ [Ct.str, Ct.bool, Ct.sl true [Ct.int IntKind.i64, Ct.int IntKind.i64]] = [Ct.str, Ct.bool, Ct.sl true [Ct.int IntKind.i64, Ct.int IntKind.i64]] ∧ List.length (U.list a) = List.length (U.list b) ∧ (0 
  : Int) ≤ IntKind.wrap IntKind.i64 (U.int i + (1 : Int)) ∧ IntKind.wrap IntKind.i64 (U.int i + (1 : Int)) ≤ (↑(List.length (U.list a)) : Int)) ∧ bif mapsE (List.drop (Int.toNat (IntKind.wrap IntKind.i64 
  (U.int i + (1 : Int)))) (U.list a)) (List.drop (Int.toNat (IntKind.wrap IntKind.i64 (U.int i + (1 : Int)))) (U.list b)) then k (Ex.exit (nat_lit 0)) (St.mk [(nat_lit 4, SV.unk)] []) else k Ex.ret (St.mk 
  [(nat_lit 4, SV.val Ct.bool (U.b false))] []) else False else False else False else False else False else False else False else k (Ex.exit (nat_lit 0)) (St.mk [(nat_lit 4, SV.unk)] [])) := by kernel_rfl
theorem mps_tree (R : RF) (a b : U) : (run mpsC Try.f37 [[a], [b]] R) = (bif (↑(List.length (U.list a)) : Int) != (↑(List.length (U.list b)) : Int) then R [[U.b false]] else ([Ct.str, Ct.bool, Ct.sl true [Ct.int IntKind.i64, Ct.int IntKind.i64]] = [Ct.str, Ct.bool, Ct.sl true 
  [Ct.int IntKind.i64, Ct.int IntKind.i64]] ∧ [Ct.str, Ct.bool, Ct.sl true [Ct.int IntKind.i64, Ct.int IntKind.i64]] = [Ct.str, Ct.bool, Ct.sl true [Ct.int IntKind.i64, Ct.int IntKind.i64]] ∧ List.length 
  (U.list a) = List.length (U.list b) ∧ (0 : Int) ≤ (0 : Int) ∧ (0 : Int) ≤ (↑(List.length (U.list a)) : Int)) ∧ bif mapsE (List.drop (Int.toNat (0 : Int)) (U.list a)) (List.drop (Int.toNat (0 : Int)) (U.list 
  b)) then R [[U.b true]] else R [[U.b false]]) := by kernel_rfl
noncomputable def tabELoop2 : LoopF := fun _ svs os k => match svs, os with
  | [.val (.int .i64) j, .val (.int .i64) i, .ptr p o, .ptr p' o'], [.box [.val (.sl false [.sl true ca]) a], .box [.val (.sl false [.sl true cb]) b]] =>
    (p = 256 ∧ o = 0 ∧ p' = 384 ∧ o' = 0 ∧ ca = EC ∧ cb = EC ∧ 0 ≤ i.int ∧ i.int < a.list.length ∧ i.int < b.list.length ∧ (U.at a.list i.int.toNat).list.length = (U.at b.list i.int.toNat).list.length ∧ 0 ≤ j.int ∧ j.int ≤ (U.at a.list i.int.toNat).list.length) ∧
    (bif entsE ((U.at a.list i.int.toNat).list.drop j.int.toNat) ((U.at b.list i.int.toNat).list.drop j.int.toNat) then k (.exit 2) ⟨[(5, vi i), (2, .ptr 256 0), (3, .ptr 384 0)], [(256, .box [vl (.sl true EC) a]), (384, .box [vl (.sl true EC) b])]⟩ else k .ret ⟨[(4, vb (.b false))], []⟩)
  | _, _ => False
noncomputable def tabELoop0 : LoopF := fun _ svs os k => match svs, os with
  | [.val (.int .i64) i, .ptr p o, .ptr p' o'], [.box [.val (.sl false [.sl true ca]) a], .box [.val (.sl false [.sl true cb]) b]] =>
    (p = 256 ∧ o = 0 ∧ p' = 384 ∧ o' = 0 ∧ ca = EC ∧ cb = EC ∧ a.list.length = b.list.length ∧ 0 ≤ i.int ∧ i.int ≤ a.list.length) ∧
    (bif tabE (a.list.drop i.int.toNat) (b.list.drop i.int.toNat) then k (.exit 0) ⟨[(4, .unk)], []⟩ else k .ret ⟨[(4, vb (.b false))], []⟩)
  | _, _ => False
noncomputable def tabEC : Ctx := mkC PR eqs1 fnsNil trsNil (loopCons 2 [6, 5, 2, 3] [256, 384] tabELoop2 (loopCons 0 [5, 2, 3] [256, 384] tabELoop0 noLoops)) (outCons 2 [5, 2, 3] [256, 384] (outCons 0 [4] [] (outCons 1048578 [4] [] noOut))) noOut
theorem tabE_round2 (pan : KP) (μ : Mu) (N : Nat) (k : KE) (j i a b : U) : (exec (tabEC.panics pan) (loopBody Try.f36 1) 2 ⟨[(6, vi j), (5, vi i), (2, .ptr 256 0), (3, .ptr 384 0)], [(256, .box [vl (.sl true EC) a]), (384, .box [vl (.sl true EC) b])]⟩ (again PR (some ([5, 2, 3], [256, 384])) (some ([4], [])) pan [6, 5, 2, 3] [256, 384] tabELoop2 μ N k)) = (bif decide ((0 : Int) ≤ U.int i ∧ U.int i < (↑(List.length (U.list a)) : Int)) then bif decide (U.int j < (↑(List.length (U.list (nth (U.i (0 : Int)) (U.list a) (Int.toNat (U.int i))))) : Int)) then bif 
  decide ((0 : Int) ≤ U.int i ∧ U.int i < (↑(List.length (U.list a)) : Int)) then bif decide ((0 : Int) ≤ U.int j ∧ U.int j < (↑(List.length (U.list (nth (U.i (0 : Int)) (U.list a) (Int.toNat (U.int i))))) 
  : Int)) then bif decide ((0 : Int) ≤ U.int i ∧ U.int i < (↑(List.length (U.list b)) : Int)) then bif decide ((0 : Int) ≤ U.int j ∧ U.int j < (↑(List.length (U.list (nth (U.i (0 : Int)) (U.list b) (Int.toNat 
  (U.int i))))) : Int)) then bif !(U.int (nth (U.i (0 : Int)) (U.list (nth (U.i (0 : Int)) (U.list (nth (U.i (0 : Int)) (U.list a) (Int.toNat (U.int i)))) (Int.toNat (U.int j)))) (0 : Nat)) == U.int (nth 
  (U.i (0 : Int)) (U.list (nth (U.i (0 : Int)) (U.list (nth (U.i (0 : Int)) (U.list b) (Int.toNat (U.int i)))) (Int.toNat (U.int j)))) (0 : Nat)) && (U.int (nth (U.i (0 : Int)) (List.tail (U.list (nth (U.i 
  (0 : Int)) (U.list (nth (U.i (0 : Int)) (U.list a) (Int.toNat (U.int i)))) (Int.toNat (U.int j))))) (0 : Nat)) == U.int (nth (U.i (0 : Int)) (List.tail (U.list (nth (U.i (0 : Int)) (U.list (nth (U.i (0 
  : Int)) (U.list b) (Int.toNat (U.int i)))) (Int.toNat (U.int j))))) (0 : Nat)) && (U.int (nth (U.i (0 : Int)) (List.tail (List.tail (U.list (nth (U.i (0 : Int)) (U.list (nth (U.i (0 : Int)) (U.list a) 
  (Int.toNat (U.int i)))) (Int.toNat (U.int j)))))) (0 : Nat)) == U.int (nth (U.i (0 : Int)) (List.tail (List.tail (U.list (nth (U.i (0 : Int)) (U.list (nth (U.i (0 : Int)) (U.list b) (Int.toNat (U.int i)))) 
  (Int.toNat (U.int j)))))) (0 : Nat)) && (U.int (nth (U.i (0 : Int)) (List.tail (List.tail (List.tail (U.list (nth (U.i (0 : Int)) (U.list (nth (U.i (0 : Int)) (U.list a) (Int.toNat (U.int i)))) (Int.toNat 
  (U.int j))))))) (0 : Nat)) == U.int (nth (U.i (0 : Int)) (List.tail (List.tail (List.tail (U.list (nth (U.i (0 : Int)) (U.list (nth (U.i (0 : Int)) (U.list b) (Int.toNat (U.int i)))) (Int.toNat (U.int 
  j))))))) (0 : Nat)) && (U.int (nth (U.i (0 : Int)) (List.tail (List.tail (List.tail (List.tail (U.list (nth (U.i (0 : Int)) (U.list (nth (U.i (0 : Int)) (U.list a) (Int.toNat (U.int i)))) (Int.toNat (U.int 
  j)))))))) (0 : Nat)) == U.int (nth (U.i (0 : Int)) (List.tail (List.tail (List.tail (List.tail (U.list (nth (U.i (0 : Int)) (U.list (nth (U.i (0 : Int)) (U.list b) (Int.toNat (U.int i)))) (Int.toNat (U.int 
  j)))))))) (0 : Nat)) && true))))) then k Ex.ret (St.mk [(nat_lit 4, SV.val Ct.bool (U.b false))] []) else bif Nat.blt (μ [SV.val (Ct.int IntKind.i64) (U.i (IntKind.wrap IntKind.i64 (U.int j + (1 : Int)))), 
  SV.val (Ct.int IntKind.i64) i, SV.ptr (nat_lit 256) (nat_lit 0), SV.ptr (nat_lit 384) (nat_lit 0)] [Obj.box [SV.val (Ct.sl false [Ct.sl true [Ct.int IntKind.i64, Ct.int IntKind.i64, Ct.int IntKind.i64, 
  Ct.int IntKind.i64, Ct.int IntKind.u32]]) a], Obj.box [SV.val (Ct.sl false [Ct.sl true [Ct.int IntKind.i64, Ct.int IntKind.i64, Ct.int IntKind.i64, Ct.int IntKind.i64, Ct.int IntKind.u32]]) b]]) N then 
  (nat_lit 256 = nat_lit 256 ∧ nat_lit 0 = nat_lit 0 ∧ nat_lit 384 = nat_lit 384 ∧ nat_lit 0 = nat_lit 0 ∧ [Ct.int IntKind.i64, Ct.int IntKind.i64, Ct.int IntKind.i64, Ct.int IntKind.i64, Ct.int IntKind.u32] 
  = [Ct.int IntKind.i64, Ct.int IntKind.i64, Ct.int IntKind.i64, Ct.int IntKind.i64, Ct.int IntKind.u32] ∧ [Ct.int IntKind.i64, Ct.int IntKind.i64, Ct.int IntKind.i64, Ct.int IntKind.i64, Ct.int IntKind.u32] 
  = [Ct.int IntKind.i64, Ct.int IntKind.i64, Ct.int IntKind.i64, Ct.int IntKind.i64, Ct.int IntKind.u32] ∧ (0 : Int) ≤ U.int i ∧ U.int i < (↑(List.length (U.list a)) : Int) ∧ U.int i < (↑(List.length (U.list 
  b)) : Int) ∧ List.length (U.list (nth (U.i (0 : Int)) (U.list a) (Int.toNat (U.int i)))) = List.length (U.list (nth (U.i (0 : Int)) (U.list b) (Int.toNat (U.int i)))) ∧ (0 : Int) ≤ IntKind.wrap IntKind.i64 
  (U.int j + (1 : Int)) ∧ IntKind.wrap IntKind.i64 (U.int j + (1 : Int)) ≤ (↑(List.length (U.list (nth (U.i (0 : Int)) (U.list a) (Int.toNat (U.int i))))) : Int)) ∧ bif entsE (List.drop (Int.toNat (IntKind.wrap 
  IntKind.i64 (U.int j + (1 : Int)))) (U.list (nth (U.i (0 : Int)) (U.list a) (Int.toNat (U.int i))))) (List.drop (Int.toNat (IntKind.wrap IntKind.i64 (U.int j + (1 : Int)))) (U.list (nth (U.i (0 : Int)) 
  (U.list b) (Int.toNat (U.int i))))) then k (Ex.exit (nat_lit 2)) (St.mk [(nat_lit 5, SV.val (Ct.int IntKind.i64) i), (nat_lit 2, SV.ptr (nat_lit 256) (nat_lit 0)), (nat_lit 3, SV.ptr (nat_lit 384) (nat_lit 
  0))] [(nat_lit 256, Obj.box [SV.val (Ct.sl false [Ct.sl true [Ct.int IntKind.i64, Ct.int IntKind.i64, Ct.int IntKind.i64, Ct.int IntKind.i64, Ct.int IntKind.u32]]) a]), (nat_lit 384, Obj.box [SV.val (Ct.sl 
  false [Ct.sl true [Ct.int IntKind.i64, Ct.int IntKind.i64, Ct.int IntKind.i64, Ct.int IntKind.i64, Ct.int IntKind.u32]]) b])]) else k Ex.ret (St.mk [(nat_lit 4, SV.val Ct.bool (U.b false))] []) else False 
  else False else False else False else False else k (Ex.exit (nat_lit 2)) (St.mk [(nat_lit 5, SV.val (Ct.int IntKind.i64) i), (nat_lit 2, SV.ptr (nat_lit 256) (nat_lit 0)), (nat_lit 3, SV.ptr (nat_lit 384) 
  (nat_lit 0))] [(nat_lit 256, Obj.box [SV.val (Ct.sl false [Ct.sl true [Ct.int IntKind.i64, Ct.int IntKind.i64, Ct.int IntKind.i64, Ct.int IntKind.i64, Ct.int IntKind.u32]]) a]), (nat_lit 384, Obj.box [SV.val 
  (Ct.sl false [Ct.sl true [Ct.int IntKind.i64, Ct.int IntKind.i64, Ct.int IntKind.i64, Ct.int IntKind.i64, Ct.int IntKind.u32]]) b])]) else False) := by kernel_rfl
theorem tabE_round0 (pan : KP) (μ : Mu) (N : Nat) (k : KE) (i a b : U) : (exec (tabEC.panics pan) (loopBody Try.f36 0) 0 ⟨[(5, vi i), (2, .ptr 256 0), (3, .ptr 384 0)], [(256, .box [vl (.sl true EC) a]), (384, .box [vl (.sl true EC) b])]⟩ (again PR (some ([4], [])) none pan [5, 2, 3] [256, 384] tabELoop0 μ N k)) = (bif decide (U.int i < (↑(List.length (U.list a)) : Int)) then bif decide ((0 : Int) ≤ U.int i ∧ U.int i < (↑(List.length (U.list a)) : Int)) then bif decide ((0 : Int) ≤ U.int i ∧ U.int i < (↑(List.length 
  (U.list b)) : Int)) then bif (↑(List.length (U.list (nth (U.i (0 : Int)) (U.list a) (Int.toNat (U.int i))))) : Int) != (↑(List.length (U.list (nth (U.i (0 : Int)) (U.list b) (Int.toNat (U.int i))))) : 
  Int) then k Ex.ret (St.mk [(nat_lit 4, SV.val Ct.bool (U.b false))] []) else (nat_lit 256 = nat_lit 256 ∧ nat_lit 0 = nat_lit 0 ∧ nat_lit 384 = nat_lit 384 ∧ nat_lit 0 = nat_lit 0 ∧ [Ct.int IntKind.i64, 
  Ct.int IntKind.i64, Ct.int IntKind.i64, Ct.int IntKind.i64, Ct.int IntKind.u32] = [Ct.int IntKind.i64, Ct.int IntKind.i64, Ct.int IntKind.i64, Ct.int IntKind.i64, Ct.int IntKind.u32] ∧ [Ct.int IntKind.i64, 
  Ct.int IntKind.i64, Ct.int IntKind.i64, Ct.int IntKind.i64, Ct.int IntKind.u32] = [Ct.int IntKind.i64, Ct.int IntKind.i64, Ct.int IntKind.i64, Ct.int IntKind.i64, Ct.int IntKind.u32] ∧ (0 : Int) ≤ U.int 
  i ∧ U.int i < (↑(List.length (U.list a)) : Int) ∧ U.int i < (↑(List.length (U.list b)) : Int) ∧ List.length (U.list (nth (U.i (0 : Int)) (U.list a) (Int.toNat (U.int i)))) = List.length (U.list (nth (U.i 
  (0 : Int)) (U.list b) (Int.toNat (U.int i)))) ∧ (0 : Int) ≤ (0 : Int) ∧ (0 : Int) ≤ (↑(List.length (U.list (nth (U.i (0 : Int)) (U.list a) (Int.toNat (U.int i))))) : Int)) ∧ bif entsE (List.drop (Int.toNat 
  (0 : Int)) (U.list (nth (U.i (0 : Int)) (U.list a) (Int.toNat (U.int i))))) (List.drop (Int.toNat (0 : Int)) (U.list (nth (U.i (0 : Int)) (U.list b) (Int.toNat (U.int i))))) then bif Nat.blt (μ [SV.val 
  (Ct.int IntKind.i64) (U.i (IntKind.wrap IntKind.i64 (U.int i + (1 : Int)))), SV.ptr (nat_lit 256) (nat_lit 0), SV.ptr (nat_lit 384) (nat_lit 0)] [Obj.box [SV.val (Ct.sl false [Ct.sl true [Ct.int IntKind.i64, 
  Ct.int IntKind.i64, Ct.int IntKind.i64, Ct.int IntKind.i64, Ct.int IntKind.u32]]) a], Obj.box [SV.val (Ct.sl false [Ct.sl true [Ct.int IntKind.i64, Ct.int IntKind.i64, Ct.int IntKind.i64, Ct.int IntKind.i64, 
  Ct.int IntKind.u32]]) b]]) N then (nat_lit 256 = nat_lit 256 ∧ nat_lit 0 = nat_lit 0 ∧ nat_lit 384 = nat_lit 384 ∧ nat_lit 0 = nat_lit 0 ∧ [Ct.int IntKind.i64, Ct.int IntKind.i64, Ct.int IntKind.i64, Ct.int 
  IntKind.i64, Ct.int IntKind.u32] = [Ct.int IntKind.i64, Ct.int IntKind.i64, Ct.int IntKind.i64, Ct.int IntKind.i64, Ct.int IntKind.u32] ∧ [Ct.int IntKind.i64, Ct.int IntKind.i64, Ct.int IntKind.i64, Ct.int 
  IntKind.i64, Ct.int IntKind.u32] = [Ct.int IntKind.i64, Ct.int IntKind.i64, Ct.int IntKind.i64, Ct.int IntKind.i64, Ct.int IntKind.u32] ∧ List.length (U.list a) = List.length (U.list b) ∧ (0 : Int) ≤ IntKind.wrap 
  IntKind.i64 (U.int i + (1 : Int)) ∧ IntKind.wrap IntKind.i64 (U.int i + (1 : Int)) ≤ (↑(List.length (U.list a)) : Int)) ∧ bif tabE (List.drop (Int.toNat (IntKind.wrap IntKind.i64 (U.int i + (1 : Int)))) 
  (U.list a)) (List.drop (Int.toNat (IntKind.wrap IntKind.i64 (U.int i + (1 : Int)))) (U.list b)) then k (Ex.exit (nat_lit 0)) (St.mk [(nat_lit 4, SV.unk)] []) else k Ex.ret (St.mk [(nat_lit 4, SV.val Ct.bool 
  (U.b false))] []) else False else k Ex.ret (St.mk [(nat_lit 4, SV.val Ct.bool (U.b false))] []) else False else False else k (Ex.exit (nat_lit 0)) (St.mk [(nat_lit 4, SV.unk)] [])) := by kernel_rfl
theorem tabE_tree (R : RF) (a b : U) : (run tabEC Try.f36 [[a], [b]] R) = (bif (↑(List.length (U.list a)) : Int) != (↑(List.length (U.list b)) : Int) then R [[U.b false]] else (nat_lit 256 = nat_lit 256 ∧ nat_lit 0 = nat_lit 0 ∧ nat_lit 384 = nat_lit 384 ∧ nat_lit 0 = nat_lit 
  0 ∧ [Ct.int IntKind.i64, Ct.int IntKind.i64, Ct.int IntKind.i64, Ct.int IntKind.i64, Ct.int IntKind.u32] = [Ct.int IntKind.i64, Ct.int IntKind.i64, Ct.int IntKind.i64, Ct.int IntKind.i64, Ct.int IntKind.u32] 
  ∧ [Ct.int IntKind.i64, Ct.int IntKind.i64, Ct.int IntKind.i64, Ct.int IntKind.i64, Ct.int IntKind.u32] = [Ct.int IntKind.i64, Ct.int IntKind.i64, Ct.int IntKind.i64, Ct.int IntKind.i64, Ct.int IntKind.u32] 
  ∧ List.length (U.list a) = List.length (U.list b) ∧ (0 : Int) ≤ (0 : Int) ∧ (0 : Int) ≤ (↑(List.length (U.list a)) : Int)) ∧ bif tabE (List.drop (Int.toNat (0 : Int)) (U.list a)) (List.drop (Int.toNat 
  (0 : Int)) (U.list b)) then R [[U.b true]] else R [[U.b false]]) := by kernel_rfl
end Go.Mat

/-
  WALKS 22: are two lists, tables one? Conditions: none.
-/
namespace Go.Mat
open Go Go.Den Go.Proofs

theorem eqs1_ok : ∀ t ks, eqs1 t = some ks → EqOk PR t ks := by
  intro t ks h
  unfold eqs1 at h
  cases hb : Nat.beq t 72 with
  | true =>
    rw [hb] at h
    have := Nat.eq_of_beq_eq_true hb
    subst this
    injection h with h
    subst h
    exact eq_ok (by kernel_rfl)
  | false => rw [hb] at h; exact eqs0_ok t ks h
theorem intsE_len : ∀ {a b : List U}, intsE a b = true → a.length = b.length
  | [], [], _ => rfl
  | [], _ :: _, h => by cases h
  | _ :: _, [], h => by cases h
  | x :: r, y :: s, h => by
    rw [intsE, Bool.and_eq_true] at h
    rw [List.length_cons, List.length_cons, intsE_len h.2]
theorem intsE_ne {a b : List U} (h : a.length ≠ b.length) : intsE a b = false := Bool.eq_false_iff.2 fun h' => h (intsE_len h')
theorem spansE_len : ∀ {a b : List U}, spansE a b = true → a.length = b.length
  | [], [], _ => rfl
  | [], _ :: _, h => by cases h
  | _ :: _, [], h => by cases h
  | x :: r, y :: s, h => by
    rw [spansE, Bool.and_eq_true] at h
    rw [List.length_cons, List.length_cons, spansE_len h.2]
theorem spansE_ne {a b : List U} (h : a.length ≠ b.length) : spansE a b = false := Bool.eq_false_iff.2 fun h' => h (spansE_len h')
theorem mapsE_len : ∀ {a b : List U}, mapsE a b = true → a.length = b.length
  | [], [], _ => rfl
  | [], _ :: _, h => by cases h
  | _ :: _, [], h => by cases h
  | x :: r, y :: s, h => by
    rw [mapsE, Bool.and_eq_true] at h
    rw [List.length_cons, List.length_cons, mapsE_len h.2]
theorem mapsE_ne {a b : List U} (h : a.length ≠ b.length) : mapsE a b = false := Bool.eq_false_iff.2 fun h' => h (mapsE_len h')
theorem tabE_len : ∀ {a b : List U}, tabE a b = true → a.length = b.length
  | [], [], _ => rfl
  | [], _ :: _, h => by cases h
  | _ :: _, [], h => by cases h
  | x :: r, y :: s, h => by
    rw [tabE, Bool.and_eq_true] at h
    rw [List.length_cons, List.length_cons, tabE_len h.2]
theorem tabE_ne {a b : List U} (h : a.length ≠ b.length) : tabE a b = false := Bool.eq_false_iff.2 fun h' => h (tabE_len h')
theorem entsE_len : ∀ {a b : List U}, entsE a b = true → a.length = b.length
  | [], [], _ => rfl
  | [], _ :: _, h => by cases h
  | _ :: _, [], h => by cases h
  | x :: r, y :: s, h => by
    rw [entsE, Bool.and_eq_true] at h
    rw [List.length_cons, List.length_cons, entsE_len h.2]
theorem entsE_ne {a b : List U} (h : a.length ≠ b.length) : entsE a b = false := Bool.eq_false_iff.2 fun h' => h (entsE_len h')
theorem ints_loop : LoopOk intsC 0 (loopBody Try.f38 0) := by
  refine loopOk_of (F := intsLoop) (ts := [5, 0, 1]) (os := []) rfl (fun svs _ => match svs with | .val _ i :: .val _ a :: _ => ((a.list.length : Int) - i.int).toNat | _ => 0) ?_
  intro pan svs os k ho1 ho2 h
  unfold intsLoop at h
  split at h
  · rename_i i a b
    obtain ⟨⟨hl, h0, hi⟩, hk⟩ := h
    have hL : a.list.length ≤ maxLen := ho1.2.1.1
    unfold maxLen at hL
    refine .eq (ints_round pan _ _ k i a b) ?_
    refine bd (fun hlt => dt ⟨h0, by omega⟩ (dt ⟨h0, by omega⟩ ?_)) (fun hlt => ?_)
    · rw [drop_at (by omega), drop_at (L := b.list) (by omega), intsE] at hk
      simp only [U.at] at hk
      have hw : IntKind.wrap .i64 (i.int + 1) = i.int + 1 := i64_in (by omega) (by omega)
      have hc : (i.int + 1).toNat = i.int.toNat + 1 := by omega
      have hlt' : ((a.list.length : Int) - (i.int + 1)).toNat < ((a.list.length : Int) - i.int).toNat := by omega
      simp only [nth_tail, nth_drop, Nat.zero_add, Nat.add_zero, Nat.reduceAdd, hw, hc]
      refine bi (fun h1 => ?_) (fun h1 => ?_)
      · rw [nt h1, Bool.false_and] at hk; exact hk
      · rw [nf h1, Bool.true_and] at hk
        exact blt hlt' ⟨⟨hl, by omega, by omega⟩, hk⟩
    · rw [List.drop_of_length_le (by omega), List.drop_of_length_le (by omega), intsE] at hk
      exact hk
  · exact h.elim
theorem sps_loop : LoopOk spsC 0 (loopBody Try.f56 0) := by
  refine loopOk_of (F := spsLoop) (ts := [5, 0, 1]) (os := []) rfl (fun svs _ => match svs with | .val _ i :: .val _ a :: _ => ((a.list.length : Int) - i.int).toNat | _ => 0) ?_
  intro pan svs os k ho1 ho2 h
  unfold spsLoop at h
  split at h
  · rename_i i ca a cb b
    obtain ⟨⟨rfl, rfl, hl, h0, hi⟩, hk⟩ := h
    have hL : a.list.length ≤ maxLen := ho1.2.1.1
    unfold maxLen at hL
    refine .eq (sps_round pan _ _ k i a b) ?_
    refine bd (fun hlt => dt ⟨h0, by omega⟩ (dt ⟨h0, by omega⟩ ?_)) (fun hlt => ?_)
    · rw [drop_at (by omega), drop_at (L := b.list) (by omega), spansE] at hk
      simp only [U.at, spanE, e0, e1] at hk
      have hw : IntKind.wrap .i64 (i.int + 1) = i.int + 1 := i64_in (by omega) (by omega)
      have hc : (i.int + 1).toNat = i.int.toNat + 1 := by omega
      have hlt' : ((a.list.length : Int) - (i.int + 1)).toNat < ((a.list.length : Int) - i.int).toNat := by omega
      simp only [nth_tail, nth_drop, Nat.zero_add, Nat.add_zero, Nat.reduceAdd, hw, hc]
      refine bi (fun h1 => ?_) (fun h1 => ?_)
      · rw [nt h1, Bool.false_and] at hk; exact hk
      · rw [nf h1, Bool.true_and] at hk
        exact blt hlt' ⟨⟨by trivial, by trivial, hl, by omega, by omega⟩, hk⟩
    · rw [List.drop_of_length_le (by omega), List.drop_of_length_le (by omega), spansE] at hk
      exact hk
  · exact h.elim
theorem mps_loop : LoopOk mpsC 0 (loopBody Try.f37 0) := by
  refine loopOk_of (F := mpsLoop) (ts := [5, 0, 1]) (os := []) rfl (fun svs _ => match svs with | .val _ i :: .val _ a :: _ => ((a.list.length : Int) - i.int).toNat | _ => 0) ?_
  intro pan svs os k ho1 ho2 h
  unfold mpsLoop at h
  split at h
  · rename_i i ca a cb b
    obtain ⟨⟨rfl, rfl, hl, h0, hi⟩, hk⟩ := h
    have hL : a.list.length ≤ maxLen := ho1.2.1.1
    unfold maxLen at hL
    refine .eq (mps_round pan _ _ k i a b) ?_
    refine bd (fun hlt => dt ⟨h0, by omega⟩ (dt ⟨h0, by omega⟩ ?_)) (fun hlt => ?_)
    · rw [drop_at (by omega), drop_at (L := b.list) (by omega), mapsE] at hk
      simp only [U.at, mapE, e0, e1, e2] at hk
      have hw : IntKind.wrap .i64 (i.int + 1) = i.int + 1 := i64_in (by omega) (by omega)
      have hc : (i.int + 1).toNat = i.int.toNat + 1 := by omega
      have hlt' : ((a.list.length : Int) - (i.int + 1)).toNat < ((a.list.length : Int) - i.int).toNat := by omega
      simp only [nth_tail, nth_drop, Nat.zero_add, Nat.add_zero, Nat.reduceAdd, hw, hc]
      refine bi (fun h1 => ?_) (fun h1 => dt ⟨h0, by omega⟩ (dt ⟨h0, by omega⟩ (bi (fun h2 => ?_) (fun h2 => dt ⟨h0, by omega⟩ (dt ⟨h0, by omega⟩ (bi (fun h3 => ?_) (fun h3 => ?_)))))))
      · rw [nt h1, Bool.false_and, Bool.false_and, Bool.false_and] at hk; exact hk
      · rw [nf h1, nt h2, Bool.true_and, Bool.false_and, Bool.false_and] at hk; exact hk
      · rw [nf h1, nf h2, nt h3, Bool.true_and, Bool.true_and, Bool.false_and] at hk; exact hk
      · rw [nf h1, nf h2, nf h3, Bool.true_and, Bool.true_and, Bool.true_and] at hk
        exact blt hlt' ⟨⟨by trivial, by trivial, hl, by omega, by omega⟩, hk⟩
    · rw [List.drop_of_length_le (by omega), List.drop_of_length_le (by omega), mapsE] at hk
      exact hk
  · exact h.elim
theorem ints_ok : SpecF PR 38 (lists2 intsE) := fun fn us hfn => by
  have hf : PR.funcs[(38 : Nat)]? = some Try.f38 := by kernel_rfl
  rw [hf] at hfn; cases hfn
  refine fn_okH (C := intsC) (mkC_ok eqs1_ok mixed_ok .nil .nil) hf (by kernel_rfl) (loops_one (by kernel_rfl) ints_loop) fun hok => ?_
  have hp : Try.f38.params.toList = [27, 27] := by kernel_rfl
  rw [hp] at hok
  obtain ⟨a, b, hus⟩ : ∃ a b, us = [[a], [b]] := by
    obtain ⟨u, u2, rfl, h1, h2⟩ := shape2 (by kernel_rfl : Cs PR 27 = some (false, [.sl false [.int .i64]])) (by kernel_rfl : Cs PR 27 = some (false, [.sl false [.int .i64]])) hok.1
    obtain ⟨a, rfl⟩ := len1 h1
    obtain ⟨b, rfl⟩ := len1 h2
    exact ⟨a, b, rfl⟩
  subst hus
  refine .eq (ints_tree _ a b) ?_
  unfold lists2
  simp only [nth_zero, nth_succ, Int.toNat_zero, List.drop_zero]
  refine bi (fun h => ?_) (fun h => ⟨⟨?_, by omega, by omega⟩, bi (fun h1 => by rw [h1]) (fun h1 => by rw [h1])⟩)
  · have h := nt h
    rw [intsE_ne (by intro h2; rw [h2] at h; simp at h)]
  · have h := nf h
    simp only [beq_iff_eq] at h
    omega
theorem sps_ok : SpecF PR 56 (lists2 spansE) := fun fn us hfn => by
  have hf : PR.funcs[(56 : Nat)]? = some Try.f56 := by kernel_rfl
  rw [hf] at hfn; cases hfn
  refine fn_okH (C := spsC) (mkC_ok eqs1_ok mixed_ok .nil .nil) hf (by kernel_rfl) (loops_one (by kernel_rfl) sps_loop) fun hok => ?_
  have hp : Try.f56.params.toList = [42, 42] := by kernel_rfl
  rw [hp] at hok
  obtain ⟨a, b, hus⟩ : ∃ a b, us = [[a], [b]] := by
    obtain ⟨u, u2, rfl, h1, h2⟩ := shape2 (by kernel_rfl : Cs PR 42 = some (false, [.sl true [.int .i64, .int .i64]])) (by kernel_rfl : Cs PR 42 = some (false, [.sl true [.int .i64, .int .i64]])) hok.1
    obtain ⟨a, rfl⟩ := len1 h1
    obtain ⟨b, rfl⟩ := len1 h2
    exact ⟨a, b, rfl⟩
  subst hus
  refine .eq (sps_tree _ a b) ?_
  unfold lists2
  simp only [nth_zero, nth_succ, Int.toNat_zero, List.drop_zero]
  refine bi (fun h => ?_) (fun h => ⟨⟨by trivial, by trivial, ?_, by omega, by omega⟩, bi (fun h1 => by rw [h1]) (fun h1 => by rw [h1])⟩)
  · have h := nt h
    rw [spansE_ne (by intro h2; rw [h2] at h; simp at h)]
  · have h := nf h
    simp only [beq_iff_eq] at h
    omega
theorem mps_ok : SpecF PR 37 (lists2 mapsE) := fun fn us hfn => by
  have hf : PR.funcs[(37 : Nat)]? = some Try.f37 := by kernel_rfl
  rw [hf] at hfn; cases hfn
  refine fn_okH (C := mpsC) (mkC_ok eqs1_ok mixed_ok (.cons sps_ok .nil) .nil) hf (by kernel_rfl) (loops_one (by kernel_rfl) mps_loop) fun hok => ?_
  have hp : Try.f37.params.toList = [26, 26] := by kernel_rfl
  rw [hp] at hok
  obtain ⟨a, b, hus⟩ : ∃ a b, us = [[a], [b]] := by
    obtain ⟨u, u2, rfl, h1, h2⟩ := shape2 (by kernel_rfl : Cs PR 26 = some (false, [.sl true BC])) (by kernel_rfl : Cs PR 26 = some (false, [.sl true BC])) hok.1
    obtain ⟨a, rfl⟩ := len1 h1
    obtain ⟨b, rfl⟩ := len1 h2
    exact ⟨a, b, rfl⟩
  subst hus
  refine .eq (mps_tree _ a b) ?_
  unfold lists2
  simp only [nth_zero, nth_succ, Int.toNat_zero, List.drop_zero]
  refine bi (fun h => ?_) (fun h => ⟨⟨by trivial, by trivial, ?_, by omega, by omega⟩, bi (fun h1 => by rw [h1]) (fun h1 => by rw [h1])⟩)
  · have h := nt h
    rw [mapsE_ne (by intro h2; rw [h2] at h; simp at h)]
  · have h := nf h
    simp only [beq_iff_eq] at h
    omega

theorem tabE_loop2 : LoopOk tabEC 2 (loopBody Try.f36 1) := by
  refine loopOk_of (F := tabELoop2) (ts := [6, 5, 2, 3]) (os := [256, 384]) rfl (fun svs os => match svs, os with | .val _ j :: .val _ i :: _, .box [.val _ a] :: _ => (((U.at a.list i.int.toNat).list.length : Int) - j.int).toNat | _, _ => 0) ?_
  intro pan svs os k ho1 ho2 h
  unfold tabELoop2 at h
  split at h
  · rename_i j i p o p' o' ca a cb b
    obtain ⟨⟨rfl, rfl, rfl, rfl, rfl, rfl, hi0, hia, hib, hl, h0, hj⟩, hk⟩ := h
    have ha : okC (.sl false [.sl true EC]) a := ho2.1.1
    have hL : (U.at a.list i.int.toNat).list.length ≤ maxLen := by
      have h1 := (ha.2 i.int.toNat (by omega)).1
      exact h1.1
    unfold maxLen at hL
    refine .eq (tabE_round2 pan _ _ k j i a b) ?_
    simp only [U.at] at hl hj hL hk
    refine dt ⟨hi0, hia⟩ (bd (fun hlt => dt ⟨hi0, hia⟩ (dt ⟨h0, hlt⟩ (dt ⟨hi0, hib⟩ (dt ⟨h0, by omega⟩ ?_)))) (fun hlt => ?_))
    · rw [drop_at (by omega), drop_at (L := (nth (U.i 0) b.list i.int.toNat).list) (by omega), entsE] at hk
      simp only [U.at, entE, e0, e1, e2, e3, e4] at hk
      have hw : IntKind.wrap .i64 (j.int + 1) = j.int + 1 := i64_in (by omega) (by omega)
      have hc : (j.int + 1).toNat = j.int.toNat + 1 := by omega
      have hlt' : (((nth (U.i 0) a.list i.int.toNat).list.length : Int) - (j.int + 1)).toNat < (((nth (U.i 0) a.list i.int.toNat).list.length : Int) - j.int).toNat := by omega
      simp only [nth_tail, nth_drop, Nat.zero_add, Nat.add_zero, Nat.reduceAdd, hw, hc]
      refine bi (fun h1 => ?_) (fun h1 => ?_)
      · rw [nt h1, Bool.false_and] at hk; exact hk
      · rw [nf h1, Bool.true_and] at hk
        exact blt hlt' ⟨⟨by trivial, by trivial, by trivial, by trivial, by trivial, by trivial, hi0, hia, hib, hl, by omega, by omega⟩, hk⟩
    · rw [List.drop_of_length_le (by omega), List.drop_of_length_le (by omega), entsE] at hk
      exact hk
  · exact h.elim
theorem tabE_loop0 : LoopOk tabEC 0 (loopBody Try.f36 0) := by
  refine loopOk_of (F := tabELoop0) (ts := [5, 2, 3]) (os := [256, 384]) rfl (fun svs os => match svs, os with | .val _ i :: _, .box [.val _ a] :: _ => ((a.list.length : Int) - i.int).toNat | _, _ => 0) ?_
  intro pan svs os k ho1 ho2 h
  unfold tabELoop0 at h
  split at h
  · rename_i i p o p' o' ca a cb b
    obtain ⟨⟨rfl, rfl, rfl, rfl, rfl, rfl, hl, h0, hi⟩, hk⟩ := h
    have hL : a.list.length ≤ maxLen := ho2.1.1.1
    unfold maxLen at hL
    refine .eq (tabE_round0 pan _ _ k i a b) ?_
    refine bd (fun hlt => dt ⟨h0, by omega⟩ (dt ⟨h0, by omega⟩ ?_)) (fun hlt => ?_)
    · rw [drop_at (by omega), drop_at (L := b.list) (by omega), tabE] at hk
      simp only [U.at] at hk
      have hw : IntKind.wrap .i64 (i.int + 1) = i.int + 1 := i64_in (by omega) (by omega)
      have hc : (i.int + 1).toNat = i.int.toNat + 1 := by omega
      have hlt' : ((a.list.length : Int) - (i.int + 1)).toNat < ((a.list.length : Int) - i.int).toNat := by omega
      simp only [hw, hc, Int.toNat_zero, List.drop_zero]
      refine bi (fun h1 => ?_) (fun h1 => ?_)
      · have h1 := nt h1
        rw [entsE_ne (by intro h2; rw [h2] at h1; simp at h1), Bool.false_and] at hk
        exact hk
      · have h1 := nf h1
        simp only [beq_iff_eq] at h1
        refine ⟨⟨by trivial, by trivial, by trivial, by trivial, by trivial, by trivial, h0, by omega, by omega, by omega, by omega, by omega⟩, bi (fun h2 => ?_) (fun h2 => ?_)⟩
        · rw [h2, Bool.true_and] at hk
          exact blt hlt' ⟨⟨by trivial, by trivial, by trivial, by trivial, by trivial, by trivial, hl, by omega, by omega⟩, hk⟩
        · rw [h2, Bool.false_and] at hk
          exact hk
    · rw [List.drop_of_length_le (by omega), List.drop_of_length_le (by omega), tabE] at hk
      exact hk
  · exact h.elim
theorem tabE_ok : SpecF PR 36 (lists2 tabE) := fun fn us hfn => by
  have hf : PR.funcs[(36 : Nat)]? = some Try.f36 := by kernel_rfl
  rw [hf] at hfn; cases hfn
  refine fn_okH (C := tabEC) (mkC_ok eqs1_ok mixed_ok .nil .nil) hf (by kernel_rfl) (loops_two (by kernel_rfl) tabE_loop0 tabE_loop2) fun hok => ?_
  have hp : Try.f36.params.toList = [24, 24] := by kernel_rfl
  rw [hp] at hok
  obtain ⟨a, b, hus⟩ : ∃ a b, us = [[a], [b]] := by
    obtain ⟨u, u2, rfl, h1, h2⟩ := shape2 (by kernel_rfl : Cs PR 24 = some (true, [.sl false [.sl true [.int .i64, .int .i64, .int .i64, .int .i64, .int .u32]]])) (by kernel_rfl : Cs PR 24 = some (true, [.sl false [.sl true [.int .i64, .int .i64, .int .i64, .int .i64, .int .u32]]])) hok.1
    obtain ⟨a, rfl⟩ := len1 h1
    obtain ⟨b, rfl⟩ := len1 h2
    exact ⟨a, b, rfl⟩
  subst hus
  refine .eq (tabE_tree _ a b) ?_
  unfold lists2
  simp only [nth_zero, nth_succ, Int.toNat_zero, List.drop_zero]
  refine bi (fun h => ?_) (fun h => ⟨⟨by trivial, by trivial, by trivial, by trivial, by trivial, by trivial, ?_, by omega, by omega⟩, bi (fun h1 => by rw [h1]) (fun h1 => by rw [h1])⟩)
  · have h := nt h
    rw [tabE_ne (by intro h2; rw [h2] at h; simp at h)]
  · have h := nf h
    simp only [beq_iff_eq] at h
    omega

end Go.Mat

/-
  TREES 23: are two metas one? The law of unlike metas. Conditions: none.
-/
namespace Go.Mat
open Go Go.Den Go.Proofs
def shotE (x y : U) : Bool := ((e0 x).str.toList == (e0 y).str.toList) && ((e1 x).int == (e1 y).int) && tabE (e2 x).list (e2 y).list
def shotsE : List U → List U → Bool
  | [], [] => true
  | x :: r, y :: s => shotE x y && shotsE r s
  | _, _ => false
def metaEq (c sz bk T S M Q c' sz' bk' T' S' M' Q' : U) : Bool := (c.int == c'.int) && (sz.int == sz'.int) && (bk.str.toList == bk'.str.toList) && tabE T.list T'.list && mapsE M.list M'.list && intsE Q.list Q'.list && shotsE S.list S'.list
def sameS : List (List U) → List (List U) := fun us => [[.b (metaEq (nth (.i 0) (nth [] us 0) 0) (nth (.i 0) (nth [] us 0) 1) (nth (.i 0) (nth [] us 0) 2) (nth (.i 0) (nth [] us 0) 3) (nth (.i 0) (nth [] us 0) 4) (nth (.i 0) (nth [] us 0) 5) (nth (.i 0) (nth [] us 0) 6)
  (nth (.i 0) (nth [] us 1) 0) (nth (.i 0) (nth [] us 1) 1) (nth (.i 0) (nth [] us 1) 2) (nth (.i 0) (nth [] us 1) 3) (nth (.i 0) (nth [] us 1) 4) (nth (.i 0) (nth [] us 1) 5) (nth (.i 0) (nth [] us 1) 6))]]
noncomputable def sameLoop : LoopF := fun _ svs os k => match svs with
  | [.val (.int .i64) i, .ptr p o, .ptr p' o'] => match os with
    | [.box [.val (.int .i64) _, .val (.int .i64) _, .val .str _, .val (.sl false [.sl true x1]) _, .val (.sl true x2) S, .val (.sl true x3) _, .val (.sl false [.int .i64]) _], .box [.val (.int .i64) _, .val (.int .i64) _, .val .str _, .val (.sl false [.sl true y1]) _, .val (.sl true y2) S', .val (.sl true y3) _, .val (.sl false [.int .i64]) _]] =>
      ((p = 256 ∧ o = 0 ∧ p' = 384 ∧ o' = 0) ∧ (x1 = EC ∧ x2 = SC ∧ x3 = BC) ∧ (y1 = EC ∧ y2 = SC ∧ y3 = BC) ∧ S.list.length = S'.list.length ∧ 0 ≤ i.int ∧ i.int ≤ S.list.length) ∧
      (bif shotsE (S.list.drop i.int.toNat) (S'.list.drop i.int.toNat) then k (.exit 0) ⟨[(4, .unk)], []⟩ else k .ret ⟨[(4, vb (.b false))], []⟩)
    | _ => False
  | _ => False
noncomputable def sameC : Ctx := mkC PR eqs1 (fnsCons 36 (lists2 tabE) (fnsCons 37 (lists2 mapsE) (fnsCons 38 (lists2 intsE) fnsNil))) trsNil (loopCons 0 [5, 2, 3] [256, 384] sameLoop noLoops) (outCons 0 [4] [] noOut) noOut
theorem same_round_alt (pan : KP) (μ : Mu) (N : Nat) (k : KE) (i c sz bk T S M Q c' sz' bk' T' S' M' Q' : U) : (exec (sameC.panics pan) (loopBody Try.f17 0) 0 ⟨[(5, vi i), (2, .ptr 256 0), (3, .ptr 384 0)], [(256, .box (mCells c sz bk T S M Q)), (384, .box (mCells c' sz' bk' T' S' M' Q'))]⟩ (again PR (some ([4], [])) none pan [5, 2, 3] [256, 384] sameLoop μ N k)) = (bif decide (U.int i < (↑(List.length (U.list S)) : Int)) then Alt (bif decide ((0 : Int) ≤ U.int i ∧ U.int i < (↑(List.length (U.list S)) : Int)) then Alt (bif decide ((0 : Int) ≤ U.int i ∧ U.int i < (↑(List.length 
  (U.list S')) : Int)) then (fun T => Alt T T) (bif !ByteArray.toList (U.str (nth (U.i (0 : Int)) (U.list (nth (U.i (0 : Int)) (U.list S) (Int.toNat (U.int i)))) (0 : Nat))) == ByteArray.toList (U.str (nth 
  (U.i (0 : Int)) (U.list (nth (U.i (0 : Int)) (U.list S') (Int.toNat (U.int i)))) (0 : Nat))) then k Ex.ret (St.mk [(nat_lit 4, SV.val Ct.bool (U.b false))] []) else bif U.int (nth (U.i (0 : Int)) (List.tail 
  (U.list (nth (U.i (0 : Int)) (U.list S) (Int.toNat (U.int i))))) (0 : Nat)) != U.int (nth (U.i (0 : Int)) (List.tail (U.list (nth (U.i (0 : Int)) (U.list S') (Int.toNat (U.int i))))) (0 : Nat)) then k 
  Ex.ret (St.mk [(nat_lit 4, SV.val Ct.bool (U.b false))] []) else bif !tabE (U.list (nth (U.i (0 : Int)) (List.tail (List.tail (U.list (nth (U.i (0 : Int)) (U.list S) (Int.toNat (U.int i)))))) (0 : Nat))) 
  (U.list (nth (U.i (0 : Int)) (List.tail (List.tail (U.list (nth (U.i (0 : Int)) (U.list S') (Int.toNat (U.int i)))))) (0 : Nat))) then k Ex.ret (St.mk [(nat_lit 4, SV.val Ct.bool (U.b false))] []) else 
  bif Nat.blt (μ [SV.val (Ct.int IntKind.i64) (U.i (IntKind.wrap IntKind.i64 (U.int i + (1 : Int)))), SV.ptr (nat_lit 256) (nat_lit 0), SV.ptr (nat_lit 384) (nat_lit 0)] [Obj.box [SV.val (Ct.int IntKind.i64) 
  c, SV.val (Ct.int IntKind.i64) sz, SV.val Ct.str bk, SV.val (Ct.sl false [Ct.sl true [Ct.int IntKind.i64, Ct.int IntKind.i64, Ct.int IntKind.i64, Ct.int IntKind.i64, Ct.int IntKind.u32]]) T, SV.val (Ct.sl 
  true [Ct.str, Ct.int IntKind.i64, Ct.sl false [Ct.sl true [Ct.int IntKind.i64, Ct.int IntKind.i64, Ct.int IntKind.i64, Ct.int IntKind.i64, Ct.int IntKind.u32]]]) S, SV.val (Ct.sl true [Ct.str, Ct.bool, 
  Ct.sl true [Ct.int IntKind.i64, Ct.int IntKind.i64]]) M, SV.val (Ct.sl false [Ct.int IntKind.i64]) Q], Obj.box [SV.val (Ct.int IntKind.i64) c', SV.val (Ct.int IntKind.i64) sz', SV.val Ct.str bk', SV.val 
  (Ct.sl false [Ct.sl true [Ct.int IntKind.i64, Ct.int IntKind.i64, Ct.int IntKind.i64, Ct.int IntKind.i64, Ct.int IntKind.u32]]) T', SV.val (Ct.sl true [Ct.str, Ct.int IntKind.i64, Ct.sl false [Ct.sl true 
  [Ct.int IntKind.i64, Ct.int IntKind.i64, Ct.int IntKind.i64, Ct.int IntKind.i64, Ct.int IntKind.u32]]]) S', SV.val (Ct.sl true [Ct.str, Ct.bool, Ct.sl true [Ct.int IntKind.i64, Ct.int IntKind.i64]]) M', 
  SV.val (Ct.sl false [Ct.int IntKind.i64]) Q']]) N then ((nat_lit 256 = nat_lit 256 ∧ nat_lit 0 = nat_lit 0 ∧ nat_lit 384 = nat_lit 384 ∧ nat_lit 0 = nat_lit 0) ∧ ([Ct.int IntKind.i64, Ct.int IntKind.i64, 
  Ct.int IntKind.i64, Ct.int IntKind.i64, Ct.int IntKind.u32] = [Ct.int IntKind.i64, Ct.int IntKind.i64, Ct.int IntKind.i64, Ct.int IntKind.i64, Ct.int IntKind.u32] ∧ [Ct.str, Ct.int IntKind.i64, Ct.sl false 
  [Ct.sl true [Ct.int IntKind.i64, Ct.int IntKind.i64, Ct.int IntKind.i64, Ct.int IntKind.i64, Ct.int IntKind.u32]]] = [Ct.str, Ct.int IntKind.i64, Ct.sl false [Ct.sl true [Ct.int IntKind.i64, Ct.int IntKind.i64, 
  Ct.int IntKind.i64, Ct.int IntKind.i64, Ct.int IntKind.u32]]] ∧ [Ct.str, Ct.bool, Ct.sl true [Ct.int IntKind.i64, Ct.int IntKind.i64]] = [Ct.str, Ct.bool, Ct.sl true [Ct.int IntKind.i64, Ct.int IntKind.i64]]) 
  ∧ ([Ct.int IntKind.i64, Ct.int IntKind.i64, Ct.int IntKind.i64, Ct.int IntKind.i64, Ct.int IntKind.u32] = [Ct.int IntKind.i64, Ct.int IntKind.i64, Ct.int IntKind.i64, Ct.int IntKind.i64, Ct.int IntKind.u32] 
  ∧ [Ct.str, Ct.int IntKind.i64, Ct.sl false [Ct.sl true [Ct.int IntKind.i64, Ct.int IntKind.i64, Ct.int IntKind.i64, Ct.int IntKind.i64, Ct.int IntKind.u32]]] = [Ct.str, Ct.int IntKind.i64, Ct.sl false 
  [Ct.sl true [Ct.int IntKind.i64, Ct.int IntKind.i64, Ct.int IntKind.i64, Ct.int IntKind.i64, Ct.int IntKind.u32]]] ∧ [Ct.str, Ct.bool, Ct.sl true [Ct.int IntKind.i64, Ct.int IntKind.i64]] = [Ct.str, Ct.bool, 
  Ct.sl true [Ct.int IntKind.i64, Ct.int IntKind.i64]]) ∧ List.length (U.list S) = List.length (U.list S') ∧ (0 : Int) ≤ IntKind.wrap IntKind.i64 (U.int i + (1 : Int)) ∧ IntKind.wrap IntKind.i64 (U.int i 
  + (1 : Int)) ≤ (↑(List.length (U.list S)) : Int)) ∧ bif shotsE (List.drop (Int.toNat (IntKind.wrap IntKind.i64 (U.int i + (1 : Int)))) (U.list S)) (List.drop (Int.toNat (IntKind.wrap IntKind.i64 (U.int 
  i + (1 : Int)))) (U.list S')) then k (Ex.exit (nat_lit 0)) (St.mk [(nat_lit 4, SV.unk)] []) else k Ex.ret (St.mk [(nat_lit 4, SV.val Ct.bool (U.b false))] []) else False) else False) ((fun T => Alt (Alt 
  T (Alt T T)) (Alt T (Alt T T))) (bif decide ((0 : Int) ≤ U.int i ∧ U.int i < (↑(List.length (U.list S')) : Int)) then bif !ByteArray.toList (U.str (nth (U.i (0 : Int)) (U.list (nth (U.i (0 : Int)) (U.list 
  S) (Int.toNat (U.int i)))) (0 : Nat))) == ByteArray.toList (U.str (nth (U.i (0 : Int)) (U.list (nth (U.i (0 : Int)) (U.list S') (Int.toNat (U.int i)))) (0 : Nat))) then k Ex.ret (St.mk [(nat_lit 4, SV.val 
  Ct.bool (U.b false))] []) else bif U.int (nth (U.i (0 : Int)) (List.tail (U.list (nth (U.i (0 : Int)) (U.list S) (Int.toNat (U.int i))))) (0 : Nat)) != U.int (nth (U.i (0 : Int)) (List.tail (U.list (nth 
  (U.i (0 : Int)) (U.list S') (Int.toNat (U.int i))))) (0 : Nat)) then k Ex.ret (St.mk [(nat_lit 4, SV.val Ct.bool (U.b false))] []) else bif !tabE (U.list (nth (U.i (0 : Int)) (List.tail (List.tail (U.list 
  (nth (U.i (0 : Int)) (U.list S) (Int.toNat (U.int i)))))) (0 : Nat))) (U.list (nth (U.i (0 : Int)) (List.tail (List.tail (U.list (nth (U.i (0 : Int)) (U.list S') (Int.toNat (U.int i)))))) (0 : Nat))) then 
  k Ex.ret (St.mk [(nat_lit 4, SV.val Ct.bool (U.b false))] []) else bif Nat.blt (μ [SV.val (Ct.int IntKind.i64) (U.i (IntKind.wrap IntKind.i64 (U.int i + (1 : Int)))), SV.ptr (nat_lit 256) (nat_lit 0), 
  SV.ptr (nat_lit 384) (nat_lit 0)] [Obj.box [SV.val (Ct.int IntKind.i64) c, SV.val (Ct.int IntKind.i64) sz, SV.val Ct.str bk, SV.val (Ct.sl false [Ct.sl true [Ct.int IntKind.i64, Ct.int IntKind.i64, Ct.int 
  IntKind.i64, Ct.int IntKind.i64, Ct.int IntKind.u32]]) T, SV.val (Ct.sl true [Ct.str, Ct.int IntKind.i64, Ct.sl false [Ct.sl true [Ct.int IntKind.i64, Ct.int IntKind.i64, Ct.int IntKind.i64, Ct.int IntKind.i64, 
  Ct.int IntKind.u32]]]) S, SV.val (Ct.sl true [Ct.str, Ct.bool, Ct.sl true [Ct.int IntKind.i64, Ct.int IntKind.i64]]) M, SV.val (Ct.sl false [Ct.int IntKind.i64]) Q], Obj.box [SV.val (Ct.int IntKind.i64) 
  c', SV.val (Ct.int IntKind.i64) sz', SV.val Ct.str bk', SV.val (Ct.sl false [Ct.sl true [Ct.int IntKind.i64, Ct.int IntKind.i64, Ct.int IntKind.i64, Ct.int IntKind.i64, Ct.int IntKind.u32]]) T', SV.val 
  (Ct.sl true [Ct.str, Ct.int IntKind.i64, Ct.sl false [Ct.sl true [Ct.int IntKind.i64, Ct.int IntKind.i64, Ct.int IntKind.i64, Ct.int IntKind.i64, Ct.int IntKind.u32]]]) S', SV.val (Ct.sl true [Ct.str, 
  Ct.bool, Ct.sl true [Ct.int IntKind.i64, Ct.int IntKind.i64]]) M', SV.val (Ct.sl false [Ct.int IntKind.i64]) Q']]) N then ((nat_lit 256 = nat_lit 256 ∧ nat_lit 0 = nat_lit 0 ∧ nat_lit 384 = nat_lit 384 
  ∧ nat_lit 0 = nat_lit 0) ∧ ([Ct.int IntKind.i64, Ct.int IntKind.i64, Ct.int IntKind.i64, Ct.int IntKind.i64, Ct.int IntKind.u32] = [Ct.int IntKind.i64, Ct.int IntKind.i64, Ct.int IntKind.i64, Ct.int IntKind.i64, 
  Ct.int IntKind.u32] ∧ [Ct.str, Ct.int IntKind.i64, Ct.sl false [Ct.sl true [Ct.int IntKind.i64, Ct.int IntKind.i64, Ct.int IntKind.i64, Ct.int IntKind.i64, Ct.int IntKind.u32]]] = [Ct.str, Ct.int IntKind.i64, 
  Ct.sl false [Ct.sl true [Ct.int IntKind.i64, Ct.int IntKind.i64, Ct.int IntKind.i64, Ct.int IntKind.i64, Ct.int IntKind.u32]]] ∧ [Ct.str, Ct.bool, Ct.sl true [Ct.int IntKind.i64, Ct.int IntKind.i64]] = 
  [Ct.str, Ct.bool, Ct.sl true [Ct.int IntKind.i64, Ct.int IntKind.i64]]) ∧ ([Ct.int IntKind.i64, Ct.int IntKind.i64, Ct.int IntKind.i64, Ct.int IntKind.i64, Ct.int IntKind.u32] = [Ct.int IntKind.i64, Ct.int 
  IntKind.i64, Ct.int IntKind.i64, Ct.int IntKind.i64, Ct.int IntKind.u32] ∧ [Ct.str, Ct.int IntKind.i64, Ct.sl false [Ct.sl true [Ct.int IntKind.i64, Ct.int IntKind.i64, Ct.int IntKind.i64, Ct.int IntKind.i64, 
  Ct.int IntKind.u32]]] = [Ct.str, Ct.int IntKind.i64, Ct.sl false [Ct.sl true [Ct.int IntKind.i64, Ct.int IntKind.i64, Ct.int IntKind.i64, Ct.int IntKind.i64, Ct.int IntKind.u32]]] ∧ [Ct.str, Ct.bool, Ct.sl 
  true [Ct.int IntKind.i64, Ct.int IntKind.i64]] = [Ct.str, Ct.bool, Ct.sl true [Ct.int IntKind.i64, Ct.int IntKind.i64]]) ∧ List.length (U.list S) = List.length (U.list S') ∧ (0 : Int) ≤ IntKind.wrap IntKind.i64 
  (U.int i + (1 : Int)) ∧ IntKind.wrap IntKind.i64 (U.int i + (1 : Int)) ≤ (↑(List.length (U.list S)) : Int)) ∧ bif shotsE (List.drop (Int.toNat (IntKind.wrap IntKind.i64 (U.int i + (1 : Int)))) (U.list 
  S)) (List.drop (Int.toNat (IntKind.wrap IntKind.i64 (U.int i + (1 : Int)))) (U.list S')) then k (Ex.exit (nat_lit 0)) (St.mk [(nat_lit 4, SV.unk)] []) else k Ex.ret (St.mk [(nat_lit 4, SV.val Ct.bool (U.b 
  false))] []) else False else False)) else False) (Alt (bif decide ((0 : Int) ≤ U.int i ∧ U.int i < (↑(List.length (U.list S')) : Int)) then Alt (bif decide ((0 : Int) ≤ U.int i ∧ U.int i < (↑(List.length 
  (U.list S)) : Int)) then (fun T => Alt T T) (bif !ByteArray.toList (U.str (nth (U.i (0 : Int)) (U.list (nth (U.i (0 : Int)) (U.list S) (Int.toNat (U.int i)))) (0 : Nat))) == ByteArray.toList (U.str (nth 
  (U.i (0 : Int)) (U.list (nth (U.i (0 : Int)) (U.list S') (Int.toNat (U.int i)))) (0 : Nat))) then k Ex.ret (St.mk [(nat_lit 4, SV.val Ct.bool (U.b false))] []) else bif U.int (nth (U.i (0 : Int)) (List.tail 
  (U.list (nth (U.i (0 : Int)) (U.list S) (Int.toNat (U.int i))))) (0 : Nat)) != U.int (nth (U.i (0 : Int)) (List.tail (U.list (nth (U.i (0 : Int)) (U.list S') (Int.toNat (U.int i))))) (0 : Nat)) then k 
  Ex.ret (St.mk [(nat_lit 4, SV.val Ct.bool (U.b false))] []) else bif !tabE (U.list (nth (U.i (0 : Int)) (List.tail (List.tail (U.list (nth (U.i (0 : Int)) (U.list S) (Int.toNat (U.int i)))))) (0 : Nat))) 
  (U.list (nth (U.i (0 : Int)) (List.tail (List.tail (U.list (nth (U.i (0 : Int)) (U.list S') (Int.toNat (U.int i)))))) (0 : Nat))) then k Ex.ret (St.mk [(nat_lit 4, SV.val Ct.bool (U.b false))] []) else 
  bif Nat.blt (μ [SV.val (Ct.int IntKind.i64) (U.i (IntKind.wrap IntKind.i64 (U.int i + (1 : Int)))), SV.ptr (nat_lit 256) (nat_lit 0), SV.ptr (nat_lit 384) (nat_lit 0)] [Obj.box [SV.val (Ct.int IntKind.i64) 
  c, SV.val (Ct.int IntKind.i64) sz, SV.val Ct.str bk, SV.val (Ct.sl false [Ct.sl true [Ct.int IntKind.i64, Ct.int IntKind.i64, Ct.int IntKind.i64, Ct.int IntKind.i64, Ct.int IntKind.u32]]) T, SV.val (Ct.sl 
  true [Ct.str, Ct.int IntKind.i64, Ct.sl false [Ct.sl true [Ct.int IntKind.i64, Ct.int IntKind.i64, Ct.int IntKind.i64, Ct.int IntKind.i64, Ct.int IntKind.u32]]]) S, SV.val (Ct.sl true [Ct.str, Ct.bool, 
  Ct.sl true [Ct.int IntKind.i64, Ct.int IntKind.i64]]) M, SV.val (Ct.sl false [Ct.int IntKind.i64]) Q], Obj.box [SV.val (Ct.int IntKind.i64) c', SV.val (Ct.int IntKind.i64) sz', SV.val Ct.str bk', SV.val 
  (Ct.sl false [Ct.sl true [Ct.int IntKind.i64, Ct.int IntKind.i64, Ct.int IntKind.i64, Ct.int IntKind.i64, Ct.int IntKind.u32]]) T', SV.val (Ct.sl true [Ct.str, Ct.int IntKind.i64, Ct.sl false [Ct.sl true 
  [Ct.int IntKind.i64, Ct.int IntKind.i64, Ct.int IntKind.i64, Ct.int IntKind.i64, Ct.int IntKind.u32]]]) S', SV.val (Ct.sl true [Ct.str, Ct.bool, Ct.sl true [Ct.int IntKind.i64, Ct.int IntKind.i64]]) M', 
  SV.val (Ct.sl false [Ct.int IntKind.i64]) Q']]) N then ((nat_lit 256 = nat_lit 256 ∧ nat_lit 0 = nat_lit 0 ∧ nat_lit 384 = nat_lit 384 ∧ nat_lit 0 = nat_lit 0) ∧ ([Ct.int IntKind.i64, Ct.int IntKind.i64, 
  Ct.int IntKind.i64, Ct.int IntKind.i64, Ct.int IntKind.u32] = [Ct.int IntKind.i64, Ct.int IntKind.i64, Ct.int IntKind.i64, Ct.int IntKind.i64, Ct.int IntKind.u32] ∧ [Ct.str, Ct.int IntKind.i64, Ct.sl false 
  [Ct.sl true [Ct.int IntKind.i64, Ct.int IntKind.i64, Ct.int IntKind.i64, Ct.int IntKind.i64, Ct.int IntKind.u32]]] = [Ct.str, Ct.int IntKind.i64, Ct.sl false [Ct.sl true [Ct.int IntKind.i64, Ct.int IntKind.i64, 
  Ct.int IntKind.i64, Ct.int IntKind.i64, Ct.int IntKind.u32]]] ∧ [Ct.str, Ct.bool, Ct.sl true [Ct.int IntKind.i64, Ct.int IntKind.i64]] = [Ct.str, Ct.bool, Ct.sl true [Ct.int IntKind.i64, Ct.int IntKind.i64]]) 
  ∧ ([Ct.int IntKind.i64, Ct.int IntKind.i64, Ct.int IntKind.i64, Ct.int IntKind.i64, Ct.int IntKind.u32] = [Ct.int IntKind.i64, Ct.int IntKind.i64, Ct.int IntKind.i64, Ct.int IntKind.i64, Ct.int IntKind.u32] 
  ∧ [Ct.str, Ct.int IntKind.i64, Ct.sl false [Ct.sl true [Ct.int IntKind.i64, Ct.int IntKind.i64, Ct.int IntKind.i64, Ct.int IntKind.i64, Ct.int IntKind.u32]]] = [Ct.str, Ct.int IntKind.i64, Ct.sl false 
  [Ct.sl true [Ct.int IntKind.i64, Ct.int IntKind.i64, Ct.int IntKind.i64, Ct.int IntKind.i64, Ct.int IntKind.u32]]] ∧ [Ct.str, Ct.bool, Ct.sl true [Ct.int IntKind.i64, Ct.int IntKind.i64]] = [Ct.str, Ct.bool, 
  Ct.sl true [Ct.int IntKind.i64, Ct.int IntKind.i64]]) ∧ List.length (U.list S) = List.length (U.list S') ∧ (0 : Int) ≤ IntKind.wrap IntKind.i64 (U.int i + (1 : Int)) ∧ IntKind.wrap IntKind.i64 (U.int i 
  + (1 : Int)) ≤ (↑(List.length (U.list S)) : Int)) ∧ bif shotsE (List.drop (Int.toNat (IntKind.wrap IntKind.i64 (U.int i + (1 : Int)))) (U.list S)) (List.drop (Int.toNat (IntKind.wrap IntKind.i64 (U.int 
  i + (1 : Int)))) (U.list S')) then k (Ex.exit (nat_lit 0)) (St.mk [(nat_lit 4, SV.unk)] []) else k Ex.ret (St.mk [(nat_lit 4, SV.val Ct.bool (U.b false))] []) else False) else False) ((fun T => Alt (Alt 
  T T) (Alt T T)) (bif decide ((0 : Int) ≤ U.int i ∧ U.int i < (↑(List.length (U.list S)) : Int)) then bif !ByteArray.toList (U.str (nth (U.i (0 : Int)) (U.list (nth (U.i (0 : Int)) (U.list S) (Int.toNat 
  (U.int i)))) (0 : Nat))) == ByteArray.toList (U.str (nth (U.i (0 : Int)) (U.list (nth (U.i (0 : Int)) (U.list S') (Int.toNat (U.int i)))) (0 : Nat))) then k Ex.ret (St.mk [(nat_lit 4, SV.val Ct.bool (U.b 
  false))] []) else bif U.int (nth (U.i (0 : Int)) (List.tail (U.list (nth (U.i (0 : Int)) (U.list S) (Int.toNat (U.int i))))) (0 : Nat)) != U.int (nth (U.i (0 : Int)) (List.tail (U.list (nth (U.i (0 : Int)) 
  (U.list S') (Int.toNat (U.int i))))) (0 : Nat)) then k Ex.ret (St.mk [(nat_lit 4, SV.val Ct.bool (U.b false))] []) else bif !tabE (U.list (nth (U.i (0 : Int)) (List.tail (List.tail (U.list (nth (U.i (0 
  : Int)) (U.list S) (Int.toNat (U.int i)))))) (0 : Nat))) (U.list (nth (U.i (0 : Int)) (List.tail (List.tail (U.list (nth (U.i (0 : Int)) (U.list S') (Int.toNat (U.int i)))))) (0 : Nat))) then k Ex.ret 
  (St.mk [(nat_lit 4, SV.val Ct.bool (U.b false))] []) else bif Nat.blt (μ [SV.val (Ct.int IntKind.i64) (U.i (IntKind.wrap IntKind.i64 (U.int i + (1 : Int)))), SV.ptr (nat_lit 256) (nat_lit 0), SV.ptr (nat_lit 
  384) (nat_lit 0)] [Obj.box [SV.val (Ct.int IntKind.i64) c, SV.val (Ct.int IntKind.i64) sz, SV.val Ct.str bk, SV.val (Ct.sl false [Ct.sl true [Ct.int IntKind.i64, Ct.int IntKind.i64, Ct.int IntKind.i64, 
  Ct.int IntKind.i64, Ct.int IntKind.u32]]) T, SV.val (Ct.sl true [Ct.str, Ct.int IntKind.i64, Ct.sl false [Ct.sl true [Ct.int IntKind.i64, Ct.int IntKind.i64, Ct.int IntKind.i64, Ct.int IntKind.i64, Ct.int 
  IntKind.u32]]]) S, SV.val (Ct.sl true [Ct.str, Ct.bool, Ct.sl true [Ct.int IntKind.i64, Ct.int IntKind.i64]]) M, SV.val (Ct.sl false [Ct.int IntKind.i64]) Q], Obj.box [SV.val (Ct.int IntKind.i64) c', SV.val 
  (Ct.int IntKind.i64) sz', SV.val Ct.str bk', SV.val (Ct.sl false [Ct.sl true [Ct.int IntKind.i64, Ct.int IntKind.i64, Ct.int IntKind.i64, Ct.int IntKind.i64, Ct.int IntKind.u32]]) T', SV.val (Ct.sl true 
  [Ct.str, Ct.int IntKind.i64, Ct.sl false [Ct.sl true [Ct.int IntKind.i64, Ct.int IntKind.i64, Ct.int IntKind.i64, Ct.int IntKind.i64, Ct.int IntKind.u32]]]) S', SV.val (Ct.sl true [Ct.str, Ct.bool, Ct.sl 
  true [Ct.int IntKind.i64, Ct.int IntKind.i64]]) M', SV.val (Ct.sl false [Ct.int IntKind.i64]) Q']]) N then ((nat_lit 256 = nat_lit 256 ∧ nat_lit 0 = nat_lit 0 ∧ nat_lit 384 = nat_lit 384 ∧ nat_lit 0 = 
  nat_lit 0) ∧ ([Ct.int IntKind.i64, Ct.int IntKind.i64, Ct.int IntKind.i64, Ct.int IntKind.i64, Ct.int IntKind.u32] = [Ct.int IntKind.i64, Ct.int IntKind.i64, Ct.int IntKind.i64, Ct.int IntKind.i64, Ct.int 
  IntKind.u32] ∧ [Ct.str, Ct.int IntKind.i64, Ct.sl false [Ct.sl true [Ct.int IntKind.i64, Ct.int IntKind.i64, Ct.int IntKind.i64, Ct.int IntKind.i64, Ct.int IntKind.u32]]] = [Ct.str, Ct.int IntKind.i64, 
  Ct.sl false [Ct.sl true [Ct.int IntKind.i64, Ct.int IntKind.i64, Ct.int IntKind.i64, Ct.int IntKind.i64, Ct.int IntKind.u32]]] ∧ [Ct.str, Ct.bool, Ct.sl true [Ct.int IntKind.i64, Ct.int IntKind.i64]] = 
  [Ct.str, Ct.bool, Ct.sl true [Ct.int IntKind.i64, Ct.int IntKind.i64]]) ∧ ([Ct.int IntKind.i64, Ct.int IntKind.i64, Ct.int IntKind.i64, Ct.int IntKind.i64, Ct.int IntKind.u32] = [Ct.int IntKind.i64, Ct.int 
  IntKind.i64, Ct.int IntKind.i64, Ct.int IntKind.i64, Ct.int IntKind.u32] ∧ [Ct.str, Ct.int IntKind.i64, Ct.sl false [Ct.sl true [Ct.int IntKind.i64, Ct.int IntKind.i64, Ct.int IntKind.i64, Ct.int IntKind.i64, 
  Ct.int IntKind.u32]]] = [Ct.str, Ct.int IntKind.i64, Ct.sl false [Ct.sl true [Ct.int IntKind.i64, Ct.int IntKind.i64, Ct.int IntKind.i64, Ct.int IntKind.i64, Ct.int IntKind.u32]]] ∧ [Ct.str, Ct.bool, Ct.sl 
  true [Ct.int IntKind.i64, Ct.int IntKind.i64]] = [Ct.str, Ct.bool, Ct.sl true [Ct.int IntKind.i64, Ct.int IntKind.i64]]) ∧ List.length (U.list S) = List.length (U.list S') ∧ (0 : Int) ≤ IntKind.wrap IntKind.i64 
  (U.int i + (1 : Int)) ∧ IntKind.wrap IntKind.i64 (U.int i + (1 : Int)) ≤ (↑(List.length (U.list S)) : Int)) ∧ bif shotsE (List.drop (Int.toNat (IntKind.wrap IntKind.i64 (U.int i + (1 : Int)))) (U.list 
  S)) (List.drop (Int.toNat (IntKind.wrap IntKind.i64 (U.int i + (1 : Int)))) (U.list S')) then k (Ex.exit (nat_lit 0)) (St.mk [(nat_lit 4, SV.unk)] []) else k Ex.ret (St.mk [(nat_lit 4, SV.val Ct.bool (U.b 
  false))] []) else False else False)) else False) (Alt (Alt (bif decide ((0 : Int) ≤ U.int i ∧ U.int i < (↑(List.length (U.list S)) : Int)) then (fun T => Alt T (Alt T T)) (bif decide ((0 : Int) ≤ U.int 
  i ∧ U.int i < (↑(List.length (U.list S')) : Int)) then bif !ByteArray.toList (U.str (nth (U.i (0 : Int)) (U.list (nth (U.i (0 : Int)) (U.list S) (Int.toNat (U.int i)))) (0 : Nat))) == ByteArray.toList 
  (U.str (nth (U.i (0 : Int)) (U.list (nth (U.i (0 : Int)) (U.list S') (Int.toNat (U.int i)))) (0 : Nat))) then k Ex.ret (St.mk [(nat_lit 4, SV.val Ct.bool (U.b false))] []) else bif U.int (nth (U.i (0 : 
  Int)) (List.tail (U.list (nth (U.i (0 : Int)) (U.list S) (Int.toNat (U.int i))))) (0 : Nat)) != U.int (nth (U.i (0 : Int)) (List.tail (U.list (nth (U.i (0 : Int)) (U.list S') (Int.toNat (U.int i))))) (0 
  : Nat)) then k Ex.ret (St.mk [(nat_lit 4, SV.val Ct.bool (U.b false))] []) else bif !tabE (U.list (nth (U.i (0 : Int)) (List.tail (List.tail (U.list (nth (U.i (0 : Int)) (U.list S) (Int.toNat (U.int i)))))) 
  (0 : Nat))) (U.list (nth (U.i (0 : Int)) (List.tail (List.tail (U.list (nth (U.i (0 : Int)) (U.list S') (Int.toNat (U.int i)))))) (0 : Nat))) then k Ex.ret (St.mk [(nat_lit 4, SV.val Ct.bool (U.b false))] 
  []) else bif Nat.blt (μ [SV.val (Ct.int IntKind.i64) (U.i (IntKind.wrap IntKind.i64 (U.int i + (1 : Int)))), SV.ptr (nat_lit 256) (nat_lit 0), SV.ptr (nat_lit 384) (nat_lit 0)] [Obj.box [SV.val (Ct.int 
  IntKind.i64) c, SV.val (Ct.int IntKind.i64) sz, SV.val Ct.str bk, SV.val (Ct.sl false [Ct.sl true [Ct.int IntKind.i64, Ct.int IntKind.i64, Ct.int IntKind.i64, Ct.int IntKind.i64, Ct.int IntKind.u32]]) 
  T, SV.val (Ct.sl true [Ct.str, Ct.int IntKind.i64, Ct.sl false [Ct.sl true [Ct.int IntKind.i64, Ct.int IntKind.i64, Ct.int IntKind.i64, Ct.int IntKind.i64, Ct.int IntKind.u32]]]) S, SV.val (Ct.sl true 
  [Ct.str, Ct.bool, Ct.sl true [Ct.int IntKind.i64, Ct.int IntKind.i64]]) M, SV.val (Ct.sl false [Ct.int IntKind.i64]) Q], Obj.box [SV.val (Ct.int IntKind.i64) c', SV.val (Ct.int IntKind.i64) sz', SV.val 
  Ct.str bk', SV.val (Ct.sl false [Ct.sl true [Ct.int IntKind.i64, Ct.int IntKind.i64, Ct.int IntKind.i64, Ct.int IntKind.i64, Ct.int IntKind.u32]]) T', SV.val (Ct.sl true [Ct.str, Ct.int IntKind.i64, Ct.sl 
  false [Ct.sl true [Ct.int IntKind.i64, Ct.int IntKind.i64, Ct.int IntKind.i64, Ct.int IntKind.i64, Ct.int IntKind.u32]]]) S', SV.val (Ct.sl true [Ct.str, Ct.bool, Ct.sl true [Ct.int IntKind.i64, Ct.int 
  IntKind.i64]]) M', SV.val (Ct.sl false [Ct.int IntKind.i64]) Q']]) N then ((nat_lit 256 = nat_lit 256 ∧ nat_lit 0 = nat_lit 0 ∧ nat_lit 384 = nat_lit 384 ∧ nat_lit 0 = nat_lit 0) ∧ ([Ct.int IntKind.i64, 
  Ct.int IntKind.i64, Ct.int IntKind.i64, Ct.int IntKind.i64, Ct.int IntKind.u32] = [Ct.int IntKind.i64, Ct.int IntKind.i64, Ct.int IntKind.i64, Ct.int IntKind.i64, Ct.int IntKind.u32] ∧ [Ct.str, Ct.int 
  IntKind.i64, Ct.sl false [Ct.sl true [Ct.int IntKind.i64, Ct.int IntKind.i64, Ct.int IntKind.i64, Ct.int IntKind.i64, Ct.int IntKind.u32]]] = [Ct.str, Ct.int IntKind.i64, Ct.sl false [Ct.sl true [Ct.int 
  IntKind.i64, Ct.int IntKind.i64, Ct.int IntKind.i64, Ct.int IntKind.i64, Ct.int IntKind.u32]]] ∧ [Ct.str, Ct.bool, Ct.sl true [Ct.int IntKind.i64, Ct.int IntKind.i64]] = [Ct.str, Ct.bool, Ct.sl true [Ct.int 
  IntKind.i64, Ct.int IntKind.i64]]) ∧ ([Ct.int IntKind.i64, Ct.int IntKind.i64, Ct.int IntKind.i64, Ct.int IntKind.i64, Ct.int IntKind.u32] = [Ct.int IntKind.i64, Ct.int IntKind.i64, Ct.int IntKind.i64, 
  Ct.int IntKind.i64, Ct.int IntKind.u32] ∧ [Ct.str, Ct.int IntKind.i64, Ct.sl false [Ct.sl true [Ct.int IntKind.i64, Ct.int IntKind.i64, Ct.int IntKind.i64, Ct.int IntKind.i64, Ct.int IntKind.u32]]] = [Ct.str, 
  Ct.int IntKind.i64, Ct.sl false [Ct.sl true [Ct.int IntKind.i64, Ct.int IntKind.i64, Ct.int IntKind.i64, Ct.int IntKind.i64, Ct.int IntKind.u32]]] ∧ [Ct.str, Ct.bool, Ct.sl true [Ct.int IntKind.i64, Ct.int 
  IntKind.i64]] = [Ct.str, Ct.bool, Ct.sl true [Ct.int IntKind.i64, Ct.int IntKind.i64]]) ∧ List.length (U.list S) = List.length (U.list S') ∧ (0 : Int) ≤ IntKind.wrap IntKind.i64 (U.int i + (1 : Int)) ∧ 
  IntKind.wrap IntKind.i64 (U.int i + (1 : Int)) ≤ (↑(List.length (U.list S)) : Int)) ∧ bif shotsE (List.drop (Int.toNat (IntKind.wrap IntKind.i64 (U.int i + (1 : Int)))) (U.list S)) (List.drop (Int.toNat 
  (IntKind.wrap IntKind.i64 (U.int i + (1 : Int)))) (U.list S')) then k (Ex.exit (nat_lit 0)) (St.mk [(nat_lit 4, SV.unk)] []) else k Ex.ret (St.mk [(nat_lit 4, SV.val Ct.bool (U.b false))] []) else False 
  else False) else False) (Alt (bif decide ((0 : Int) ≤ U.int i ∧ U.int i < (↑(List.length (U.list S')) : Int)) then (fun T => Alt T T) (bif decide ((0 : Int) ≤ U.int i ∧ U.int i < (↑(List.length (U.list 
  S)) : Int)) then bif !ByteArray.toList (U.str (nth (U.i (0 : Int)) (U.list (nth (U.i (0 : Int)) (U.list S) (Int.toNat (U.int i)))) (0 : Nat))) == ByteArray.toList (U.str (nth (U.i (0 : Int)) (U.list (nth 
  (U.i (0 : Int)) (U.list S') (Int.toNat (U.int i)))) (0 : Nat))) then k Ex.ret (St.mk [(nat_lit 4, SV.val Ct.bool (U.b false))] []) else bif U.int (nth (U.i (0 : Int)) (List.tail (U.list (nth (U.i (0 : 
  Int)) (U.list S) (Int.toNat (U.int i))))) (0 : Nat)) != U.int (nth (U.i (0 : Int)) (List.tail (U.list (nth (U.i (0 : Int)) (U.list S') (Int.toNat (U.int i))))) (0 : Nat)) then k Ex.ret (St.mk [(nat_lit 
  4, SV.val Ct.bool (U.b false))] []) else bif !tabE (U.list (nth (U.i (0 : Int)) (List.tail (List.tail (U.list (nth (U.i (0 : Int)) (U.list S) (Int.toNat (U.int i)))))) (0 : Nat))) (U.list (nth (U.i (0 
  : Int)) (List.tail (List.tail (U.list (nth (U.i (0 : Int)) (U.list S') (Int.toNat (U.int i)))))) (0 : Nat))) then k Ex.ret (St.mk [(nat_lit 4, SV.val Ct.bool (U.b false))] []) else bif Nat.blt (μ [SV.val 
  (Ct.int IntKind.i64) (U.i (IntKind.wrap IntKind.i64 (U.int i + (1 : Int)))), SV.ptr (nat_lit 256) (nat_lit 0), SV.ptr (nat_lit 384) (nat_lit 0)] [Obj.box [SV.val (Ct.int IntKind.i64) c, SV.val (Ct.int 
  IntKind.i64) sz, SV.val Ct.str bk, SV.val (Ct.sl false [Ct.sl true [Ct.int IntKind.i64, Ct.int IntKind.i64, Ct.int IntKind.i64, Ct.int IntKind.i64, Ct.int IntKind.u32]]) T, SV.val (Ct.sl true [Ct.str, 
  Ct.int IntKind.i64, Ct.sl false [Ct.sl true [Ct.int IntKind.i64, Ct.int IntKind.i64, Ct.int IntKind.i64, Ct.int IntKind.i64, Ct.int IntKind.u32]]]) S, SV.val (Ct.sl true [Ct.str, Ct.bool, Ct.sl true [Ct.int 
  IntKind.i64, Ct.int IntKind.i64]]) M, SV.val (Ct.sl false [Ct.int IntKind.i64]) Q], Obj.box [SV.val (Ct.int IntKind.i64) c', SV.val (Ct.int IntKind.i64) sz', SV.val Ct.str bk', SV.val (Ct.sl false [Ct.sl 
  true [Ct.int IntKind.i64, Ct.int IntKind.i64, Ct.int IntKind.i64, Ct.int IntKind.i64, Ct.int IntKind.u32]]) T', SV.val (Ct.sl true [Ct.str, Ct.int IntKind.i64, Ct.sl false [Ct.sl true [Ct.int IntKind.i64, 
  Ct.int IntKind.i64, Ct.int IntKind.i64, Ct.int IntKind.i64, Ct.int IntKind.u32]]]) S', SV.val (Ct.sl true [Ct.str, Ct.bool, Ct.sl true [Ct.int IntKind.i64, Ct.int IntKind.i64]]) M', SV.val (Ct.sl false 
  [Ct.int IntKind.i64]) Q']]) N then ((nat_lit 256 = nat_lit 256 ∧ nat_lit 0 = nat_lit 0 ∧ nat_lit 384 = nat_lit 384 ∧ nat_lit 0 = nat_lit 0) ∧ ([Ct.int IntKind.i64, Ct.int IntKind.i64, Ct.int IntKind.i64, 
  Ct.int IntKind.i64, Ct.int IntKind.u32] = [Ct.int IntKind.i64, Ct.int IntKind.i64, Ct.int IntKind.i64, Ct.int IntKind.i64, Ct.int IntKind.u32] ∧ [Ct.str, Ct.int IntKind.i64, Ct.sl false [Ct.sl true [Ct.int 
  IntKind.i64, Ct.int IntKind.i64, Ct.int IntKind.i64, Ct.int IntKind.i64, Ct.int IntKind.u32]]] = [Ct.str, Ct.int IntKind.i64, Ct.sl false [Ct.sl true [Ct.int IntKind.i64, Ct.int IntKind.i64, Ct.int IntKind.i64, 
  Ct.int IntKind.i64, Ct.int IntKind.u32]]] ∧ [Ct.str, Ct.bool, Ct.sl true [Ct.int IntKind.i64, Ct.int IntKind.i64]] = [Ct.str, Ct.bool, Ct.sl true [Ct.int IntKind.i64, Ct.int IntKind.i64]]) ∧ ([Ct.int IntKind.i64, 
  Ct.int IntKind.i64, Ct.int IntKind.i64, Ct.int IntKind.i64, Ct.int IntKind.u32] = [Ct.int IntKind.i64, Ct.int IntKind.i64, Ct.int IntKind.i64, Ct.int IntKind.i64, Ct.int IntKind.u32] ∧ [Ct.str, Ct.int 
  IntKind.i64, Ct.sl false [Ct.sl true [Ct.int IntKind.i64, Ct.int IntKind.i64, Ct.int IntKind.i64, Ct.int IntKind.i64, Ct.int IntKind.u32]]] = [Ct.str, Ct.int IntKind.i64, Ct.sl false [Ct.sl true [Ct.int 
  IntKind.i64, Ct.int IntKind.i64, Ct.int IntKind.i64, Ct.int IntKind.i64, Ct.int IntKind.u32]]] ∧ [Ct.str, Ct.bool, Ct.sl true [Ct.int IntKind.i64, Ct.int IntKind.i64]] = [Ct.str, Ct.bool, Ct.sl true [Ct.int 
  IntKind.i64, Ct.int IntKind.i64]]) ∧ List.length (U.list S) = List.length (U.list S') ∧ (0 : Int) ≤ IntKind.wrap IntKind.i64 (U.int i + (1 : Int)) ∧ IntKind.wrap IntKind.i64 (U.int i + (1 : Int)) ≤ (↑(List.length 
  (U.list S)) : Int)) ∧ bif shotsE (List.drop (Int.toNat (IntKind.wrap IntKind.i64 (U.int i + (1 : Int)))) (U.list S)) (List.drop (Int.toNat (IntKind.wrap IntKind.i64 (U.int i + (1 : Int)))) (U.list S')) 
  then k (Ex.exit (nat_lit 0)) (St.mk [(nat_lit 4, SV.unk)] []) else k Ex.ret (St.mk [(nat_lit 4, SV.val Ct.bool (U.b false))] []) else False else False) else False) (Alt (bif decide ((0 : Int) ≤ U.int i 
  ∧ U.int i < (↑(List.length (U.list S)) : Int)) then (fun T => Alt T T) (bif decide ((0 : Int) ≤ U.int i ∧ U.int i < (↑(List.length (U.list S')) : Int)) then bif !ByteArray.toList (U.str (nth (U.i (0 : 
  Int)) (U.list (nth (U.i (0 : Int)) (U.list S) (Int.toNat (U.int i)))) (0 : Nat))) == ByteArray.toList (U.str (nth (U.i (0 : Int)) (U.list (nth (U.i (0 : Int)) (U.list S') (Int.toNat (U.int i)))) (0 : Nat))) 
  then k Ex.ret (St.mk [(nat_lit 4, SV.val Ct.bool (U.b false))] []) else bif U.int (nth (U.i (0 : Int)) (List.tail (U.list (nth (U.i (0 : Int)) (U.list S) (Int.toNat (U.int i))))) (0 : Nat)) != U.int (nth 
  (U.i (0 : Int)) (List.tail (U.list (nth (U.i (0 : Int)) (U.list S') (Int.toNat (U.int i))))) (0 : Nat)) then k Ex.ret (St.mk [(nat_lit 4, SV.val Ct.bool (U.b false))] []) else bif !tabE (U.list (nth (U.i 
  (0 : Int)) (List.tail (List.tail (U.list (nth (U.i (0 : Int)) (U.list S) (Int.toNat (U.int i)))))) (0 : Nat))) (U.list (nth (U.i (0 : Int)) (List.tail (List.tail (U.list (nth (U.i (0 : Int)) (U.list S') 
  (Int.toNat (U.int i)))))) (0 : Nat))) then k Ex.ret (St.mk [(nat_lit 4, SV.val Ct.bool (U.b false))] []) else bif Nat.blt (μ [SV.val (Ct.int IntKind.i64) (U.i (IntKind.wrap IntKind.i64 (U.int i + (1 : 
  Int)))), SV.ptr (nat_lit 256) (nat_lit 0), SV.ptr (nat_lit 384) (nat_lit 0)] [Obj.box [SV.val (Ct.int IntKind.i64) c, SV.val (Ct.int IntKind.i64) sz, SV.val Ct.str bk, SV.val (Ct.sl false [Ct.sl true [Ct.int 
  IntKind.i64, Ct.int IntKind.i64, Ct.int IntKind.i64, Ct.int IntKind.i64, Ct.int IntKind.u32]]) T, SV.val (Ct.sl true [Ct.str, Ct.int IntKind.i64, Ct.sl false [Ct.sl true [Ct.int IntKind.i64, Ct.int IntKind.i64, 
  Ct.int IntKind.i64, Ct.int IntKind.i64, Ct.int IntKind.u32]]]) S, SV.val (Ct.sl true [Ct.str, Ct.bool, Ct.sl true [Ct.int IntKind.i64, Ct.int IntKind.i64]]) M, SV.val (Ct.sl false [Ct.int IntKind.i64]) 
  Q], Obj.box [SV.val (Ct.int IntKind.i64) c', SV.val (Ct.int IntKind.i64) sz', SV.val Ct.str bk', SV.val (Ct.sl false [Ct.sl true [Ct.int IntKind.i64, Ct.int IntKind.i64, Ct.int IntKind.i64, Ct.int IntKind.i64, 
  Ct.int IntKind.u32]]) T', SV.val (Ct.sl true [Ct.str, Ct.int IntKind.i64, Ct.sl false [Ct.sl true [Ct.int IntKind.i64, Ct.int IntKind.i64, Ct.int IntKind.i64, Ct.int IntKind.i64, Ct.int IntKind.u32]]]) 
  S', SV.val (Ct.sl true [Ct.str, Ct.bool, Ct.sl true [Ct.int IntKind.i64, Ct.int IntKind.i64]]) M', SV.val (Ct.sl false [Ct.int IntKind.i64]) Q']]) N then ((nat_lit 256 = nat_lit 256 ∧ nat_lit 0 = nat_lit 
  0 ∧ nat_lit 384 = nat_lit 384 ∧ nat_lit 0 = nat_lit 0) ∧ ([Ct.int IntKind.i64, Ct.int IntKind.i64, Ct.int IntKind.i64, Ct.int IntKind.i64, Ct.int IntKind.u32] = [Ct.int IntKind.i64, Ct.int IntKind.i64, 
  Ct.int IntKind.i64, Ct.int IntKind.i64, Ct.int IntKind.u32] ∧ [Ct.str, Ct.int IntKind.i64, Ct.sl false [Ct.sl true [Ct.int IntKind.i64, Ct.int IntKind.i64, Ct.int IntKind.i64, Ct.int IntKind.i64, Ct.int 
  IntKind.u32]]] = [Ct.str, Ct.int IntKind.i64, Ct.sl false [Ct.sl true [Ct.int IntKind.i64, Ct.int IntKind.i64, Ct.int IntKind.i64, Ct.int IntKind.i64, Ct.int IntKind.u32]]] ∧ [Ct.str, Ct.bool, Ct.sl true 
  [Ct.int IntKind.i64, Ct.int IntKind.i64]] = [Ct.str, Ct.bool, Ct.sl true [Ct.int IntKind.i64, Ct.int IntKind.i64]]) ∧ ([Ct.int IntKind.i64, Ct.int IntKind.i64, Ct.int IntKind.i64, Ct.int IntKind.i64, Ct.int 
  IntKind.u32] = [Ct.int IntKind.i64, Ct.int IntKind.i64, Ct.int IntKind.i64, Ct.int IntKind.i64, Ct.int IntKind.u32] ∧ [Ct.str, Ct.int IntKind.i64, Ct.sl false [Ct.sl true [Ct.int IntKind.i64, Ct.int IntKind.i64, 
  Ct.int IntKind.i64, Ct.int IntKind.i64, Ct.int IntKind.u32]]] = [Ct.str, Ct.int IntKind.i64, Ct.sl false [Ct.sl true [Ct.int IntKind.i64, Ct.int IntKind.i64, Ct.int IntKind.i64, Ct.int IntKind.i64, Ct.int 
  IntKind.u32]]] ∧ [Ct.str, Ct.bool, Ct.sl true [Ct.int IntKind.i64, Ct.int IntKind.i64]] = [Ct.str, Ct.bool, Ct.sl true [Ct.int IntKind.i64, Ct.int IntKind.i64]]) ∧ List.length (U.list S) = List.length 
  (U.list S') ∧ (0 : Int) ≤ IntKind.wrap IntKind.i64 (U.int i + (1 : Int)) ∧ IntKind.wrap IntKind.i64 (U.int i + (1 : Int)) ≤ (↑(List.length (U.list S)) : Int)) ∧ bif shotsE (List.drop (Int.toNat (IntKind.wrap 
  IntKind.i64 (U.int i + (1 : Int)))) (U.list S)) (List.drop (Int.toNat (IntKind.wrap IntKind.i64 (U.int i + (1 : Int)))) (U.list S')) then k (Ex.exit (nat_lit 0)) (St.mk [(nat_lit 4, SV.unk)] []) else k 
  Ex.ret (St.mk [(nat_lit 4, SV.val Ct.bool (U.b false))] []) else False else False) else False) (bif decide ((0 : Int) ≤ U.int i ∧ U.int i < (↑(List.length (U.list S')) : Int)) then bif decide ((0 : Int) 
  ≤ U.int i ∧ U.int i < (↑(List.length (U.list S)) : Int)) then bif !ByteArray.toList (U.str (nth (U.i (0 : Int)) (U.list (nth (U.i (0 : Int)) (U.list S) (Int.toNat (U.int i)))) (0 : Nat))) == ByteArray.toList 
  (U.str (nth (U.i (0 : Int)) (U.list (nth (U.i (0 : Int)) (U.list S') (Int.toNat (U.int i)))) (0 : Nat))) then k Ex.ret (St.mk [(nat_lit 4, SV.val Ct.bool (U.b false))] []) else bif U.int (nth (U.i (0 : 
  Int)) (List.tail (U.list (nth (U.i (0 : Int)) (U.list S) (Int.toNat (U.int i))))) (0 : Nat)) != U.int (nth (U.i (0 : Int)) (List.tail (U.list (nth (U.i (0 : Int)) (U.list S') (Int.toNat (U.int i))))) (0 
  : Nat)) then k Ex.ret (St.mk [(nat_lit 4, SV.val Ct.bool (U.b false))] []) else bif !tabE (U.list (nth (U.i (0 : Int)) (List.tail (List.tail (U.list (nth (U.i (0 : Int)) (U.list S) (Int.toNat (U.int i)))))) 
  (0 : Nat))) (U.list (nth (U.i (0 : Int)) (List.tail (List.tail (U.list (nth (U.i (0 : Int)) (U.list S') (Int.toNat (U.int i)))))) (0 : Nat))) then k Ex.ret (St.mk [(nat_lit 4, SV.val Ct.bool (U.b false))] 
  []) else bif Nat.blt (μ [SV.val (Ct.int IntKind.i64) (U.i (IntKind.wrap IntKind.i64 (U.int i + (1 : Int)))), SV.ptr (nat_lit 256) (nat_lit 0), SV.ptr (nat_lit 384) (nat_lit 0)] [Obj.box [SV.val (Ct.int 
  IntKind.i64) c, SV.val (Ct.int IntKind.i64) sz, SV.val Ct.str bk, SV.val (Ct.sl false [Ct.sl true [Ct.int IntKind.i64, Ct.int IntKind.i64, Ct.int IntKind.i64, Ct.int IntKind.i64, Ct.int IntKind.u32]]) 
  T, SV.val (Ct.sl true [Ct.str, Ct.int IntKind.i64, Ct.sl false [Ct.sl true [Ct.int IntKind.i64, Ct.int IntKind.i64, Ct.int IntKind.i64, Ct.int IntKind.i64, Ct.int IntKind.u32]]]) S, SV.val (Ct.sl true 
  [Ct.str, Ct.bool, Ct.sl true [Ct.int IntKind.i64, Ct.int IntKind.i64]]) M, SV.val (Ct.sl false [Ct.int IntKind.i64]) Q], Obj.box [SV.val (Ct.int IntKind.i64) c', SV.val (Ct.int IntKind.i64) sz', SV.val 
  Ct.str bk', SV.val (Ct.sl false [Ct.sl true [Ct.int IntKind.i64, Ct.int IntKind.i64, Ct.int IntKind.i64, Ct.int IntKind.i64, Ct.int IntKind.u32]]) T', SV.val (Ct.sl true [Ct.str, Ct.int IntKind.i64, Ct.sl 
  false [Ct.sl true [Ct.int IntKind.i64, Ct.int IntKind.i64, Ct.int IntKind.i64, Ct.int IntKind.i64, Ct.int IntKind.u32]]]) S', SV.val (Ct.sl true [Ct.str, Ct.bool, Ct.sl true [Ct.int IntKind.i64, Ct.int 
  IntKind.i64]]) M', SV.val (Ct.sl false [Ct.int IntKind.i64]) Q']]) N then ((nat_lit 256 = nat_lit 256 ∧ nat_lit 0 = nat_lit 0 ∧ nat_lit 384 = nat_lit 384 ∧ nat_lit 0 = nat_lit 0) ∧ ([Ct.int IntKind.i64, 
  Ct.int IntKind.i64, Ct.int IntKind.i64, Ct.int IntKind.i64, Ct.int IntKind.u32] = [Ct.int IntKind.i64, Ct.int IntKind.i64, Ct.int IntKind.i64, Ct.int IntKind.i64, Ct.int IntKind.u32] ∧ [Ct.str, Ct.int 
  IntKind.i64, Ct.sl false [Ct.sl true [Ct.int IntKind.i64, Ct.int IntKind.i64, Ct.int IntKind.i64, Ct.int IntKind.i64, Ct.int IntKind.u32]]] = [Ct.str, Ct.int IntKind.i64, Ct.sl false [Ct.sl true [Ct.int 
  IntKind.i64, Ct.int IntKind.i64, Ct.int IntKind.i64, Ct.int IntKind.i64, Ct.int IntKind.u32]]] ∧ [Ct.str, Ct.bool, Ct.sl true [Ct.int IntKind.i64, Ct.int IntKind.i64]] = [Ct.str, Ct.bool, Ct.sl true [Ct.int 
  IntKind.i64, Ct.int IntKind.i64]]) ∧ ([Ct.int IntKind.i64, Ct.int IntKind.i64, Ct.int IntKind.i64, Ct.int IntKind.i64, Ct.int IntKind.u32] = [Ct.int IntKind.i64, Ct.int IntKind.i64, Ct.int IntKind.i64, 
  Ct.int IntKind.i64, Ct.int IntKind.u32] ∧ [Ct.str, Ct.int IntKind.i64, Ct.sl false [Ct.sl true [Ct.int IntKind.i64, Ct.int IntKind.i64, Ct.int IntKind.i64, Ct.int IntKind.i64, Ct.int IntKind.u32]]] = [Ct.str, 
  Ct.int IntKind.i64, Ct.sl false [Ct.sl true [Ct.int IntKind.i64, Ct.int IntKind.i64, Ct.int IntKind.i64, Ct.int IntKind.i64, Ct.int IntKind.u32]]] ∧ [Ct.str, Ct.bool, Ct.sl true [Ct.int IntKind.i64, Ct.int 
  IntKind.i64]] = [Ct.str, Ct.bool, Ct.sl true [Ct.int IntKind.i64, Ct.int IntKind.i64]]) ∧ List.length (U.list S) = List.length (U.list S') ∧ (0 : Int) ≤ IntKind.wrap IntKind.i64 (U.int i + (1 : Int)) ∧ 
  IntKind.wrap IntKind.i64 (U.int i + (1 : Int)) ≤ (↑(List.length (U.list S)) : Int)) ∧ bif shotsE (List.drop (Int.toNat (IntKind.wrap IntKind.i64 (U.int i + (1 : Int)))) (U.list S)) (List.drop (Int.toNat 
  (IntKind.wrap IntKind.i64 (U.int i + (1 : Int)))) (U.list S')) then k (Ex.exit (nat_lit 0)) (St.mk [(nat_lit 4, SV.unk)] []) else k Ex.ret (St.mk [(nat_lit 4, SV.val Ct.bool (U.b false))] []) else False 
  else False else False)))) (Alt (bif decide ((0 : Int) ≤ U.int i ∧ U.int i < (↑(List.length (U.list S)) : Int)) then (fun T => Alt T (Alt T T)) (bif decide ((0 : Int) ≤ U.int i ∧ U.int i < (↑(List.length 
  (U.list S')) : Int)) then bif !ByteArray.toList (U.str (nth (U.i (0 : Int)) (U.list (nth (U.i (0 : Int)) (U.list S) (Int.toNat (U.int i)))) (0 : Nat))) == ByteArray.toList (U.str (nth (U.i (0 : Int)) (U.list 
  (nth (U.i (0 : Int)) (U.list S') (Int.toNat (U.int i)))) (0 : Nat))) then k Ex.ret (St.mk [(nat_lit 4, SV.val Ct.bool (U.b false))] []) else bif U.int (nth (U.i (0 : Int)) (List.tail (U.list (nth (U.i 
  (0 : Int)) (U.list S) (Int.toNat (U.int i))))) (0 : Nat)) != U.int (nth (U.i (0 : Int)) (List.tail (U.list (nth (U.i (0 : Int)) (U.list S') (Int.toNat (U.int i))))) (0 : Nat)) then k Ex.ret (St.mk [(nat_lit 
  4, SV.val Ct.bool (U.b false))] []) else bif !tabE (U.list (nth (U.i (0 : Int)) (List.tail (List.tail (U.list (nth (U.i (0 : Int)) (U.list S) (Int.toNat (U.int i)))))) (0 : Nat))) (U.list (nth (U.i (0 
  : Int)) (List.tail (List.tail (U.list (nth (U.i (0 : Int)) (U.list S') (Int.toNat (U.int i)))))) (0 : Nat))) then k Ex.ret (St.mk [(nat_lit 4, SV.val Ct.bool (U.b false))] []) else bif Nat.blt (μ [SV.val 
  (Ct.int IntKind.i64) (U.i (IntKind.wrap IntKind.i64 (U.int i + (1 : Int)))), SV.ptr (nat_lit 256) (nat_lit 0), SV.ptr (nat_lit 384) (nat_lit 0)] [Obj.box [SV.val (Ct.int IntKind.i64) c, SV.val (Ct.int 
  IntKind.i64) sz, SV.val Ct.str bk, SV.val (Ct.sl false [Ct.sl true [Ct.int IntKind.i64, Ct.int IntKind.i64, Ct.int IntKind.i64, Ct.int IntKind.i64, Ct.int IntKind.u32]]) T, SV.val (Ct.sl true [Ct.str, 
  Ct.int IntKind.i64, Ct.sl false [Ct.sl true [Ct.int IntKind.i64, Ct.int IntKind.i64, Ct.int IntKind.i64, Ct.int IntKind.i64, Ct.int IntKind.u32]]]) S, SV.val (Ct.sl true [Ct.str, Ct.bool, Ct.sl true [Ct.int 
  IntKind.i64, Ct.int IntKind.i64]]) M, SV.val (Ct.sl false [Ct.int IntKind.i64]) Q], Obj.box [SV.val (Ct.int IntKind.i64) c', SV.val (Ct.int IntKind.i64) sz', SV.val Ct.str bk', SV.val (Ct.sl false [Ct.sl 
  true [Ct.int IntKind.i64, Ct.int IntKind.i64, Ct.int IntKind.i64, Ct.int IntKind.i64, Ct.int IntKind.u32]]) T', SV.val (Ct.sl true [Ct.str, Ct.int IntKind.i64, Ct.sl false [Ct.sl true [Ct.int IntKind.i64, 
  Ct.int IntKind.i64, Ct.int IntKind.i64, Ct.int IntKind.i64, Ct.int IntKind.u32]]]) S', SV.val (Ct.sl true [Ct.str, Ct.bool, Ct.sl true [Ct.int IntKind.i64, Ct.int IntKind.i64]]) M', SV.val (Ct.sl false 
  [Ct.int IntKind.i64]) Q']]) N then ((nat_lit 256 = nat_lit 256 ∧ nat_lit 0 = nat_lit 0 ∧ nat_lit 384 = nat_lit 384 ∧ nat_lit 0 = nat_lit 0) ∧ ([Ct.int IntKind.i64, Ct.int IntKind.i64, Ct.int IntKind.i64, 
  Ct.int IntKind.i64, Ct.int IntKind.u32] = [Ct.int IntKind.i64, Ct.int IntKind.i64, Ct.int IntKind.i64, Ct.int IntKind.i64, Ct.int IntKind.u32] ∧ [Ct.str, Ct.int IntKind.i64, Ct.sl false [Ct.sl true [Ct.int 
  IntKind.i64, Ct.int IntKind.i64, Ct.int IntKind.i64, Ct.int IntKind.i64, Ct.int IntKind.u32]]] = [Ct.str, Ct.int IntKind.i64, Ct.sl false [Ct.sl true [Ct.int IntKind.i64, Ct.int IntKind.i64, Ct.int IntKind.i64, 
  Ct.int IntKind.i64, Ct.int IntKind.u32]]] ∧ [Ct.str, Ct.bool, Ct.sl true [Ct.int IntKind.i64, Ct.int IntKind.i64]] = [Ct.str, Ct.bool, Ct.sl true [Ct.int IntKind.i64, Ct.int IntKind.i64]]) ∧ ([Ct.int IntKind.i64, 
  Ct.int IntKind.i64, Ct.int IntKind.i64, Ct.int IntKind.i64, Ct.int IntKind.u32] = [Ct.int IntKind.i64, Ct.int IntKind.i64, Ct.int IntKind.i64, Ct.int IntKind.i64, Ct.int IntKind.u32] ∧ [Ct.str, Ct.int 
  IntKind.i64, Ct.sl false [Ct.sl true [Ct.int IntKind.i64, Ct.int IntKind.i64, Ct.int IntKind.i64, Ct.int IntKind.i64, Ct.int IntKind.u32]]] = [Ct.str, Ct.int IntKind.i64, Ct.sl false [Ct.sl true [Ct.int 
  IntKind.i64, Ct.int IntKind.i64, Ct.int IntKind.i64, Ct.int IntKind.i64, Ct.int IntKind.u32]]] ∧ [Ct.str, Ct.bool, Ct.sl true [Ct.int IntKind.i64, Ct.int IntKind.i64]] = [Ct.str, Ct.bool, Ct.sl true [Ct.int 
  IntKind.i64, Ct.int IntKind.i64]]) ∧ List.length (U.list S) = List.length (U.list S') ∧ (0 : Int) ≤ IntKind.wrap IntKind.i64 (U.int i + (1 : Int)) ∧ IntKind.wrap IntKind.i64 (U.int i + (1 : Int)) ≤ (↑(List.length 
  (U.list S)) : Int)) ∧ bif shotsE (List.drop (Int.toNat (IntKind.wrap IntKind.i64 (U.int i + (1 : Int)))) (U.list S)) (List.drop (Int.toNat (IntKind.wrap IntKind.i64 (U.int i + (1 : Int)))) (U.list S')) 
  then k (Ex.exit (nat_lit 0)) (St.mk [(nat_lit 4, SV.unk)] []) else k Ex.ret (St.mk [(nat_lit 4, SV.val Ct.bool (U.b false))] []) else False else False) else False) (Alt (bif decide ((0 : Int) ≤ U.int i 
  ∧ U.int i < (↑(List.length (U.list S')) : Int)) then (fun T => Alt T T) (bif decide ((0 : Int) ≤ U.int i ∧ U.int i < (↑(List.length (U.list S)) : Int)) then bif !ByteArray.toList (U.str (nth (U.i (0 : 
  Int)) (U.list (nth (U.i (0 : Int)) (U.list S) (Int.toNat (U.int i)))) (0 : Nat))) == ByteArray.toList (U.str (nth (U.i (0 : Int)) (U.list (nth (U.i (0 : Int)) (U.list S') (Int.toNat (U.int i)))) (0 : Nat))) 
  then k Ex.ret (St.mk [(nat_lit 4, SV.val Ct.bool (U.b false))] []) else bif U.int (nth (U.i (0 : Int)) (List.tail (U.list (nth (U.i (0 : Int)) (U.list S) (Int.toNat (U.int i))))) (0 : Nat)) != U.int (nth 
  (U.i (0 : Int)) (List.tail (U.list (nth (U.i (0 : Int)) (U.list S') (Int.toNat (U.int i))))) (0 : Nat)) then k Ex.ret (St.mk [(nat_lit 4, SV.val Ct.bool (U.b false))] []) else bif !tabE (U.list (nth (U.i 
  (0 : Int)) (List.tail (List.tail (U.list (nth (U.i (0 : Int)) (U.list S) (Int.toNat (U.int i)))))) (0 : Nat))) (U.list (nth (U.i (0 : Int)) (List.tail (List.tail (U.list (nth (U.i (0 : Int)) (U.list S') 
  (Int.toNat (U.int i)))))) (0 : Nat))) then k Ex.ret (St.mk [(nat_lit 4, SV.val Ct.bool (U.b false))] []) else bif Nat.blt (μ [SV.val (Ct.int IntKind.i64) (U.i (IntKind.wrap IntKind.i64 (U.int i + (1 : 
  Int)))), SV.ptr (nat_lit 256) (nat_lit 0), SV.ptr (nat_lit 384) (nat_lit 0)] [Obj.box [SV.val (Ct.int IntKind.i64) c, SV.val (Ct.int IntKind.i64) sz, SV.val Ct.str bk, SV.val (Ct.sl false [Ct.sl true [Ct.int 
  IntKind.i64, Ct.int IntKind.i64, Ct.int IntKind.i64, Ct.int IntKind.i64, Ct.int IntKind.u32]]) T, SV.val (Ct.sl true [Ct.str, Ct.int IntKind.i64, Ct.sl false [Ct.sl true [Ct.int IntKind.i64, Ct.int IntKind.i64, 
  Ct.int IntKind.i64, Ct.int IntKind.i64, Ct.int IntKind.u32]]]) S, SV.val (Ct.sl true [Ct.str, Ct.bool, Ct.sl true [Ct.int IntKind.i64, Ct.int IntKind.i64]]) M, SV.val (Ct.sl false [Ct.int IntKind.i64]) 
  Q], Obj.box [SV.val (Ct.int IntKind.i64) c', SV.val (Ct.int IntKind.i64) sz', SV.val Ct.str bk', SV.val (Ct.sl false [Ct.sl true [Ct.int IntKind.i64, Ct.int IntKind.i64, Ct.int IntKind.i64, Ct.int IntKind.i64, 
  Ct.int IntKind.u32]]) T', SV.val (Ct.sl true [Ct.str, Ct.int IntKind.i64, Ct.sl false [Ct.sl true [Ct.int IntKind.i64, Ct.int IntKind.i64, Ct.int IntKind.i64, Ct.int IntKind.i64, Ct.int IntKind.u32]]]) 
  S', SV.val (Ct.sl true [Ct.str, Ct.bool, Ct.sl true [Ct.int IntKind.i64, Ct.int IntKind.i64]]) M', SV.val (Ct.sl false [Ct.int IntKind.i64]) Q']]) N then ((nat_lit 256 = nat_lit 256 ∧ nat_lit 0 = nat_lit 
  0 ∧ nat_lit 384 = nat_lit 384 ∧ nat_lit 0 = nat_lit 0) ∧ ([Ct.int IntKind.i64, Ct.int IntKind.i64, Ct.int IntKind.i64, Ct.int IntKind.i64, Ct.int IntKind.u32] = [Ct.int IntKind.i64, Ct.int IntKind.i64, 
  Ct.int IntKind.i64, Ct.int IntKind.i64, Ct.int IntKind.u32] ∧ [Ct.str, Ct.int IntKind.i64, Ct.sl false [Ct.sl true [Ct.int IntKind.i64, Ct.int IntKind.i64, Ct.int IntKind.i64, Ct.int IntKind.i64, Ct.int 
  IntKind.u32]]] = [Ct.str, Ct.int IntKind.i64, Ct.sl false [Ct.sl true [Ct.int IntKind.i64, Ct.int IntKind.i64, Ct.int IntKind.i64, Ct.int IntKind.i64, Ct.int IntKind.u32]]] ∧ [Ct.str, Ct.bool, Ct.sl true 
  [Ct.int IntKind.i64, Ct.int IntKind.i64]] = [Ct.str, Ct.bool, Ct.sl true [Ct.int IntKind.i64, Ct.int IntKind.i64]]) ∧ ([Ct.int IntKind.i64, Ct.int IntKind.i64, Ct.int IntKind.i64, Ct.int IntKind.i64, Ct.int 
  IntKind.u32] = [Ct.int IntKind.i64, Ct.int IntKind.i64, Ct.int IntKind.i64, Ct.int IntKind.i64, Ct.int IntKind.u32] ∧ [Ct.str, Ct.int IntKind.i64, Ct.sl false [Ct.sl true [Ct.int IntKind.i64, Ct.int IntKind.i64, 
  Ct.int IntKind.i64, Ct.int IntKind.i64, Ct.int IntKind.u32]]] = [Ct.str, Ct.int IntKind.i64, Ct.sl false [Ct.sl true [Ct.int IntKind.i64, Ct.int IntKind.i64, Ct.int IntKind.i64, Ct.int IntKind.i64, Ct.int 
  IntKind.u32]]] ∧ [Ct.str, Ct.bool, Ct.sl true [Ct.int IntKind.i64, Ct.int IntKind.i64]] = [Ct.str, Ct.bool, Ct.sl true [Ct.int IntKind.i64, Ct.int IntKind.i64]]) ∧ List.length (U.list S) = List.length 
  (U.list S') ∧ (0 : Int) ≤ IntKind.wrap IntKind.i64 (U.int i + (1 : Int)) ∧ IntKind.wrap IntKind.i64 (U.int i + (1 : Int)) ≤ (↑(List.length (U.list S)) : Int)) ∧ bif shotsE (List.drop (Int.toNat (IntKind.wrap 
  IntKind.i64 (U.int i + (1 : Int)))) (U.list S)) (List.drop (Int.toNat (IntKind.wrap IntKind.i64 (U.int i + (1 : Int)))) (U.list S')) then k (Ex.exit (nat_lit 0)) (St.mk [(nat_lit 4, SV.unk)] []) else k 
  Ex.ret (St.mk [(nat_lit 4, SV.val Ct.bool (U.b false))] []) else False else False) else False) (Alt (bif decide ((0 : Int) ≤ U.int i ∧ U.int i < (↑(List.length (U.list S)) : Int)) then (fun T => Alt T 
  T) (bif decide ((0 : Int) ≤ U.int i ∧ U.int i < (↑(List.length (U.list S')) : Int)) then bif !ByteArray.toList (U.str (nth (U.i (0 : Int)) (U.list (nth (U.i (0 : Int)) (U.list S) (Int.toNat (U.int i)))) 
  (0 : Nat))) == ByteArray.toList (U.str (nth (U.i (0 : Int)) (U.list (nth (U.i (0 : Int)) (U.list S') (Int.toNat (U.int i)))) (0 : Nat))) then k Ex.ret (St.mk [(nat_lit 4, SV.val Ct.bool (U.b false))] []) 
  else bif U.int (nth (U.i (0 : Int)) (List.tail (U.list (nth (U.i (0 : Int)) (U.list S) (Int.toNat (U.int i))))) (0 : Nat)) != U.int (nth (U.i (0 : Int)) (List.tail (U.list (nth (U.i (0 : Int)) (U.list 
  S') (Int.toNat (U.int i))))) (0 : Nat)) then k Ex.ret (St.mk [(nat_lit 4, SV.val Ct.bool (U.b false))] []) else bif !tabE (U.list (nth (U.i (0 : Int)) (List.tail (List.tail (U.list (nth (U.i (0 : Int)) 
  (U.list S) (Int.toNat (U.int i)))))) (0 : Nat))) (U.list (nth (U.i (0 : Int)) (List.tail (List.tail (U.list (nth (U.i (0 : Int)) (U.list S') (Int.toNat (U.int i)))))) (0 : Nat))) then k Ex.ret (St.mk [(nat_lit 
  4, SV.val Ct.bool (U.b false))] []) else bif Nat.blt (μ [SV.val (Ct.int IntKind.i64) (U.i (IntKind.wrap IntKind.i64 (U.int i + (1 : Int)))), SV.ptr (nat_lit 256) (nat_lit 0), SV.ptr (nat_lit 384) (nat_lit 
  0)] [Obj.box [SV.val (Ct.int IntKind.i64) c, SV.val (Ct.int IntKind.i64) sz, SV.val Ct.str bk, SV.val (Ct.sl false [Ct.sl true [Ct.int IntKind.i64, Ct.int IntKind.i64, Ct.int IntKind.i64, Ct.int IntKind.i64, 
  Ct.int IntKind.u32]]) T, SV.val (Ct.sl true [Ct.str, Ct.int IntKind.i64, Ct.sl false [Ct.sl true [Ct.int IntKind.i64, Ct.int IntKind.i64, Ct.int IntKind.i64, Ct.int IntKind.i64, Ct.int IntKind.u32]]]) 
  S, SV.val (Ct.sl true [Ct.str, Ct.bool, Ct.sl true [Ct.int IntKind.i64, Ct.int IntKind.i64]]) M, SV.val (Ct.sl false [Ct.int IntKind.i64]) Q], Obj.box [SV.val (Ct.int IntKind.i64) c', SV.val (Ct.int IntKind.i64) 
  sz', SV.val Ct.str bk', SV.val (Ct.sl false [Ct.sl true [Ct.int IntKind.i64, Ct.int IntKind.i64, Ct.int IntKind.i64, Ct.int IntKind.i64, Ct.int IntKind.u32]]) T', SV.val (Ct.sl true [Ct.str, Ct.int IntKind.i64, 
  Ct.sl false [Ct.sl true [Ct.int IntKind.i64, Ct.int IntKind.i64, Ct.int IntKind.i64, Ct.int IntKind.i64, Ct.int IntKind.u32]]]) S', SV.val (Ct.sl true [Ct.str, Ct.bool, Ct.sl true [Ct.int IntKind.i64, 
  Ct.int IntKind.i64]]) M', SV.val (Ct.sl false [Ct.int IntKind.i64]) Q']]) N then ((nat_lit 256 = nat_lit 256 ∧ nat_lit 0 = nat_lit 0 ∧ nat_lit 384 = nat_lit 384 ∧ nat_lit 0 = nat_lit 0) ∧ ([Ct.int IntKind.i64, 
  Ct.int IntKind.i64, Ct.int IntKind.i64, Ct.int IntKind.i64, Ct.int IntKind.u32] = [Ct.int IntKind.i64, Ct.int IntKind.i64, Ct.int IntKind.i64, Ct.int IntKind.i64, Ct.int IntKind.u32] ∧ [Ct.str, Ct.int 
  IntKind.i64, Ct.sl false [Ct.sl true [Ct.int IntKind.i64, Ct.int IntKind.i64, Ct.int IntKind.i64, Ct.int IntKind.i64, Ct.int IntKind.u32]]] = [Ct.str, Ct.int IntKind.i64, Ct.sl false [Ct.sl true [Ct.int 
  IntKind.i64, Ct.int IntKind.i64, Ct.int IntKind.i64, Ct.int IntKind.i64, Ct.int IntKind.u32]]] ∧ [Ct.str, Ct.bool, Ct.sl true [Ct.int IntKind.i64, Ct.int IntKind.i64]] = [Ct.str, Ct.bool, Ct.sl true [Ct.int 
  IntKind.i64, Ct.int IntKind.i64]]) ∧ ([Ct.int IntKind.i64, Ct.int IntKind.i64, Ct.int IntKind.i64, Ct.int IntKind.i64, Ct.int IntKind.u32] = [Ct.int IntKind.i64, Ct.int IntKind.i64, Ct.int IntKind.i64, 
  Ct.int IntKind.i64, Ct.int IntKind.u32] ∧ [Ct.str, Ct.int IntKind.i64, Ct.sl false [Ct.sl true [Ct.int IntKind.i64, Ct.int IntKind.i64, Ct.int IntKind.i64, Ct.int IntKind.i64, Ct.int IntKind.u32]]] = [Ct.str, 
  Ct.int IntKind.i64, Ct.sl false [Ct.sl true [Ct.int IntKind.i64, Ct.int IntKind.i64, Ct.int IntKind.i64, Ct.int IntKind.i64, Ct.int IntKind.u32]]] ∧ [Ct.str, Ct.bool, Ct.sl true [Ct.int IntKind.i64, Ct.int 
  IntKind.i64]] = [Ct.str, Ct.bool, Ct.sl true [Ct.int IntKind.i64, Ct.int IntKind.i64]]) ∧ List.length (U.list S) = List.length (U.list S') ∧ (0 : Int) ≤ IntKind.wrap IntKind.i64 (U.int i + (1 : Int)) ∧ 
  IntKind.wrap IntKind.i64 (U.int i + (1 : Int)) ≤ (↑(List.length (U.list S)) : Int)) ∧ bif shotsE (List.drop (Int.toNat (IntKind.wrap IntKind.i64 (U.int i + (1 : Int)))) (U.list S)) (List.drop (Int.toNat 
  (IntKind.wrap IntKind.i64 (U.int i + (1 : Int)))) (U.list S')) then k (Ex.exit (nat_lit 0)) (St.mk [(nat_lit 4, SV.unk)] []) else k Ex.ret (St.mk [(nat_lit 4, SV.val Ct.bool (U.b false))] []) else False 
  else False) else False) (bif decide ((0 : Int) ≤ U.int i ∧ U.int i < (↑(List.length (U.list S')) : Int)) then bif decide ((0 : Int) ≤ U.int i ∧ U.int i < (↑(List.length (U.list S)) : Int)) then bif !ByteArray.toList 
  (U.str (nth (U.i (0 : Int)) (U.list (nth (U.i (0 : Int)) (U.list S) (Int.toNat (U.int i)))) (0 : Nat))) == ByteArray.toList (U.str (nth (U.i (0 : Int)) (U.list (nth (U.i (0 : Int)) (U.list S') (Int.toNat 
  (U.int i)))) (0 : Nat))) then k Ex.ret (St.mk [(nat_lit 4, SV.val Ct.bool (U.b false))] []) else bif U.int (nth (U.i (0 : Int)) (List.tail (U.list (nth (U.i (0 : Int)) (U.list S) (Int.toNat (U.int i))))) 
  (0 : Nat)) != U.int (nth (U.i (0 : Int)) (List.tail (U.list (nth (U.i (0 : Int)) (U.list S') (Int.toNat (U.int i))))) (0 : Nat)) then k Ex.ret (St.mk [(nat_lit 4, SV.val Ct.bool (U.b false))] []) else 
  bif !tabE (U.list (nth (U.i (0 : Int)) (List.tail (List.tail (U.list (nth (U.i (0 : Int)) (U.list S) (Int.toNat (U.int i)))))) (0 : Nat))) (U.list (nth (U.i (0 : Int)) (List.tail (List.tail (U.list (nth 
  (U.i (0 : Int)) (U.list S') (Int.toNat (U.int i)))))) (0 : Nat))) then k Ex.ret (St.mk [(nat_lit 4, SV.val Ct.bool (U.b false))] []) else bif Nat.blt (μ [SV.val (Ct.int IntKind.i64) (U.i (IntKind.wrap 
  IntKind.i64 (U.int i + (1 : Int)))), SV.ptr (nat_lit 256) (nat_lit 0), SV.ptr (nat_lit 384) (nat_lit 0)] [Obj.box [SV.val (Ct.int IntKind.i64) c, SV.val (Ct.int IntKind.i64) sz, SV.val Ct.str bk, SV.val 
  (Ct.sl false [Ct.sl true [Ct.int IntKind.i64, Ct.int IntKind.i64, Ct.int IntKind.i64, Ct.int IntKind.i64, Ct.int IntKind.u32]]) T, SV.val (Ct.sl true [Ct.str, Ct.int IntKind.i64, Ct.sl false [Ct.sl true 
  [Ct.int IntKind.i64, Ct.int IntKind.i64, Ct.int IntKind.i64, Ct.int IntKind.i64, Ct.int IntKind.u32]]]) S, SV.val (Ct.sl true [Ct.str, Ct.bool, Ct.sl true [Ct.int IntKind.i64, Ct.int IntKind.i64]]) M, 
  SV.val (Ct.sl false [Ct.int IntKind.i64]) Q], Obj.box [SV.val (Ct.int IntKind.i64) c', SV.val (Ct.int IntKind.i64) sz', SV.val Ct.str bk', SV.val (Ct.sl false [Ct.sl true [Ct.int IntKind.i64, Ct.int IntKind.i64, 
  Ct.int IntKind.i64, Ct.int IntKind.i64, Ct.int IntKind.u32]]) T', SV.val (Ct.sl true [Ct.str, Ct.int IntKind.i64, Ct.sl false [Ct.sl true [Ct.int IntKind.i64, Ct.int IntKind.i64, Ct.int IntKind.i64, Ct.int 
  IntKind.i64, Ct.int IntKind.u32]]]) S', SV.val (Ct.sl true [Ct.str, Ct.bool, Ct.sl true [Ct.int IntKind.i64, Ct.int IntKind.i64]]) M', SV.val (Ct.sl false [Ct.int IntKind.i64]) Q']]) N then ((nat_lit 256 
  = nat_lit 256 ∧ nat_lit 0 = nat_lit 0 ∧ nat_lit 384 = nat_lit 384 ∧ nat_lit 0 = nat_lit 0) ∧ ([Ct.int IntKind.i64, Ct.int IntKind.i64, Ct.int IntKind.i64, Ct.int IntKind.i64, Ct.int IntKind.u32] = [Ct.int 
  IntKind.i64, Ct.int IntKind.i64, Ct.int IntKind.i64, Ct.int IntKind.i64, Ct.int IntKind.u32] ∧ [Ct.str, Ct.int IntKind.i64, Ct.sl false [Ct.sl true [Ct.int IntKind.i64, Ct.int IntKind.i64, Ct.int IntKind.i64, 
  Ct.int IntKind.i64, Ct.int IntKind.u32]]] = [Ct.str, Ct.int IntKind.i64, Ct.sl false [Ct.sl true [Ct.int IntKind.i64, Ct.int IntKind.i64, Ct.int IntKind.i64, Ct.int IntKind.i64, Ct.int IntKind.u32]]] ∧ 
  [Ct.str, Ct.bool, Ct.sl true [Ct.int IntKind.i64, Ct.int IntKind.i64]] = [Ct.str, Ct.bool, Ct.sl true [Ct.int IntKind.i64, Ct.int IntKind.i64]]) ∧ ([Ct.int IntKind.i64, Ct.int IntKind.i64, Ct.int IntKind.i64, 
  Ct.int IntKind.i64, Ct.int IntKind.u32] = [Ct.int IntKind.i64, Ct.int IntKind.i64, Ct.int IntKind.i64, Ct.int IntKind.i64, Ct.int IntKind.u32] ∧ [Ct.str, Ct.int IntKind.i64, Ct.sl false [Ct.sl true [Ct.int 
  IntKind.i64, Ct.int IntKind.i64, Ct.int IntKind.i64, Ct.int IntKind.i64, Ct.int IntKind.u32]]] = [Ct.str, Ct.int IntKind.i64, Ct.sl false [Ct.sl true [Ct.int IntKind.i64, Ct.int IntKind.i64, Ct.int IntKind.i64, 
  Ct.int IntKind.i64, Ct.int IntKind.u32]]] ∧ [Ct.str, Ct.bool, Ct.sl true [Ct.int IntKind.i64, Ct.int IntKind.i64]] = [Ct.str, Ct.bool, Ct.sl true [Ct.int IntKind.i64, Ct.int IntKind.i64]]) ∧ List.length 
  (U.list S) = List.length (U.list S') ∧ (0 : Int) ≤ IntKind.wrap IntKind.i64 (U.int i + (1 : Int)) ∧ IntKind.wrap IntKind.i64 (U.int i + (1 : Int)) ≤ (↑(List.length (U.list S)) : Int)) ∧ bif shotsE (List.drop 
  (Int.toNat (IntKind.wrap IntKind.i64 (U.int i + (1 : Int)))) (U.list S)) (List.drop (Int.toNat (IntKind.wrap IntKind.i64 (U.int i + (1 : Int)))) (U.list S')) then k (Ex.exit (nat_lit 0)) (St.mk [(nat_lit 
  4, SV.unk)] []) else k Ex.ret (St.mk [(nat_lit 4, SV.val Ct.bool (U.b false))] []) else False else False else False)))))) else k (Ex.exit (nat_lit 0)) (St.mk [(nat_lit 4, SV.unk)] [])) := by kernel_rfl
theorem same_round (pan : KP) (μ : Mu) (N : Nat) (k : KE) (i c sz bk T S M Q c' sz' bk' T' S' M' Q' : U) : (exec (sameC.panics pan) (loopBody Try.f17 0) 0 ⟨[(5, vi i), (2, .ptr 256 0), (3, .ptr 384 0)], [(256, .box (mCells c sz bk T S M Q)), (384, .box (mCells c' sz' bk' T' S' M' Q'))]⟩ (again PR (some ([4], [])) none pan [5, 2, 3] [256, 384] sameLoop μ N k)) = (bif decide (U.int i < (↑(List.length (U.list S)) : Int)) then Alt (bif decide ((0 : Int) ≤ U.int i ∧ U.int i < (↑(List.length (U.list S)) : Int)) then Alt (bif decide ((0 : Int) ≤ U.int i ∧ U.int i < (↑(List.length (U.list S')) : Int)) then (bif !ByteArray.toList (U.str (nth (U.i (0 : Int)) (U.list (nth (U.i (0 : Int)) (U.list S) (Int.toNat (U.int i)))) (0 : Nat))) == ByteArray.toList (U.str (nth (U.i (0 : Int)) (U.list (nth (U.i (0 : Int)) (U.list S') (Int.toNat (U.int i)))) (0 : Nat))) then k Ex.ret (St.mk [(nat_lit 4, SV.val Ct.bool (U.b false))] []) else bif U.int (nth (U.i (0 : Int)) (List.tail (U.list (nth (U.i (0 : Int)) (U.list S) (Int.toNat (U.int i))))) (0 : Nat)) != U.int (nth (U.i (0 : Int)) (List.tail (U.list (nth (U.i (0 : Int)) (U.list S') (Int.toNat (U.int i))))) (0 : Nat)) then k Ex.ret (St.mk [(nat_lit 4, SV.val Ct.bool (U.b false))] []) else bif !tabE (U.list (nth (U.i (0 : Int)) (List.tail (List.tail (U.list (nth (U.i (0 : Int)) (U.list S) (Int.toNat (U.int i)))))) (0 : Nat))) (U.list (nth (U.i (0 : Int)) (List.tail (List.tail (U.list (nth (U.i (0 : Int)) (U.list S') (Int.toNat (U.int i)))))) (0 : Nat))) then k Ex.ret (St.mk [(nat_lit 4, SV.val Ct.bool (U.b false))] []) else bif Nat.blt (μ [SV.val (Ct.int IntKind.i64) (U.i (IntKind.wrap IntKind.i64 (U.int i + (1 : Int)))), SV.ptr (nat_lit 256) (nat_lit 0), SV.ptr (nat_lit 384) (nat_lit 0)] [Obj.box [SV.val (Ct.int IntKind.i64) c, SV.val (Ct.int IntKind.i64) sz, SV.val Ct.str bk, SV.val (Ct.sl false [Ct.sl true [Ct.int IntKind.i64, Ct.int IntKind.i64, Ct.int IntKind.i64, Ct.int IntKind.i64, Ct.int IntKind.u32]]) T, SV.val (Ct.sl true [Ct.str, Ct.int IntKind.i64, Ct.sl false [Ct.sl true [Ct.int IntKind.i64, Ct.int IntKind.i64, Ct.int IntKind.i64, Ct.int IntKind.i64, Ct.int IntKind.u32]]]) S, SV.val (Ct.sl true [Ct.str, Ct.bool, Ct.sl true [Ct.int IntKind.i64, Ct.int IntKind.i64]]) M, SV.val (Ct.sl false [Ct.int IntKind.i64]) Q], Obj.box [SV.val (Ct.int IntKind.i64) c', SV.val (Ct.int IntKind.i64) sz', SV.val Ct.str bk', SV.val (Ct.sl false [Ct.sl true [Ct.int IntKind.i64, Ct.int IntKind.i64, Ct.int IntKind.i64, Ct.int IntKind.i64, Ct.int IntKind.u32]]) T', SV.val (Ct.sl true [Ct.str, Ct.int IntKind.i64, Ct.sl false [Ct.sl true [Ct.int IntKind.i64, Ct.int IntKind.i64, Ct.int IntKind.i64, Ct.int IntKind.i64, Ct.int IntKind.u32]]]) S', SV.val (Ct.sl true [Ct.str, Ct.bool, Ct.sl true [Ct.int IntKind.i64, Ct.int IntKind.i64]]) M', SV.val (Ct.sl false [Ct.int IntKind.i64]) Q']]) N then ((nat_lit 256 = nat_lit 256 ∧ nat_lit 0 = nat_lit 0 ∧ nat_lit 384 = nat_lit 384 ∧ nat_lit 0 = nat_lit 0) ∧ ([Ct.int IntKind.i64, Ct.int IntKind.i64, Ct.int IntKind.i64, Ct.int IntKind.i64, Ct.int IntKind.u32] = [Ct.int IntKind.i64, Ct.int IntKind.i64, Ct.int IntKind.i64, Ct.int IntKind.i64, Ct.int IntKind.u32] ∧ [Ct.str, Ct.int IntKind.i64, Ct.sl false [Ct.sl true [Ct.int IntKind.i64, Ct.int IntKind.i64, Ct.int IntKind.i64, Ct.int IntKind.i64, Ct.int IntKind.u32]]] = [Ct.str, Ct.int IntKind.i64, Ct.sl false [Ct.sl true [Ct.int IntKind.i64, Ct.int IntKind.i64, Ct.int IntKind.i64, Ct.int IntKind.i64, Ct.int IntKind.u32]]] ∧ [Ct.str, Ct.bool, Ct.sl true [Ct.int IntKind.i64, Ct.int IntKind.i64]] = [Ct.str, Ct.bool, Ct.sl true [Ct.int IntKind.i64, Ct.int IntKind.i64]]) ∧ ([Ct.int IntKind.i64, Ct.int IntKind.i64, Ct.int IntKind.i64, Ct.int IntKind.i64, Ct.int IntKind.u32] = [Ct.int IntKind.i64, Ct.int IntKind.i64, Ct.int IntKind.i64, Ct.int IntKind.i64, Ct.int IntKind.u32] ∧ [Ct.str, Ct.int IntKind.i64, Ct.sl false [Ct.sl true [Ct.int IntKind.i64, Ct.int IntKind.i64, Ct.int IntKind.i64, Ct.int IntKind.i64, Ct.int IntKind.u32]]] = [Ct.str, Ct.int IntKind.i64, Ct.sl false [Ct.sl true [Ct.int IntKind.i64, Ct.int IntKind.i64, Ct.int IntKind.i64, Ct.int IntKind.i64, Ct.int IntKind.u32]]] ∧ [Ct.str, Ct.bool, Ct.sl true [Ct.int IntKind.i64, Ct.int IntKind.i64]] = [Ct.str, Ct.bool, Ct.sl true [Ct.int IntKind.i64, Ct.int IntKind.i64]]) ∧ List.length (U.list S) = List.length (U.list S') ∧ (0 : Int) ≤ IntKind.wrap IntKind.i64 (U.int i + (1 : Int)) ∧ IntKind.wrap IntKind.i64 (U.int i + (1 : Int)) ≤ (↑(List.length (U.list S)) : Int)) ∧ bif shotsE (List.drop (Int.toNat (IntKind.wrap IntKind.i64 (U.int i + (1 : Int)))) (U.list S)) (List.drop (Int.toNat (IntKind.wrap IntKind.i64 (U.int i + (1 : Int)))) (U.list S')) then k (Ex.exit (nat_lit 0)) (St.mk [(nat_lit 4, SV.unk)] []) else k Ex.ret (St.mk [(nat_lit 4, SV.val Ct.bool (U.b false))] []) else False) else False) ( (bif decide ((0 : Int) ≤ U.int i ∧ U.int i < (↑(List.length (U.list S')) : Int)) then bif !ByteArray.toList (U.str (nth (U.i (0 : Int)) (U.list (nth (U.i (0 : Int)) (U.list S) (Int.toNat (U.int i)))) (0 : Nat))) == ByteArray.toList (U.str (nth (U.i (0 : Int)) (U.list (nth (U.i (0 : Int)) (U.list S') (Int.toNat (U.int i)))) (0 : Nat))) then k Ex.ret (St.mk [(nat_lit 4, SV.val Ct.bool (U.b false))] []) else bif U.int (nth (U.i (0 : Int)) (List.tail (U.list (nth (U.i (0 : Int)) (U.list S) (Int.toNat (U.int i))))) (0 : Nat)) != U.int (nth (U.i (0 : Int)) (List.tail (U.list (nth (U.i (0 : Int)) (U.list S') (Int.toNat (U.int i))))) (0 : Nat)) then k Ex.ret (St.mk [(nat_lit 4, SV.val Ct.bool (U.b false))] []) else bif !tabE (U.list (nth (U.i (0 : Int)) (List.tail (List.tail (U.list (nth (U.i (0 : Int)) (U.list S) (Int.toNat (U.int i)))))) (0 : Nat))) (U.list (nth (U.i (0 : Int)) (List.tail (List.tail (U.list (nth (U.i (0 : Int)) (U.list S') (Int.toNat (U.int i)))))) (0 : Nat))) then k Ex.ret (St.mk [(nat_lit 4, SV.val Ct.bool (U.b false))] []) else bif Nat.blt (μ [SV.val (Ct.int IntKind.i64) (U.i (IntKind.wrap IntKind.i64 (U.int i + (1 : Int)))), SV.ptr (nat_lit 256) (nat_lit 0), SV.ptr (nat_lit 384) (nat_lit 0)] [Obj.box [SV.val (Ct.int IntKind.i64) c, SV.val (Ct.int IntKind.i64) sz, SV.val Ct.str bk, SV.val (Ct.sl false [Ct.sl true [Ct.int IntKind.i64, Ct.int IntKind.i64, Ct.int IntKind.i64, Ct.int IntKind.i64, Ct.int IntKind.u32]]) T, SV.val (Ct.sl true [Ct.str, Ct.int IntKind.i64, Ct.sl false [Ct.sl true [Ct.int IntKind.i64, Ct.int IntKind.i64, Ct.int IntKind.i64, Ct.int IntKind.i64, Ct.int IntKind.u32]]]) S, SV.val (Ct.sl true [Ct.str, Ct.bool, Ct.sl true [Ct.int IntKind.i64, Ct.int IntKind.i64]]) M, SV.val (Ct.sl false [Ct.int IntKind.i64]) Q], Obj.box [SV.val (Ct.int IntKind.i64) c', SV.val (Ct.int IntKind.i64) sz', SV.val Ct.str bk', SV.val (Ct.sl false [Ct.sl true [Ct.int IntKind.i64, Ct.int IntKind.i64, Ct.int IntKind.i64, Ct.int IntKind.i64, Ct.int IntKind.u32]]) T', SV.val (Ct.sl true [Ct.str, Ct.int IntKind.i64, Ct.sl false [Ct.sl true [Ct.int IntKind.i64, Ct.int IntKind.i64, Ct.int IntKind.i64, Ct.int IntKind.i64, Ct.int IntKind.u32]]]) S', SV.val (Ct.sl true [Ct.str, Ct.bool, Ct.sl true [Ct.int IntKind.i64, Ct.int IntKind.i64]]) M', SV.val (Ct.sl false [Ct.int IntKind.i64]) Q']]) N then ((nat_lit 256 = nat_lit 256 ∧ nat_lit 0 = nat_lit 0 ∧ nat_lit 384 = nat_lit 384 ∧ nat_lit 0 = nat_lit 0) ∧ ([Ct.int IntKind.i64, Ct.int IntKind.i64, Ct.int IntKind.i64, Ct.int IntKind.i64, Ct.int IntKind.u32] = [Ct.int IntKind.i64, Ct.int IntKind.i64, Ct.int IntKind.i64, Ct.int IntKind.i64, Ct.int IntKind.u32] ∧ [Ct.str, Ct.int IntKind.i64, Ct.sl false [Ct.sl true [Ct.int IntKind.i64, Ct.int IntKind.i64, Ct.int IntKind.i64, Ct.int IntKind.i64, Ct.int IntKind.u32]]] = [Ct.str, Ct.int IntKind.i64, Ct.sl false [Ct.sl true [Ct.int IntKind.i64, Ct.int IntKind.i64, Ct.int IntKind.i64, Ct.int IntKind.i64, Ct.int IntKind.u32]]] ∧ [Ct.str, Ct.bool, Ct.sl true [Ct.int IntKind.i64, Ct.int IntKind.i64]] = [Ct.str, Ct.bool, Ct.sl true [Ct.int IntKind.i64, Ct.int IntKind.i64]]) ∧ ([Ct.int IntKind.i64, Ct.int IntKind.i64, Ct.int IntKind.i64, Ct.int IntKind.i64, Ct.int IntKind.u32] = [Ct.int IntKind.i64, Ct.int IntKind.i64, Ct.int IntKind.i64, Ct.int IntKind.i64, Ct.int IntKind.u32] ∧ [Ct.str, Ct.int IntKind.i64, Ct.sl false [Ct.sl true [Ct.int IntKind.i64, Ct.int IntKind.i64, Ct.int IntKind.i64, Ct.int IntKind.i64, Ct.int IntKind.u32]]] = [Ct.str, Ct.int IntKind.i64, Ct.sl false [Ct.sl true [Ct.int IntKind.i64, Ct.int IntKind.i64, Ct.int IntKind.i64, Ct.int IntKind.i64, Ct.int IntKind.u32]]] ∧ [Ct.str, Ct.bool, Ct.sl true [Ct.int IntKind.i64, Ct.int IntKind.i64]] = [Ct.str, Ct.bool, Ct.sl true [Ct.int IntKind.i64, Ct.int IntKind.i64]]) ∧ List.length (U.list S) = List.length (U.list S') ∧ (0 : Int) ≤ IntKind.wrap IntKind.i64 (U.int i + (1 : Int)) ∧ IntKind.wrap IntKind.i64 (U.int i + (1 : Int)) ≤ (↑(List.length (U.list S)) : Int)) ∧ bif shotsE (List.drop (Int.toNat (IntKind.wrap IntKind.i64 (U.int i + (1 : Int)))) (U.list S)) (List.drop (Int.toNat (IntKind.wrap IntKind.i64 (U.int i + (1 : Int)))) (U.list S')) then k (Ex.exit (nat_lit 0)) (St.mk [(nat_lit 4, SV.unk)] []) else k Ex.ret (St.mk [(nat_lit 4, SV.val Ct.bool (U.b false))] []) else False else False)) else False) (Alt (bif decide ((0 : Int) ≤ U.int i ∧ U.int i < (↑(List.length (U.list S')) : Int)) then Alt (bif decide ((0 : Int) ≤ U.int i ∧ U.int i < (↑(List.length (U.list S)) : Int)) then (bif !ByteArray.toList (U.str (nth (U.i (0 : Int)) (U.list (nth (U.i (0 : Int)) (U.list S) (Int.toNat (U.int i)))) (0 : Nat))) == ByteArray.toList (U.str (nth (U.i (0 : Int)) (U.list (nth (U.i (0 : Int)) (U.list S') (Int.toNat (U.int i)))) (0 : Nat))) then k Ex.ret (St.mk [(nat_lit 4, SV.val Ct.bool (U.b false))] []) else bif U.int (nth (U.i (0 : Int)) (List.tail (U.list (nth (U.i (0 : Int)) (U.list S) (Int.toNat (U.int i))))) (0 : Nat)) != U.int (nth (U.i (0 : Int)) (List.tail (U.list (nth (U.i (0 : Int)) (U.list S') (Int.toNat (U.int i))))) (0 : Nat)) then k Ex.ret (St.mk [(nat_lit 4, SV.val Ct.bool (U.b false))] []) else bif !tabE (U.list (nth (U.i (0 : Int)) (List.tail (List.tail (U.list (nth (U.i (0 : Int)) (U.list S) (Int.toNat (U.int i)))))) (0 : Nat))) (U.list (nth (U.i (0 : Int)) (List.tail (List.tail (U.list (nth (U.i (0 : Int)) (U.list S') (Int.toNat (U.int i)))))) (0 : Nat))) then k Ex.ret (St.mk [(nat_lit 4, SV.val Ct.bool (U.b false))] []) else bif Nat.blt (μ [SV.val (Ct.int IntKind.i64) (U.i (IntKind.wrap IntKind.i64 (U.int i + (1 : Int)))), SV.ptr (nat_lit 256) (nat_lit 0), SV.ptr (nat_lit 384) (nat_lit 0)] [Obj.box [SV.val (Ct.int IntKind.i64) c, SV.val (Ct.int IntKind.i64) sz, SV.val Ct.str bk, SV.val (Ct.sl false [Ct.sl true [Ct.int IntKind.i64, Ct.int IntKind.i64, Ct.int IntKind.i64, Ct.int IntKind.i64, Ct.int IntKind.u32]]) T, SV.val (Ct.sl true [Ct.str, Ct.int IntKind.i64, Ct.sl false [Ct.sl true [Ct.int IntKind.i64, Ct.int IntKind.i64, Ct.int IntKind.i64, Ct.int IntKind.i64, Ct.int IntKind.u32]]]) S, SV.val (Ct.sl true [Ct.str, Ct.bool, Ct.sl true [Ct.int IntKind.i64, Ct.int IntKind.i64]]) M, SV.val (Ct.sl false [Ct.int IntKind.i64]) Q], Obj.box [SV.val (Ct.int IntKind.i64) c', SV.val (Ct.int IntKind.i64) sz', SV.val Ct.str bk', SV.val (Ct.sl false [Ct.sl true [Ct.int IntKind.i64, Ct.int IntKind.i64, Ct.int IntKind.i64, Ct.int IntKind.i64, Ct.int IntKind.u32]]) T', SV.val (Ct.sl true [Ct.str, Ct.int IntKind.i64, Ct.sl false [Ct.sl true [Ct.int IntKind.i64, Ct.int IntKind.i64, Ct.int IntKind.i64, Ct.int IntKind.i64, Ct.int IntKind.u32]]]) S', SV.val (Ct.sl true [Ct.str, Ct.bool, Ct.sl true [Ct.int IntKind.i64, Ct.int IntKind.i64]]) M', SV.val (Ct.sl false [Ct.int IntKind.i64]) Q']]) N then ((nat_lit 256 = nat_lit 256 ∧ nat_lit 0 = nat_lit 0 ∧ nat_lit 384 = nat_lit 384 ∧ nat_lit 0 = nat_lit 0) ∧ ([Ct.int IntKind.i64, Ct.int IntKind.i64, Ct.int IntKind.i64, Ct.int IntKind.i64, Ct.int IntKind.u32] = [Ct.int IntKind.i64, Ct.int IntKind.i64, Ct.int IntKind.i64, Ct.int IntKind.i64, Ct.int IntKind.u32] ∧ [Ct.str, Ct.int IntKind.i64, Ct.sl false [Ct.sl true [Ct.int IntKind.i64, Ct.int IntKind.i64, Ct.int IntKind.i64, Ct.int IntKind.i64, Ct.int IntKind.u32]]] = [Ct.str, Ct.int IntKind.i64, Ct.sl false [Ct.sl true [Ct.int IntKind.i64, Ct.int IntKind.i64, Ct.int IntKind.i64, Ct.int IntKind.i64, Ct.int IntKind.u32]]] ∧ [Ct.str, Ct.bool, Ct.sl true [Ct.int IntKind.i64, Ct.int IntKind.i64]] = [Ct.str, Ct.bool, Ct.sl true [Ct.int IntKind.i64, Ct.int IntKind.i64]]) ∧ ([Ct.int IntKind.i64, Ct.int IntKind.i64, Ct.int IntKind.i64, Ct.int IntKind.i64, Ct.int IntKind.u32] = [Ct.int IntKind.i64, Ct.int IntKind.i64, Ct.int IntKind.i64, Ct.int IntKind.i64, Ct.int IntKind.u32] ∧ [Ct.str, Ct.int IntKind.i64, Ct.sl false [Ct.sl true [Ct.int IntKind.i64, Ct.int IntKind.i64, Ct.int IntKind.i64, Ct.int IntKind.i64, Ct.int IntKind.u32]]] = [Ct.str, Ct.int IntKind.i64, Ct.sl false [Ct.sl true [Ct.int IntKind.i64, Ct.int IntKind.i64, Ct.int IntKind.i64, Ct.int IntKind.i64, Ct.int IntKind.u32]]] ∧ [Ct.str, Ct.bool, Ct.sl true [Ct.int IntKind.i64, Ct.int IntKind.i64]] = [Ct.str, Ct.bool, Ct.sl true [Ct.int IntKind.i64, Ct.int IntKind.i64]]) ∧ List.length (U.list S) = List.length (U.list S') ∧ (0 : Int) ≤ IntKind.wrap IntKind.i64 (U.int i + (1 : Int)) ∧ IntKind.wrap IntKind.i64 (U.int i + (1 : Int)) ≤ (↑(List.length (U.list S)) : Int)) ∧ bif shotsE (List.drop (Int.toNat (IntKind.wrap IntKind.i64 (U.int i + (1 : Int)))) (U.list S)) (List.drop (Int.toNat (IntKind.wrap IntKind.i64 (U.int i + (1 : Int)))) (U.list S')) then k (Ex.exit (nat_lit 0)) (St.mk [(nat_lit 4, SV.unk)] []) else k Ex.ret (St.mk [(nat_lit 4, SV.val Ct.bool (U.b false))] []) else False) else False) ( (bif decide ((0 : Int) ≤ U.int i ∧ U.int i < (↑(List.length (U.list S)) : Int)) then bif !ByteArray.toList (U.str (nth (U.i (0 : Int)) (U.list (nth (U.i (0 : Int)) (U.list S) (Int.toNat (U.int i)))) (0 : Nat))) == ByteArray.toList (U.str (nth (U.i (0 : Int)) (U.list (nth (U.i (0 : Int)) (U.list S') (Int.toNat (U.int i)))) (0 : Nat))) then k Ex.ret (St.mk [(nat_lit 4, SV.val Ct.bool (U.b false))] []) else bif U.int (nth (U.i (0 : Int)) (List.tail (U.list (nth (U.i (0 : Int)) (U.list S) (Int.toNat (U.int i))))) (0 : Nat)) != U.int (nth (U.i (0 : Int)) (List.tail (U.list (nth (U.i (0 : Int)) (U.list S') (Int.toNat (U.int i))))) (0 : Nat)) then k Ex.ret (St.mk [(nat_lit 4, SV.val Ct.bool (U.b false))] []) else bif !tabE (U.list (nth (U.i (0 : Int)) (List.tail (List.tail (U.list (nth (U.i (0 : Int)) (U.list S) (Int.toNat (U.int i)))))) (0 : Nat))) (U.list (nth (U.i (0 : Int)) (List.tail (List.tail (U.list (nth (U.i (0 : Int)) (U.list S') (Int.toNat (U.int i)))))) (0 : Nat))) then k Ex.ret (St.mk [(nat_lit 4, SV.val Ct.bool (U.b false))] []) else bif Nat.blt (μ [SV.val (Ct.int IntKind.i64) (U.i (IntKind.wrap IntKind.i64 (U.int i + (1 : Int)))), SV.ptr (nat_lit 256) (nat_lit 0), SV.ptr (nat_lit 384) (nat_lit 0)] [Obj.box [SV.val (Ct.int IntKind.i64) c, SV.val (Ct.int IntKind.i64) sz, SV.val Ct.str bk, SV.val (Ct.sl false [Ct.sl true [Ct.int IntKind.i64, Ct.int IntKind.i64, Ct.int IntKind.i64, Ct.int IntKind.i64, Ct.int IntKind.u32]]) T, SV.val (Ct.sl true [Ct.str, Ct.int IntKind.i64, Ct.sl false [Ct.sl true [Ct.int IntKind.i64, Ct.int IntKind.i64, Ct.int IntKind.i64, Ct.int IntKind.i64, Ct.int IntKind.u32]]]) S, SV.val (Ct.sl true [Ct.str, Ct.bool, Ct.sl true [Ct.int IntKind.i64, Ct.int IntKind.i64]]) M, SV.val (Ct.sl false [Ct.int IntKind.i64]) Q], Obj.box [SV.val (Ct.int IntKind.i64) c', SV.val (Ct.int IntKind.i64) sz', SV.val Ct.str bk', SV.val (Ct.sl false [Ct.sl true [Ct.int IntKind.i64, Ct.int IntKind.i64, Ct.int IntKind.i64, Ct.int IntKind.i64, Ct.int IntKind.u32]]) T', SV.val (Ct.sl true [Ct.str, Ct.int IntKind.i64, Ct.sl false [Ct.sl true [Ct.int IntKind.i64, Ct.int IntKind.i64, Ct.int IntKind.i64, Ct.int IntKind.i64, Ct.int IntKind.u32]]]) S', SV.val (Ct.sl true [Ct.str, Ct.bool, Ct.sl true [Ct.int IntKind.i64, Ct.int IntKind.i64]]) M', SV.val (Ct.sl false [Ct.int IntKind.i64]) Q']]) N then ((nat_lit 256 = nat_lit 256 ∧ nat_lit 0 = nat_lit 0 ∧ nat_lit 384 = nat_lit 384 ∧ nat_lit 0 = nat_lit 0) ∧ ([Ct.int IntKind.i64, Ct.int IntKind.i64, Ct.int IntKind.i64, Ct.int IntKind.i64, Ct.int IntKind.u32] = [Ct.int IntKind.i64, Ct.int IntKind.i64, Ct.int IntKind.i64, Ct.int IntKind.i64, Ct.int IntKind.u32] ∧ [Ct.str, Ct.int IntKind.i64, Ct.sl false [Ct.sl true [Ct.int IntKind.i64, Ct.int IntKind.i64, Ct.int IntKind.i64, Ct.int IntKind.i64, Ct.int IntKind.u32]]] = [Ct.str, Ct.int IntKind.i64, Ct.sl false [Ct.sl true [Ct.int IntKind.i64, Ct.int IntKind.i64, Ct.int IntKind.i64, Ct.int IntKind.i64, Ct.int IntKind.u32]]] ∧ [Ct.str, Ct.bool, Ct.sl true [Ct.int IntKind.i64, Ct.int IntKind.i64]] = [Ct.str, Ct.bool, Ct.sl true [Ct.int IntKind.i64, Ct.int IntKind.i64]]) ∧ ([Ct.int IntKind.i64, Ct.int IntKind.i64, Ct.int IntKind.i64, Ct.int IntKind.i64, Ct.int IntKind.u32] = [Ct.int IntKind.i64, Ct.int IntKind.i64, Ct.int IntKind.i64, Ct.int IntKind.i64, Ct.int IntKind.u32] ∧ [Ct.str, Ct.int IntKind.i64, Ct.sl false [Ct.sl true [Ct.int IntKind.i64, Ct.int IntKind.i64, Ct.int IntKind.i64, Ct.int IntKind.i64, Ct.int IntKind.u32]]] = [Ct.str, Ct.int IntKind.i64, Ct.sl false [Ct.sl true [Ct.int IntKind.i64, Ct.int IntKind.i64, Ct.int IntKind.i64, Ct.int IntKind.i64, Ct.int IntKind.u32]]] ∧ [Ct.str, Ct.bool, Ct.sl true [Ct.int IntKind.i64, Ct.int IntKind.i64]] = [Ct.str, Ct.bool, Ct.sl true [Ct.int IntKind.i64, Ct.int IntKind.i64]]) ∧ List.length (U.list S) = List.length (U.list S') ∧ (0 : Int) ≤ IntKind.wrap IntKind.i64 (U.int i + (1 : Int)) ∧ IntKind.wrap IntKind.i64 (U.int i + (1 : Int)) ≤ (↑(List.length (U.list S)) : Int)) ∧ bif shotsE (List.drop (Int.toNat (IntKind.wrap IntKind.i64 (U.int i + (1 : Int)))) (U.list S)) (List.drop (Int.toNat (IntKind.wrap IntKind.i64 (U.int i + (1 : Int)))) (U.list S')) then k (Ex.exit (nat_lit 0)) (St.mk [(nat_lit 4, SV.unk)] []) else k Ex.ret (St.mk [(nat_lit 4, SV.val Ct.bool (U.b false))] []) else False else False)) else False) (Alt (Alt (bif decide ((0 : Int) ≤ U.int i ∧ U.int i < (↑(List.length (U.list S)) : Int)) then (bif decide ((0 : Int) ≤ U.int i ∧ U.int i < (↑(List.length (U.list S')) : Int)) then bif !ByteArray.toList (U.str (nth (U.i (0 : Int)) (U.list (nth (U.i (0 : Int)) (U.list S) (Int.toNat (U.int i)))) (0 : Nat))) == ByteArray.toList (U.str (nth (U.i (0 : Int)) (U.list (nth (U.i (0 : Int)) (U.list S') (Int.toNat (U.int i)))) (0 : Nat))) then k Ex.ret (St.mk [(nat_lit 4, SV.val Ct.bool (U.b false))] []) else bif U.int (nth (U.i (0 : Int)) (List.tail (U.list (nth (U.i (0 : Int)) (U.list S) (Int.toNat (U.int i))))) (0 : Nat)) != U.int (nth (U.i (0 : Int)) (List.tail (U.list (nth (U.i (0 : Int)) (U.list S') (Int.toNat (U.int i))))) (0 : Nat)) then k Ex.ret (St.mk [(nat_lit 4, SV.val Ct.bool (U.b false))] []) else bif !tabE (U.list (nth (U.i (0 : Int)) (List.tail (List.tail (U.list (nth (U.i (0 : Int)) (U.list S) (Int.toNat (U.int i)))))) (0 : Nat))) (U.list (nth (U.i (0 : Int)) (List.tail (List.tail (U.list (nth (U.i (0 : Int)) (U.list S') (Int.toNat (U.int i)))))) (0 : Nat))) then k Ex.ret (St.mk [(nat_lit 4, SV.val Ct.bool (U.b false))] []) else bif Nat.blt (μ [SV.val (Ct.int IntKind.i64) (U.i (IntKind.wrap IntKind.i64 (U.int i + (1 : Int)))), SV.ptr (nat_lit 256) (nat_lit 0), SV.ptr (nat_lit 384) (nat_lit 0)] [Obj.box [SV.val (Ct.int IntKind.i64) c, SV.val (Ct.int IntKind.i64) sz, SV.val Ct.str bk, SV.val (Ct.sl false [Ct.sl true [Ct.int IntKind.i64, Ct.int IntKind.i64, Ct.int IntKind.i64, Ct.int IntKind.i64, Ct.int IntKind.u32]]) T, SV.val (Ct.sl true [Ct.str, Ct.int IntKind.i64, Ct.sl false [Ct.sl true [Ct.int IntKind.i64, Ct.int IntKind.i64, Ct.int IntKind.i64, Ct.int IntKind.i64, Ct.int IntKind.u32]]]) S, SV.val (Ct.sl true [Ct.str, Ct.bool, Ct.sl true [Ct.int IntKind.i64, Ct.int IntKind.i64]]) M, SV.val (Ct.sl false [Ct.int IntKind.i64]) Q], Obj.box [SV.val (Ct.int IntKind.i64) c', SV.val (Ct.int IntKind.i64) sz', SV.val Ct.str bk', SV.val (Ct.sl false [Ct.sl true [Ct.int IntKind.i64, Ct.int IntKind.i64, Ct.int IntKind.i64, Ct.int IntKind.i64, Ct.int IntKind.u32]]) T', SV.val (Ct.sl true [Ct.str, Ct.int IntKind.i64, Ct.sl false [Ct.sl true [Ct.int IntKind.i64, Ct.int IntKind.i64, Ct.int IntKind.i64, Ct.int IntKind.i64, Ct.int IntKind.u32]]]) S', SV.val (Ct.sl true [Ct.str, Ct.bool, Ct.sl true [Ct.int IntKind.i64, Ct.int IntKind.i64]]) M', SV.val (Ct.sl false [Ct.int IntKind.i64]) Q']]) N then ((nat_lit 256 = nat_lit 256 ∧ nat_lit 0 = nat_lit 0 ∧ nat_lit 384 = nat_lit 384 ∧ nat_lit 0 = nat_lit 0) ∧ ([Ct.int IntKind.i64, Ct.int IntKind.i64, Ct.int IntKind.i64, Ct.int IntKind.i64, Ct.int IntKind.u32] = [Ct.int IntKind.i64, Ct.int IntKind.i64, Ct.int IntKind.i64, Ct.int IntKind.i64, Ct.int IntKind.u32] ∧ [Ct.str, Ct.int IntKind.i64, Ct.sl false [Ct.sl true [Ct.int IntKind.i64, Ct.int IntKind.i64, Ct.int IntKind.i64, Ct.int IntKind.i64, Ct.int IntKind.u32]]] = [Ct.str, Ct.int IntKind.i64, Ct.sl false [Ct.sl true [Ct.int IntKind.i64, Ct.int IntKind.i64, Ct.int IntKind.i64, Ct.int IntKind.i64, Ct.int IntKind.u32]]] ∧ [Ct.str, Ct.bool, Ct.sl true [Ct.int IntKind.i64, Ct.int IntKind.i64]] = [Ct.str, Ct.bool, Ct.sl true [Ct.int IntKind.i64, Ct.int IntKind.i64]]) ∧ ([Ct.int IntKind.i64, Ct.int IntKind.i64, Ct.int IntKind.i64, Ct.int IntKind.i64, Ct.int IntKind.u32] = [Ct.int IntKind.i64, Ct.int IntKind.i64, Ct.int IntKind.i64, Ct.int IntKind.i64, Ct.int IntKind.u32] ∧ [Ct.str, Ct.int IntKind.i64, Ct.sl false [Ct.sl true [Ct.int IntKind.i64, Ct.int IntKind.i64, Ct.int IntKind.i64, Ct.int IntKind.i64, Ct.int IntKind.u32]]] = [Ct.str, Ct.int IntKind.i64, Ct.sl false [Ct.sl true [Ct.int IntKind.i64, Ct.int IntKind.i64, Ct.int IntKind.i64, Ct.int IntKind.i64, Ct.int IntKind.u32]]] ∧ [Ct.str, Ct.bool, Ct.sl true [Ct.int IntKind.i64, Ct.int IntKind.i64]] = [Ct.str, Ct.bool, Ct.sl true [Ct.int IntKind.i64, Ct.int IntKind.i64]]) ∧ List.length (U.list S) = List.length (U.list S') ∧ (0 : Int) ≤ IntKind.wrap IntKind.i64 (U.int i + (1 : Int)) ∧ IntKind.wrap IntKind.i64 (U.int i + (1 : Int)) ≤ (↑(List.length (U.list S)) : Int)) ∧ bif shotsE (List.drop (Int.toNat (IntKind.wrap IntKind.i64 (U.int i + (1 : Int)))) (U.list S)) (List.drop (Int.toNat (IntKind.wrap IntKind.i64 (U.int i + (1 : Int)))) (U.list S')) then k (Ex.exit (nat_lit 0)) (St.mk [(nat_lit 4, SV.unk)] []) else k Ex.ret (St.mk [(nat_lit 4, SV.val Ct.bool (U.b false))] []) else False else False) else False) (Alt (bif decide ((0 : Int) ≤ U.int i ∧ U.int i < (↑(List.length (U.list S')) : Int)) then (bif decide ((0 : Int) ≤ U.int i ∧ U.int i < (↑(List.length (U.list S)) : Int)) then bif !ByteArray.toList (U.str (nth (U.i (0 : Int)) (U.list (nth (U.i (0 : Int)) (U.list S) (Int.toNat (U.int i)))) (0 : Nat))) == ByteArray.toList (U.str (nth (U.i (0 : Int)) (U.list (nth (U.i (0 : Int)) (U.list S') (Int.toNat (U.int i)))) (0 : Nat))) then k Ex.ret (St.mk [(nat_lit 4, SV.val Ct.bool (U.b false))] []) else bif U.int (nth (U.i (0 : Int)) (List.tail (U.list (nth (U.i (0 : Int)) (U.list S) (Int.toNat (U.int i))))) (0 : Nat)) != U.int (nth (U.i (0 : Int)) (List.tail (U.list (nth (U.i (0 : Int)) (U.list S') (Int.toNat (U.int i))))) (0 : Nat)) then k Ex.ret (St.mk [(nat_lit 4, SV.val Ct.bool (U.b false))] []) else bif !tabE (U.list (nth (U.i (0 : Int)) (List.tail (List.tail (U.list (nth (U.i (0 : Int)) (U.list S) (Int.toNat (U.int i)))))) (0 : Nat))) (U.list (nth (U.i (0 : Int)) (List.tail (List.tail (U.list (nth (U.i (0 : Int)) (U.list S') (Int.toNat (U.int i)))))) (0 : Nat))) then k Ex.ret (St.mk [(nat_lit 4, SV.val Ct.bool (U.b false))] []) else bif Nat.blt (μ [SV.val (Ct.int IntKind.i64) (U.i (IntKind.wrap IntKind.i64 (U.int i + (1 : Int)))), SV.ptr (nat_lit 256) (nat_lit 0), SV.ptr (nat_lit 384) (nat_lit 0)] [Obj.box [SV.val (Ct.int IntKind.i64) c, SV.val (Ct.int IntKind.i64) sz, SV.val Ct.str bk, SV.val (Ct.sl false [Ct.sl true [Ct.int IntKind.i64, Ct.int IntKind.i64, Ct.int IntKind.i64, Ct.int IntKind.i64, Ct.int IntKind.u32]]) T, SV.val (Ct.sl true [Ct.str, Ct.int IntKind.i64, Ct.sl false [Ct.sl true [Ct.int IntKind.i64, Ct.int IntKind.i64, Ct.int IntKind.i64, Ct.int IntKind.i64, Ct.int IntKind.u32]]]) S, SV.val (Ct.sl true [Ct.str, Ct.bool, Ct.sl true [Ct.int IntKind.i64, Ct.int IntKind.i64]]) M, SV.val (Ct.sl false [Ct.int IntKind.i64]) Q], Obj.box [SV.val (Ct.int IntKind.i64) c', SV.val (Ct.int IntKind.i64) sz', SV.val Ct.str bk', SV.val (Ct.sl false [Ct.sl true [Ct.int IntKind.i64, Ct.int IntKind.i64, Ct.int IntKind.i64, Ct.int IntKind.i64, Ct.int IntKind.u32]]) T', SV.val (Ct.sl true [Ct.str, Ct.int IntKind.i64, Ct.sl false [Ct.sl true [Ct.int IntKind.i64, Ct.int IntKind.i64, Ct.int IntKind.i64, Ct.int IntKind.i64, Ct.int IntKind.u32]]]) S', SV.val (Ct.sl true [Ct.str, Ct.bool, Ct.sl true [Ct.int IntKind.i64, Ct.int IntKind.i64]]) M', SV.val (Ct.sl false [Ct.int IntKind.i64]) Q']]) N then ((nat_lit 256 = nat_lit 256 ∧ nat_lit 0 = nat_lit 0 ∧ nat_lit 384 = nat_lit 384 ∧ nat_lit 0 = nat_lit 0) ∧ ([Ct.int IntKind.i64, Ct.int IntKind.i64, Ct.int IntKind.i64, Ct.int IntKind.i64, Ct.int IntKind.u32] = [Ct.int IntKind.i64, Ct.int IntKind.i64, Ct.int IntKind.i64, Ct.int IntKind.i64, Ct.int IntKind.u32] ∧ [Ct.str, Ct.int IntKind.i64, Ct.sl false [Ct.sl true [Ct.int IntKind.i64, Ct.int IntKind.i64, Ct.int IntKind.i64, Ct.int IntKind.i64, Ct.int IntKind.u32]]] = [Ct.str, Ct.int IntKind.i64, Ct.sl false [Ct.sl true [Ct.int IntKind.i64, Ct.int IntKind.i64, Ct.int IntKind.i64, Ct.int IntKind.i64, Ct.int IntKind.u32]]] ∧ [Ct.str, Ct.bool, Ct.sl true [Ct.int IntKind.i64, Ct.int IntKind.i64]] = [Ct.str, Ct.bool, Ct.sl true [Ct.int IntKind.i64, Ct.int IntKind.i64]]) ∧ ([Ct.int IntKind.i64, Ct.int IntKind.i64, Ct.int IntKind.i64, Ct.int IntKind.i64, Ct.int IntKind.u32] = [Ct.int IntKind.i64, Ct.int IntKind.i64, Ct.int IntKind.i64, Ct.int IntKind.i64, Ct.int IntKind.u32] ∧ [Ct.str, Ct.int IntKind.i64, Ct.sl false [Ct.sl true [Ct.int IntKind.i64, Ct.int IntKind.i64, Ct.int IntKind.i64, Ct.int IntKind.i64, Ct.int IntKind.u32]]] = [Ct.str, Ct.int IntKind.i64, Ct.sl false [Ct.sl true [Ct.int IntKind.i64, Ct.int IntKind.i64, Ct.int IntKind.i64, Ct.int IntKind.i64, Ct.int IntKind.u32]]] ∧ [Ct.str, Ct.bool, Ct.sl true [Ct.int IntKind.i64, Ct.int IntKind.i64]] = [Ct.str, Ct.bool, Ct.sl true [Ct.int IntKind.i64, Ct.int IntKind.i64]]) ∧ List.length (U.list S) = List.length (U.list S') ∧ (0 : Int) ≤ IntKind.wrap IntKind.i64 (U.int i + (1 : Int)) ∧ IntKind.wrap IntKind.i64 (U.int i + (1 : Int)) ≤ (↑(List.length (U.list S)) : Int)) ∧ bif shotsE (List.drop (Int.toNat (IntKind.wrap IntKind.i64 (U.int i + (1 : Int)))) (U.list S)) (List.drop (Int.toNat (IntKind.wrap IntKind.i64 (U.int i + (1 : Int)))) (U.list S')) then k (Ex.exit (nat_lit 0)) (St.mk [(nat_lit 4, SV.unk)] []) else k Ex.ret (St.mk [(nat_lit 4, SV.val Ct.bool (U.b false))] []) else False else False) else False) (Alt (bif decide ((0 : Int) ≤ U.int i ∧ U.int i < (↑(List.length (U.list S)) : Int)) then (bif decide ((0 : Int) ≤ U.int i ∧ U.int i < (↑(List.length (U.list S')) : Int)) then bif !ByteArray.toList (U.str (nth (U.i (0 : Int)) (U.list (nth (U.i (0 : Int)) (U.list S) (Int.toNat (U.int i)))) (0 : Nat))) == ByteArray.toList (U.str (nth (U.i (0 : Int)) (U.list (nth (U.i (0 : Int)) (U.list S') (Int.toNat (U.int i)))) (0 : Nat))) then k Ex.ret (St.mk [(nat_lit 4, SV.val Ct.bool (U.b false))] []) else bif U.int (nth (U.i (0 : Int)) (List.tail (U.list (nth (U.i (0 : Int)) (U.list S) (Int.toNat (U.int i))))) (0 : Nat)) != U.int (nth (U.i (0 : Int)) (List.tail (U.list (nth (U.i (0 : Int)) (U.list S') (Int.toNat (U.int i))))) (0 : Nat)) then k Ex.ret (St.mk [(nat_lit 4, SV.val Ct.bool (U.b false))] []) else bif !tabE (U.list (nth (U.i (0 : Int)) (List.tail (List.tail (U.list (nth (U.i (0 : Int)) (U.list S) (Int.toNat (U.int i)))))) (0 : Nat))) (U.list (nth (U.i (0 : Int)) (List.tail (List.tail (U.list (nth (U.i (0 : Int)) (U.list S') (Int.toNat (U.int i)))))) (0 : Nat))) then k Ex.ret (St.mk [(nat_lit 4, SV.val Ct.bool (U.b false))] []) else bif Nat.blt (μ [SV.val (Ct.int IntKind.i64) (U.i (IntKind.wrap IntKind.i64 (U.int i + (1 : Int)))), SV.ptr (nat_lit 256) (nat_lit 0), SV.ptr (nat_lit 384) (nat_lit 0)] [Obj.box [SV.val (Ct.int IntKind.i64) c, SV.val (Ct.int IntKind.i64) sz, SV.val Ct.str bk, SV.val (Ct.sl false [Ct.sl true [Ct.int IntKind.i64, Ct.int IntKind.i64, Ct.int IntKind.i64, Ct.int IntKind.i64, Ct.int IntKind.u32]]) T, SV.val (Ct.sl true [Ct.str, Ct.int IntKind.i64, Ct.sl false [Ct.sl true [Ct.int IntKind.i64, Ct.int IntKind.i64, Ct.int IntKind.i64, Ct.int IntKind.i64, Ct.int IntKind.u32]]]) S, SV.val (Ct.sl true [Ct.str, Ct.bool, Ct.sl true [Ct.int IntKind.i64, Ct.int IntKind.i64]]) M, SV.val (Ct.sl false [Ct.int IntKind.i64]) Q], Obj.box [SV.val (Ct.int IntKind.i64) c', SV.val (Ct.int IntKind.i64) sz', SV.val Ct.str bk', SV.val (Ct.sl false [Ct.sl true [Ct.int IntKind.i64, Ct.int IntKind.i64, Ct.int IntKind.i64, Ct.int IntKind.i64, Ct.int IntKind.u32]]) T', SV.val (Ct.sl true [Ct.str, Ct.int IntKind.i64, Ct.sl false [Ct.sl true [Ct.int IntKind.i64, Ct.int IntKind.i64, Ct.int IntKind.i64, Ct.int IntKind.i64, Ct.int IntKind.u32]]]) S', SV.val (Ct.sl true [Ct.str, Ct.bool, Ct.sl true [Ct.int IntKind.i64, Ct.int IntKind.i64]]) M', SV.val (Ct.sl false [Ct.int IntKind.i64]) Q']]) N then ((nat_lit 256 = nat_lit 256 ∧ nat_lit 0 = nat_lit 0 ∧ nat_lit 384 = nat_lit 384 ∧ nat_lit 0 = nat_lit 0) ∧ ([Ct.int IntKind.i64, Ct.int IntKind.i64, Ct.int IntKind.i64, Ct.int IntKind.i64, Ct.int IntKind.u32] = [Ct.int IntKind.i64, Ct.int IntKind.i64, Ct.int IntKind.i64, Ct.int IntKind.i64, Ct.int IntKind.u32] ∧ [Ct.str, Ct.int IntKind.i64, Ct.sl false [Ct.sl true [Ct.int IntKind.i64, Ct.int IntKind.i64, Ct.int IntKind.i64, Ct.int IntKind.i64, Ct.int IntKind.u32]]] = [Ct.str, Ct.int IntKind.i64, Ct.sl false [Ct.sl true [Ct.int IntKind.i64, Ct.int IntKind.i64, Ct.int IntKind.i64, Ct.int IntKind.i64, Ct.int IntKind.u32]]] ∧ [Ct.str, Ct.bool, Ct.sl true [Ct.int IntKind.i64, Ct.int IntKind.i64]] = [Ct.str, Ct.bool, Ct.sl true [Ct.int IntKind.i64, Ct.int IntKind.i64]]) ∧ ([Ct.int IntKind.i64, Ct.int IntKind.i64, Ct.int IntKind.i64, Ct.int IntKind.i64, Ct.int IntKind.u32] = [Ct.int IntKind.i64, Ct.int IntKind.i64, Ct.int IntKind.i64, Ct.int IntKind.i64, Ct.int IntKind.u32] ∧ [Ct.str, Ct.int IntKind.i64, Ct.sl false [Ct.sl true [Ct.int IntKind.i64, Ct.int IntKind.i64, Ct.int IntKind.i64, Ct.int IntKind.i64, Ct.int IntKind.u32]]] = [Ct.str, Ct.int IntKind.i64, Ct.sl false [Ct.sl true [Ct.int IntKind.i64, Ct.int IntKind.i64, Ct.int IntKind.i64, Ct.int IntKind.i64, Ct.int IntKind.u32]]] ∧ [Ct.str, Ct.bool, Ct.sl true [Ct.int IntKind.i64, Ct.int IntKind.i64]] = [Ct.str, Ct.bool, Ct.sl true [Ct.int IntKind.i64, Ct.int IntKind.i64]]) ∧ List.length (U.list S) = List.length (U.list S') ∧ (0 : Int) ≤ IntKind.wrap IntKind.i64 (U.int i + (1 : Int)) ∧ IntKind.wrap IntKind.i64 (U.int i + (1 : Int)) ≤ (↑(List.length (U.list S)) : Int)) ∧ bif shotsE (List.drop (Int.toNat (IntKind.wrap IntKind.i64 (U.int i + (1 : Int)))) (U.list S)) (List.drop (Int.toNat (IntKind.wrap IntKind.i64 (U.int i + (1 : Int)))) (U.list S')) then k (Ex.exit (nat_lit 0)) (St.mk [(nat_lit 4, SV.unk)] []) else k Ex.ret (St.mk [(nat_lit 4, SV.val Ct.bool (U.b false))] []) else False else False) else False) (bif decide ((0 : Int) ≤ U.int i ∧ U.int i < (↑(List.length (U.list S')) : Int)) then bif decide ((0 : Int) ≤ U.int i ∧ U.int i < (↑(List.length (U.list S)) : Int)) then bif !ByteArray.toList (U.str (nth (U.i (0 : Int)) (U.list (nth (U.i (0 : Int)) (U.list S) (Int.toNat (U.int i)))) (0 : Nat))) == ByteArray.toList (U.str (nth (U.i (0 : Int)) (U.list (nth (U.i (0 : Int)) (U.list S') (Int.toNat (U.int i)))) (0 : Nat))) then k Ex.ret (St.mk [(nat_lit 4, SV.val Ct.bool (U.b false))] []) else bif U.int (nth (U.i (0 : Int)) (List.tail (U.list (nth (U.i (0 : Int)) (U.list S) (Int.toNat (U.int i))))) (0 : Nat)) != U.int (nth (U.i (0 : Int)) (List.tail (U.list (nth (U.i (0 : Int)) (U.list S') (Int.toNat (U.int i))))) (0 : Nat)) then k Ex.ret (St.mk [(nat_lit 4, SV.val Ct.bool (U.b false))] []) else bif !tabE (U.list (nth (U.i (0 : Int)) (List.tail (List.tail (U.list (nth (U.i (0 : Int)) (U.list S) (Int.toNat (U.int i)))))) (0 : Nat))) (U.list (nth (U.i (0 : Int)) (List.tail (List.tail (U.list (nth (U.i (0 : Int)) (U.list S') (Int.toNat (U.int i)))))) (0 : Nat))) then k Ex.ret (St.mk [(nat_lit 4, SV.val Ct.bool (U.b false))] []) else bif Nat.blt (μ [SV.val (Ct.int IntKind.i64) (U.i (IntKind.wrap IntKind.i64 (U.int i + (1 : Int)))), SV.ptr (nat_lit 256) (nat_lit 0), SV.ptr (nat_lit 384) (nat_lit 0)] [Obj.box [SV.val (Ct.int IntKind.i64) c, SV.val (Ct.int IntKind.i64) sz, SV.val Ct.str bk, SV.val (Ct.sl false [Ct.sl true [Ct.int IntKind.i64, Ct.int IntKind.i64, Ct.int IntKind.i64, Ct.int IntKind.i64, Ct.int IntKind.u32]]) T, SV.val (Ct.sl true [Ct.str, Ct.int IntKind.i64, Ct.sl false [Ct.sl true [Ct.int IntKind.i64, Ct.int IntKind.i64, Ct.int IntKind.i64, Ct.int IntKind.i64, Ct.int IntKind.u32]]]) S, SV.val (Ct.sl true [Ct.str, Ct.bool, Ct.sl true [Ct.int IntKind.i64, Ct.int IntKind.i64]]) M, SV.val (Ct.sl false [Ct.int IntKind.i64]) Q], Obj.box [SV.val (Ct.int IntKind.i64) c', SV.val (Ct.int IntKind.i64) sz', SV.val Ct.str bk', SV.val (Ct.sl false [Ct.sl true [Ct.int IntKind.i64, Ct.int IntKind.i64, Ct.int IntKind.i64, Ct.int IntKind.i64, Ct.int IntKind.u32]]) T', SV.val (Ct.sl true [Ct.str, Ct.int IntKind.i64, Ct.sl false [Ct.sl true [Ct.int IntKind.i64, Ct.int IntKind.i64, Ct.int IntKind.i64, Ct.int IntKind.i64, Ct.int IntKind.u32]]]) S', SV.val (Ct.sl true [Ct.str, Ct.bool, Ct.sl true [Ct.int IntKind.i64, Ct.int IntKind.i64]]) M', SV.val (Ct.sl false [Ct.int IntKind.i64]) Q']]) N then ((nat_lit 256 = nat_lit 256 ∧ nat_lit 0 = nat_lit 0 ∧ nat_lit 384 = nat_lit 384 ∧ nat_lit 0 = nat_lit 0) ∧ ([Ct.int IntKind.i64, Ct.int IntKind.i64, Ct.int IntKind.i64, Ct.int IntKind.i64, Ct.int IntKind.u32] = [Ct.int IntKind.i64, Ct.int IntKind.i64, Ct.int IntKind.i64, Ct.int IntKind.i64, Ct.int IntKind.u32] ∧ [Ct.str, Ct.int IntKind.i64, Ct.sl false [Ct.sl true [Ct.int IntKind.i64, Ct.int IntKind.i64, Ct.int IntKind.i64, Ct.int IntKind.i64, Ct.int IntKind.u32]]] = [Ct.str, Ct.int IntKind.i64, Ct.sl false [Ct.sl true [Ct.int IntKind.i64, Ct.int IntKind.i64, Ct.int IntKind.i64, Ct.int IntKind.i64, Ct.int IntKind.u32]]] ∧ [Ct.str, Ct.bool, Ct.sl true [Ct.int IntKind.i64, Ct.int IntKind.i64]] = [Ct.str, Ct.bool, Ct.sl true [Ct.int IntKind.i64, Ct.int IntKind.i64]]) ∧ ([Ct.int IntKind.i64, Ct.int IntKind.i64, Ct.int IntKind.i64, Ct.int IntKind.i64, Ct.int IntKind.u32] = [Ct.int IntKind.i64, Ct.int IntKind.i64, Ct.int IntKind.i64, Ct.int IntKind.i64, Ct.int IntKind.u32] ∧ [Ct.str, Ct.int IntKind.i64, Ct.sl false [Ct.sl true [Ct.int IntKind.i64, Ct.int IntKind.i64, Ct.int IntKind.i64, Ct.int IntKind.i64, Ct.int IntKind.u32]]] = [Ct.str, Ct.int IntKind.i64, Ct.sl false [Ct.sl true [Ct.int IntKind.i64, Ct.int IntKind.i64, Ct.int IntKind.i64, Ct.int IntKind.i64, Ct.int IntKind.u32]]] ∧ [Ct.str, Ct.bool, Ct.sl true [Ct.int IntKind.i64, Ct.int IntKind.i64]] = [Ct.str, Ct.bool, Ct.sl true [Ct.int IntKind.i64, Ct.int IntKind.i64]]) ∧ List.length (U.list S) = List.length (U.list S') ∧ (0 : Int) ≤ IntKind.wrap IntKind.i64 (U.int i + (1 : Int)) ∧ IntKind.wrap IntKind.i64 (U.int i + (1 : Int)) ≤ (↑(List.length (U.list S)) : Int)) ∧ bif shotsE (List.drop (Int.toNat (IntKind.wrap IntKind.i64 (U.int i + (1 : Int)))) (U.list S)) (List.drop (Int.toNat (IntKind.wrap IntKind.i64 (U.int i + (1 : Int)))) (U.list S')) then k (Ex.exit (nat_lit 0)) (St.mk [(nat_lit 4, SV.unk)] []) else k Ex.ret (St.mk [(nat_lit 4, SV.val Ct.bool (U.b false))] []) else False else False else False)))) (Alt (bif decide ((0 : Int) ≤ U.int i ∧ U.int i < (↑(List.length (U.list S)) : Int)) then (bif decide ((0 : Int) ≤ U.int i ∧ U.int i < (↑(List.length (U.list S')) : Int)) then bif !ByteArray.toList (U.str (nth (U.i (0 : Int)) (U.list (nth (U.i (0 : Int)) (U.list S) (Int.toNat (U.int i)))) (0 : Nat))) == ByteArray.toList (U.str (nth (U.i (0 : Int)) (U.list (nth (U.i (0 : Int)) (U.list S') (Int.toNat (U.int i)))) (0 : Nat))) then k Ex.ret (St.mk [(nat_lit 4, SV.val Ct.bool (U.b false))] []) else bif U.int (nth (U.i (0 : Int)) (List.tail (U.list (nth (U.i (0 : Int)) (U.list S) (Int.toNat (U.int i))))) (0 : Nat)) != U.int (nth (U.i (0 : Int)) (List.tail (U.list (nth (U.i (0 : Int)) (U.list S') (Int.toNat (U.int i))))) (0 : Nat)) then k Ex.ret (St.mk [(nat_lit 4, SV.val Ct.bool (U.b false))] []) else bif !tabE (U.list (nth (U.i (0 : Int)) (List.tail (List.tail (U.list (nth (U.i (0 : Int)) (U.list S) (Int.toNat (U.int i)))))) (0 : Nat))) (U.list (nth (U.i (0 : Int)) (List.tail (List.tail (U.list (nth (U.i (0 : Int)) (U.list S') (Int.toNat (U.int i)))))) (0 : Nat))) then k Ex.ret (St.mk [(nat_lit 4, SV.val Ct.bool (U.b false))] []) else bif Nat.blt (μ [SV.val (Ct.int IntKind.i64) (U.i (IntKind.wrap IntKind.i64 (U.int i + (1 : Int)))), SV.ptr (nat_lit 256) (nat_lit 0), SV.ptr (nat_lit 384) (nat_lit 0)] [Obj.box [SV.val (Ct.int IntKind.i64) c, SV.val (Ct.int IntKind.i64) sz, SV.val Ct.str bk, SV.val (Ct.sl false [Ct.sl true [Ct.int IntKind.i64, Ct.int IntKind.i64, Ct.int IntKind.i64, Ct.int IntKind.i64, Ct.int IntKind.u32]]) T, SV.val (Ct.sl true [Ct.str, Ct.int IntKind.i64, Ct.sl false [Ct.sl true [Ct.int IntKind.i64, Ct.int IntKind.i64, Ct.int IntKind.i64, Ct.int IntKind.i64, Ct.int IntKind.u32]]]) S, SV.val (Ct.sl true [Ct.str, Ct.bool, Ct.sl true [Ct.int IntKind.i64, Ct.int IntKind.i64]]) M, SV.val (Ct.sl false [Ct.int IntKind.i64]) Q], Obj.box [SV.val (Ct.int IntKind.i64) c', SV.val (Ct.int IntKind.i64) sz', SV.val Ct.str bk', SV.val (Ct.sl false [Ct.sl true [Ct.int IntKind.i64, Ct.int IntKind.i64, Ct.int IntKind.i64, Ct.int IntKind.i64, Ct.int IntKind.u32]]) T', SV.val (Ct.sl true [Ct.str, Ct.int IntKind.i64, Ct.sl false [Ct.sl true [Ct.int IntKind.i64, Ct.int IntKind.i64, Ct.int IntKind.i64, Ct.int IntKind.i64, Ct.int IntKind.u32]]]) S', SV.val (Ct.sl true [Ct.str, Ct.bool, Ct.sl true [Ct.int IntKind.i64, Ct.int IntKind.i64]]) M', SV.val (Ct.sl false [Ct.int IntKind.i64]) Q']]) N then ((nat_lit 256 = nat_lit 256 ∧ nat_lit 0 = nat_lit 0 ∧ nat_lit 384 = nat_lit 384 ∧ nat_lit 0 = nat_lit 0) ∧ ([Ct.int IntKind.i64, Ct.int IntKind.i64, Ct.int IntKind.i64, Ct.int IntKind.i64, Ct.int IntKind.u32] = [Ct.int IntKind.i64, Ct.int IntKind.i64, Ct.int IntKind.i64, Ct.int IntKind.i64, Ct.int IntKind.u32] ∧ [Ct.str, Ct.int IntKind.i64, Ct.sl false [Ct.sl true [Ct.int IntKind.i64, Ct.int IntKind.i64, Ct.int IntKind.i64, Ct.int IntKind.i64, Ct.int IntKind.u32]]] = [Ct.str, Ct.int IntKind.i64, Ct.sl false [Ct.sl true [Ct.int IntKind.i64, Ct.int IntKind.i64, Ct.int IntKind.i64, Ct.int IntKind.i64, Ct.int IntKind.u32]]] ∧ [Ct.str, Ct.bool, Ct.sl true [Ct.int IntKind.i64, Ct.int IntKind.i64]] = [Ct.str, Ct.bool, Ct.sl true [Ct.int IntKind.i64, Ct.int IntKind.i64]]) ∧ ([Ct.int IntKind.i64, Ct.int IntKind.i64, Ct.int IntKind.i64, Ct.int IntKind.i64, Ct.int IntKind.u32] = [Ct.int IntKind.i64, Ct.int IntKind.i64, Ct.int IntKind.i64, Ct.int IntKind.i64, Ct.int IntKind.u32] ∧ [Ct.str, Ct.int IntKind.i64, Ct.sl false [Ct.sl true [Ct.int IntKind.i64, Ct.int IntKind.i64, Ct.int IntKind.i64, Ct.int IntKind.i64, Ct.int IntKind.u32]]] = [Ct.str, Ct.int IntKind.i64, Ct.sl false [Ct.sl true [Ct.int IntKind.i64, Ct.int IntKind.i64, Ct.int IntKind.i64, Ct.int IntKind.i64, Ct.int IntKind.u32]]] ∧ [Ct.str, Ct.bool, Ct.sl true [Ct.int IntKind.i64, Ct.int IntKind.i64]] = [Ct.str, Ct.bool, Ct.sl true [Ct.int IntKind.i64, Ct.int IntKind.i64]]) ∧ List.length (U.list S) = List.length (U.list S') ∧ (0 : Int) ≤ IntKind.wrap IntKind.i64 (U.int i + (1 : Int)) ∧ IntKind.wrap IntKind.i64 (U.int i + (1 : Int)) ≤ (↑(List.length (U.list S)) : Int)) ∧ bif shotsE (List.drop (Int.toNat (IntKind.wrap IntKind.i64 (U.int i + (1 : Int)))) (U.list S)) (List.drop (Int.toNat (IntKind.wrap IntKind.i64 (U.int i + (1 : Int)))) (U.list S')) then k (Ex.exit (nat_lit 0)) (St.mk [(nat_lit 4, SV.unk)] []) else k Ex.ret (St.mk [(nat_lit 4, SV.val Ct.bool (U.b false))] []) else False else False) else False) (Alt (bif decide ((0 : Int) ≤ U.int i ∧ U.int i < (↑(List.length (U.list S')) : Int)) then (bif decide ((0 : Int) ≤ U.int i ∧ U.int i < (↑(List.length (U.list S)) : Int)) then bif !ByteArray.toList (U.str (nth (U.i (0 : Int)) (U.list (nth (U.i (0 : Int)) (U.list S) (Int.toNat (U.int i)))) (0 : Nat))) == ByteArray.toList (U.str (nth (U.i (0 : Int)) (U.list (nth (U.i (0 : Int)) (U.list S') (Int.toNat (U.int i)))) (0 : Nat))) then k Ex.ret (St.mk [(nat_lit 4, SV.val Ct.bool (U.b false))] []) else bif U.int (nth (U.i (0 : Int)) (List.tail (U.list (nth (U.i (0 : Int)) (U.list S) (Int.toNat (U.int i))))) (0 : Nat)) != U.int (nth (U.i (0 : Int)) (List.tail (U.list (nth (U.i (0 : Int)) (U.list S') (Int.toNat (U.int i))))) (0 : Nat)) then k Ex.ret (St.mk [(nat_lit 4, SV.val Ct.bool (U.b false))] []) else bif !tabE (U.list (nth (U.i (0 : Int)) (List.tail (List.tail (U.list (nth (U.i (0 : Int)) (U.list S) (Int.toNat (U.int i)))))) (0 : Nat))) (U.list (nth (U.i (0 : Int)) (List.tail (List.tail (U.list (nth (U.i (0 : Int)) (U.list S') (Int.toNat (U.int i)))))) (0 : Nat))) then k Ex.ret (St.mk [(nat_lit 4, SV.val Ct.bool (U.b false))] []) else bif Nat.blt (μ [SV.val (Ct.int IntKind.i64) (U.i (IntKind.wrap IntKind.i64 (U.int i + (1 : Int)))), SV.ptr (nat_lit 256) (nat_lit 0), SV.ptr (nat_lit 384) (nat_lit 0)] [Obj.box [SV.val (Ct.int IntKind.i64) c, SV.val (Ct.int IntKind.i64) sz, SV.val Ct.str bk, SV.val (Ct.sl false [Ct.sl true [Ct.int IntKind.i64, Ct.int IntKind.i64, Ct.int IntKind.i64, Ct.int IntKind.i64, Ct.int IntKind.u32]]) T, SV.val (Ct.sl true [Ct.str, Ct.int IntKind.i64, Ct.sl false [Ct.sl true [Ct.int IntKind.i64, Ct.int IntKind.i64, Ct.int IntKind.i64, Ct.int IntKind.i64, Ct.int IntKind.u32]]]) S, SV.val (Ct.sl true [Ct.str, Ct.bool, Ct.sl true [Ct.int IntKind.i64, Ct.int IntKind.i64]]) M, SV.val (Ct.sl false [Ct.int IntKind.i64]) Q], Obj.box [SV.val (Ct.int IntKind.i64) c', SV.val (Ct.int IntKind.i64) sz', SV.val Ct.str bk', SV.val (Ct.sl false [Ct.sl true [Ct.int IntKind.i64, Ct.int IntKind.i64, Ct.int IntKind.i64, Ct.int IntKind.i64, Ct.int IntKind.u32]]) T', SV.val (Ct.sl true [Ct.str, Ct.int IntKind.i64, Ct.sl false [Ct.sl true [Ct.int IntKind.i64, Ct.int IntKind.i64, Ct.int IntKind.i64, Ct.int IntKind.i64, Ct.int IntKind.u32]]]) S', SV.val (Ct.sl true [Ct.str, Ct.bool, Ct.sl true [Ct.int IntKind.i64, Ct.int IntKind.i64]]) M', SV.val (Ct.sl false [Ct.int IntKind.i64]) Q']]) N then ((nat_lit 256 = nat_lit 256 ∧ nat_lit 0 = nat_lit 0 ∧ nat_lit 384 = nat_lit 384 ∧ nat_lit 0 = nat_lit 0) ∧ ([Ct.int IntKind.i64, Ct.int IntKind.i64, Ct.int IntKind.i64, Ct.int IntKind.i64, Ct.int IntKind.u32] = [Ct.int IntKind.i64, Ct.int IntKind.i64, Ct.int IntKind.i64, Ct.int IntKind.i64, Ct.int IntKind.u32] ∧ [Ct.str, Ct.int IntKind.i64, Ct.sl false [Ct.sl true [Ct.int IntKind.i64, Ct.int IntKind.i64, Ct.int IntKind.i64, Ct.int IntKind.i64, Ct.int IntKind.u32]]] = [Ct.str, Ct.int IntKind.i64, Ct.sl false [Ct.sl true [Ct.int IntKind.i64, Ct.int IntKind.i64, Ct.int IntKind.i64, Ct.int IntKind.i64, Ct.int IntKind.u32]]] ∧ [Ct.str, Ct.bool, Ct.sl true [Ct.int IntKind.i64, Ct.int IntKind.i64]] = [Ct.str, Ct.bool, Ct.sl true [Ct.int IntKind.i64, Ct.int IntKind.i64]]) ∧ ([Ct.int IntKind.i64, Ct.int IntKind.i64, Ct.int IntKind.i64, Ct.int IntKind.i64, Ct.int IntKind.u32] = [Ct.int IntKind.i64, Ct.int IntKind.i64, Ct.int IntKind.i64, Ct.int IntKind.i64, Ct.int IntKind.u32] ∧ [Ct.str, Ct.int IntKind.i64, Ct.sl false [Ct.sl true [Ct.int IntKind.i64, Ct.int IntKind.i64, Ct.int IntKind.i64, Ct.int IntKind.i64, Ct.int IntKind.u32]]] = [Ct.str, Ct.int IntKind.i64, Ct.sl false [Ct.sl true [Ct.int IntKind.i64, Ct.int IntKind.i64, Ct.int IntKind.i64, Ct.int IntKind.i64, Ct.int IntKind.u32]]] ∧ [Ct.str, Ct.bool, Ct.sl true [Ct.int IntKind.i64, Ct.int IntKind.i64]] = [Ct.str, Ct.bool, Ct.sl true [Ct.int IntKind.i64, Ct.int IntKind.i64]]) ∧ List.length (U.list S) = List.length (U.list S') ∧ (0 : Int) ≤ IntKind.wrap IntKind.i64 (U.int i + (1 : Int)) ∧ IntKind.wrap IntKind.i64 (U.int i + (1 : Int)) ≤ (↑(List.length (U.list S)) : Int)) ∧ bif shotsE (List.drop (Int.toNat (IntKind.wrap IntKind.i64 (U.int i + (1 : Int)))) (U.list S)) (List.drop (Int.toNat (IntKind.wrap IntKind.i64 (U.int i + (1 : Int)))) (U.list S')) then k (Ex.exit (nat_lit 0)) (St.mk [(nat_lit 4, SV.unk)] []) else k Ex.ret (St.mk [(nat_lit 4, SV.val Ct.bool (U.b false))] []) else False else False) else False) (Alt (bif decide ((0 : Int) ≤ U.int i ∧ U.int i < (↑(List.length (U.list S)) : Int)) then (bif decide ((0 : Int) ≤ U.int i ∧ U.int i < (↑(List.length (U.list S')) : Int)) then bif !ByteArray.toList (U.str (nth (U.i (0 : Int)) (U.list (nth (U.i (0 : Int)) (U.list S) (Int.toNat (U.int i)))) (0 : Nat))) == ByteArray.toList (U.str (nth (U.i (0 : Int)) (U.list (nth (U.i (0 : Int)) (U.list S') (Int.toNat (U.int i)))) (0 : Nat))) then k Ex.ret (St.mk [(nat_lit 4, SV.val Ct.bool (U.b false))] []) else bif U.int (nth (U.i (0 : Int)) (List.tail (U.list (nth (U.i (0 : Int)) (U.list S) (Int.toNat (U.int i))))) (0 : Nat)) != U.int (nth (U.i (0 : Int)) (List.tail (U.list (nth (U.i (0 : Int)) (U.list S') (Int.toNat (U.int i))))) (0 : Nat)) then k Ex.ret (St.mk [(nat_lit 4, SV.val Ct.bool (U.b false))] []) else bif !tabE (U.list (nth (U.i (0 : Int)) (List.tail (List.tail (U.list (nth (U.i (0 : Int)) (U.list S) (Int.toNat (U.int i)))))) (0 : Nat))) (U.list (nth (U.i (0 : Int)) (List.tail (List.tail (U.list (nth (U.i (0 : Int)) (U.list S') (Int.toNat (U.int i)))))) (0 : Nat))) then k Ex.ret (St.mk [(nat_lit 4, SV.val Ct.bool (U.b false))] []) else bif Nat.blt (μ [SV.val (Ct.int IntKind.i64) (U.i (IntKind.wrap IntKind.i64 (U.int i + (1 : Int)))), SV.ptr (nat_lit 256) (nat_lit 0), SV.ptr (nat_lit 384) (nat_lit 0)] [Obj.box [SV.val (Ct.int IntKind.i64) c, SV.val (Ct.int IntKind.i64) sz, SV.val Ct.str bk, SV.val (Ct.sl false [Ct.sl true [Ct.int IntKind.i64, Ct.int IntKind.i64, Ct.int IntKind.i64, Ct.int IntKind.i64, Ct.int IntKind.u32]]) T, SV.val (Ct.sl true [Ct.str, Ct.int IntKind.i64, Ct.sl false [Ct.sl true [Ct.int IntKind.i64, Ct.int IntKind.i64, Ct.int IntKind.i64, Ct.int IntKind.i64, Ct.int IntKind.u32]]]) S, SV.val (Ct.sl true [Ct.str, Ct.bool, Ct.sl true [Ct.int IntKind.i64, Ct.int IntKind.i64]]) M, SV.val (Ct.sl false [Ct.int IntKind.i64]) Q], Obj.box [SV.val (Ct.int IntKind.i64) c', SV.val (Ct.int IntKind.i64) sz', SV.val Ct.str bk', SV.val (Ct.sl false [Ct.sl true [Ct.int IntKind.i64, Ct.int IntKind.i64, Ct.int IntKind.i64, Ct.int IntKind.i64, Ct.int IntKind.u32]]) T', SV.val (Ct.sl true [Ct.str, Ct.int IntKind.i64, Ct.sl false [Ct.sl true [Ct.int IntKind.i64, Ct.int IntKind.i64, Ct.int IntKind.i64, Ct.int IntKind.i64, Ct.int IntKind.u32]]]) S', SV.val (Ct.sl true [Ct.str, Ct.bool, Ct.sl true [Ct.int IntKind.i64, Ct.int IntKind.i64]]) M', SV.val (Ct.sl false [Ct.int IntKind.i64]) Q']]) N then ((nat_lit 256 = nat_lit 256 ∧ nat_lit 0 = nat_lit 0 ∧ nat_lit 384 = nat_lit 384 ∧ nat_lit 0 = nat_lit 0) ∧ ([Ct.int IntKind.i64, Ct.int IntKind.i64, Ct.int IntKind.i64, Ct.int IntKind.i64, Ct.int IntKind.u32] = [Ct.int IntKind.i64, Ct.int IntKind.i64, Ct.int IntKind.i64, Ct.int IntKind.i64, Ct.int IntKind.u32] ∧ [Ct.str, Ct.int IntKind.i64, Ct.sl false [Ct.sl true [Ct.int IntKind.i64, Ct.int IntKind.i64, Ct.int IntKind.i64, Ct.int IntKind.i64, Ct.int IntKind.u32]]] = [Ct.str, Ct.int IntKind.i64, Ct.sl false [Ct.sl true [Ct.int IntKind.i64, Ct.int IntKind.i64, Ct.int IntKind.i64, Ct.int IntKind.i64, Ct.int IntKind.u32]]] ∧ [Ct.str, Ct.bool, Ct.sl true [Ct.int IntKind.i64, Ct.int IntKind.i64]] = [Ct.str, Ct.bool, Ct.sl true [Ct.int IntKind.i64, Ct.int IntKind.i64]]) ∧ ([Ct.int IntKind.i64, Ct.int IntKind.i64, Ct.int IntKind.i64, Ct.int IntKind.i64, Ct.int IntKind.u32] = [Ct.int IntKind.i64, Ct.int IntKind.i64, Ct.int IntKind.i64, Ct.int IntKind.i64, Ct.int IntKind.u32] ∧ [Ct.str, Ct.int IntKind.i64, Ct.sl false [Ct.sl true [Ct.int IntKind.i64, Ct.int IntKind.i64, Ct.int IntKind.i64, Ct.int IntKind.i64, Ct.int IntKind.u32]]] = [Ct.str, Ct.int IntKind.i64, Ct.sl false [Ct.sl true [Ct.int IntKind.i64, Ct.int IntKind.i64, Ct.int IntKind.i64, Ct.int IntKind.i64, Ct.int IntKind.u32]]] ∧ [Ct.str, Ct.bool, Ct.sl true [Ct.int IntKind.i64, Ct.int IntKind.i64]] = [Ct.str, Ct.bool, Ct.sl true [Ct.int IntKind.i64, Ct.int IntKind.i64]]) ∧ List.length (U.list S) = List.length (U.list S') ∧ (0 : Int) ≤ IntKind.wrap IntKind.i64 (U.int i + (1 : Int)) ∧ IntKind.wrap IntKind.i64 (U.int i + (1 : Int)) ≤ (↑(List.length (U.list S)) : Int)) ∧ bif shotsE (List.drop (Int.toNat (IntKind.wrap IntKind.i64 (U.int i + (1 : Int)))) (U.list S)) (List.drop (Int.toNat (IntKind.wrap IntKind.i64 (U.int i + (1 : Int)))) (U.list S')) then k (Ex.exit (nat_lit 0)) (St.mk [(nat_lit 4, SV.unk)] []) else k Ex.ret (St.mk [(nat_lit 4, SV.val Ct.bool (U.b false))] []) else False else False) else False) (bif decide ((0 : Int) ≤ U.int i ∧ U.int i < (↑(List.length (U.list S')) : Int)) then bif decide ((0 : Int) ≤ U.int i ∧ U.int i < (↑(List.length (U.list S)) : Int)) then bif !ByteArray.toList (U.str (nth (U.i (0 : Int)) (U.list (nth (U.i (0 : Int)) (U.list S) (Int.toNat (U.int i)))) (0 : Nat))) == ByteArray.toList (U.str (nth (U.i (0 : Int)) (U.list (nth (U.i (0 : Int)) (U.list S') (Int.toNat (U.int i)))) (0 : Nat))) then k Ex.ret (St.mk [(nat_lit 4, SV.val Ct.bool (U.b false))] []) else bif U.int (nth (U.i (0 : Int)) (List.tail (U.list (nth (U.i (0 : Int)) (U.list S) (Int.toNat (U.int i))))) (0 : Nat)) != U.int (nth (U.i (0 : Int)) (List.tail (U.list (nth (U.i (0 : Int)) (U.list S') (Int.toNat (U.int i))))) (0 : Nat)) then k Ex.ret (St.mk [(nat_lit 4, SV.val Ct.bool (U.b false))] []) else bif !tabE (U.list (nth (U.i (0 : Int)) (List.tail (List.tail (U.list (nth (U.i (0 : Int)) (U.list S) (Int.toNat (U.int i)))))) (0 : Nat))) (U.list (nth (U.i (0 : Int)) (List.tail (List.tail (U.list (nth (U.i (0 : Int)) (U.list S') (Int.toNat (U.int i)))))) (0 : Nat))) then k Ex.ret (St.mk [(nat_lit 4, SV.val Ct.bool (U.b false))] []) else bif Nat.blt (μ [SV.val (Ct.int IntKind.i64) (U.i (IntKind.wrap IntKind.i64 (U.int i + (1 : Int)))), SV.ptr (nat_lit 256) (nat_lit 0), SV.ptr (nat_lit 384) (nat_lit 0)] [Obj.box [SV.val (Ct.int IntKind.i64) c, SV.val (Ct.int IntKind.i64) sz, SV.val Ct.str bk, SV.val (Ct.sl false [Ct.sl true [Ct.int IntKind.i64, Ct.int IntKind.i64, Ct.int IntKind.i64, Ct.int IntKind.i64, Ct.int IntKind.u32]]) T, SV.val (Ct.sl true [Ct.str, Ct.int IntKind.i64, Ct.sl false [Ct.sl true [Ct.int IntKind.i64, Ct.int IntKind.i64, Ct.int IntKind.i64, Ct.int IntKind.i64, Ct.int IntKind.u32]]]) S, SV.val (Ct.sl true [Ct.str, Ct.bool, Ct.sl true [Ct.int IntKind.i64, Ct.int IntKind.i64]]) M, SV.val (Ct.sl false [Ct.int IntKind.i64]) Q], Obj.box [SV.val (Ct.int IntKind.i64) c', SV.val (Ct.int IntKind.i64) sz', SV.val Ct.str bk', SV.val (Ct.sl false [Ct.sl true [Ct.int IntKind.i64, Ct.int IntKind.i64, Ct.int IntKind.i64, Ct.int IntKind.i64, Ct.int IntKind.u32]]) T', SV.val (Ct.sl true [Ct.str, Ct.int IntKind.i64, Ct.sl false [Ct.sl true [Ct.int IntKind.i64, Ct.int IntKind.i64, Ct.int IntKind.i64, Ct.int IntKind.i64, Ct.int IntKind.u32]]]) S', SV.val (Ct.sl true [Ct.str, Ct.bool, Ct.sl true [Ct.int IntKind.i64, Ct.int IntKind.i64]]) M', SV.val (Ct.sl false [Ct.int IntKind.i64]) Q']]) N then ((nat_lit 256 = nat_lit 256 ∧ nat_lit 0 = nat_lit 0 ∧ nat_lit 384 = nat_lit 384 ∧ nat_lit 0 = nat_lit 0) ∧ ([Ct.int IntKind.i64, Ct.int IntKind.i64, Ct.int IntKind.i64, Ct.int IntKind.i64, Ct.int IntKind.u32] = [Ct.int IntKind.i64, Ct.int IntKind.i64, Ct.int IntKind.i64, Ct.int IntKind.i64, Ct.int IntKind.u32] ∧ [Ct.str, Ct.int IntKind.i64, Ct.sl false [Ct.sl true [Ct.int IntKind.i64, Ct.int IntKind.i64, Ct.int IntKind.i64, Ct.int IntKind.i64, Ct.int IntKind.u32]]] = [Ct.str, Ct.int IntKind.i64, Ct.sl false [Ct.sl true [Ct.int IntKind.i64, Ct.int IntKind.i64, Ct.int IntKind.i64, Ct.int IntKind.i64, Ct.int IntKind.u32]]] ∧ [Ct.str, Ct.bool, Ct.sl true [Ct.int IntKind.i64, Ct.int IntKind.i64]] = [Ct.str, Ct.bool, Ct.sl true [Ct.int IntKind.i64, Ct.int IntKind.i64]]) ∧ ([Ct.int IntKind.i64, Ct.int IntKind.i64, Ct.int IntKind.i64, Ct.int IntKind.i64, Ct.int IntKind.u32] = [Ct.int IntKind.i64, Ct.int IntKind.i64, Ct.int IntKind.i64, Ct.int IntKind.i64, Ct.int IntKind.u32] ∧ [Ct.str, Ct.int IntKind.i64, Ct.sl false [Ct.sl true [Ct.int IntKind.i64, Ct.int IntKind.i64, Ct.int IntKind.i64, Ct.int IntKind.i64, Ct.int IntKind.u32]]] = [Ct.str, Ct.int IntKind.i64, Ct.sl false [Ct.sl true [Ct.int IntKind.i64, Ct.int IntKind.i64, Ct.int IntKind.i64, Ct.int IntKind.i64, Ct.int IntKind.u32]]] ∧ [Ct.str, Ct.bool, Ct.sl true [Ct.int IntKind.i64, Ct.int IntKind.i64]] = [Ct.str, Ct.bool, Ct.sl true [Ct.int IntKind.i64, Ct.int IntKind.i64]]) ∧ List.length (U.list S) = List.length (U.list S') ∧ (0 : Int) ≤ IntKind.wrap IntKind.i64 (U.int i + (1 : Int)) ∧ IntKind.wrap IntKind.i64 (U.int i + (1 : Int)) ≤ (↑(List.length (U.list S)) : Int)) ∧ bif shotsE (List.drop (Int.toNat (IntKind.wrap IntKind.i64 (U.int i + (1 : Int)))) (U.list S)) (List.drop (Int.toNat (IntKind.wrap IntKind.i64 (U.int i + (1 : Int)))) (U.list S')) then k (Ex.exit (nat_lit 0)) (St.mk [(nat_lit 4, SV.unk)] []) else k Ex.ret (St.mk [(nat_lit 4, SV.val Ct.bool (U.b false))] []) else False else False else False)))))) else k (Ex.exit (nat_lit 0)) (St.mk [(nat_lit 4, SV.unk)] [])) := by
  rw [same_round_alt]
  simp only [Alt_self]
theorem same_tree (R : RF) (c sz bk T S M Q c' sz' bk' T' S' M' Q' : U) : (run sameC Try.f17 [[c, sz, bk, T, S, M, Q], [c', sz', bk', T', S', M', Q']] R) = (bif U.int c != U.int c' then R [[U.b false]] else bif U.int sz != U.int sz' then R [[U.b false]] else bif !ByteArray.toList (U.str bk) == ByteArray.toList (U.str bk') then R [[U.b false]] else bif (↑(List.length 
  (U.list S)) : Int) != (↑(List.length (U.list S')) : Int) then R [[U.b false]] else bif !tabE (U.list T) (U.list T') then R [[U.b false]] else bif !mapsE (U.list M) (U.list M') then R [[U.b false]] else 
  bif !intsE (U.list Q) (U.list Q') then R [[U.b false]] else ((nat_lit 256 = nat_lit 256 ∧ nat_lit 0 = nat_lit 0 ∧ nat_lit 384 = nat_lit 384 ∧ nat_lit 0 = nat_lit 0) ∧ ([Ct.int IntKind.i64, Ct.int IntKind.i64, 
  Ct.int IntKind.i64, Ct.int IntKind.i64, Ct.int IntKind.u32] = [Ct.int IntKind.i64, Ct.int IntKind.i64, Ct.int IntKind.i64, Ct.int IntKind.i64, Ct.int IntKind.u32] ∧ [Ct.str, Ct.int IntKind.i64, Ct.sl false 
  [Ct.sl true [Ct.int IntKind.i64, Ct.int IntKind.i64, Ct.int IntKind.i64, Ct.int IntKind.i64, Ct.int IntKind.u32]]] = [Ct.str, Ct.int IntKind.i64, Ct.sl false [Ct.sl true [Ct.int IntKind.i64, Ct.int IntKind.i64, 
  Ct.int IntKind.i64, Ct.int IntKind.i64, Ct.int IntKind.u32]]] ∧ [Ct.str, Ct.bool, Ct.sl true [Ct.int IntKind.i64, Ct.int IntKind.i64]] = [Ct.str, Ct.bool, Ct.sl true [Ct.int IntKind.i64, Ct.int IntKind.i64]]) 
  ∧ ([Ct.int IntKind.i64, Ct.int IntKind.i64, Ct.int IntKind.i64, Ct.int IntKind.i64, Ct.int IntKind.u32] = [Ct.int IntKind.i64, Ct.int IntKind.i64, Ct.int IntKind.i64, Ct.int IntKind.i64, Ct.int IntKind.u32] 
  ∧ [Ct.str, Ct.int IntKind.i64, Ct.sl false [Ct.sl true [Ct.int IntKind.i64, Ct.int IntKind.i64, Ct.int IntKind.i64, Ct.int IntKind.i64, Ct.int IntKind.u32]]] = [Ct.str, Ct.int IntKind.i64, Ct.sl false 
  [Ct.sl true [Ct.int IntKind.i64, Ct.int IntKind.i64, Ct.int IntKind.i64, Ct.int IntKind.i64, Ct.int IntKind.u32]]] ∧ [Ct.str, Ct.bool, Ct.sl true [Ct.int IntKind.i64, Ct.int IntKind.i64]] = [Ct.str, Ct.bool, 
  Ct.sl true [Ct.int IntKind.i64, Ct.int IntKind.i64]]) ∧ List.length (U.list S) = List.length (U.list S') ∧ (0 : Int) ≤ (0 : Int) ∧ (0 : Int) ≤ (↑(List.length (U.list S)) : Int)) ∧ bif shotsE (List.drop 
  (Int.toNat (0 : Int)) (U.list S)) (List.drop (Int.toNat (0 : Int)) (U.list S')) then R [[U.b true]] else R [[U.b false]]) := by kernel_rfl
noncomputable def unlikeC2 : Ctx := mkC PR eqs0 (fnsConsP 12 mputP mputS (fnsCons 14 errS (fnsCons 10 metaGS (fnsCons 11 trueS (fnsCons 15 rmetaS (fnsCons 17 sameS fnsNil)))))) trsNil noLoops noOut noOut
theorem lawun_tree (R : RF) (c sz bk T S M Q c' sz' bk' T' S' M' Q' : U) : (run unlikeC2 Try.f5 [[c, sz, bk, T, S, M, Q], [c', sz', bk', T', S', M', Q']] R) = (bif metaG bk T S M Q then R [[U.b true]] else bif metaG bk' T' S' M' Q' then R [[U.b true]] else bif !rmetaR c sz bk T S M Q then R [[U.b true]] else bif !rmetaR c' sz' bk' T' S' M' Q' then R [[U.b true]] 
  else mputP [[c, sz, bk, T, S, M, Q]] ∧ mputP [[c', sz', bk', T', S', M', Q']] ∧ bif metaE c sz bk T S M Q == (0 : Int) then bif metaE c' sz' bk' T' S' M' Q' == (0 : Int) then bif (ByteArray.toList (ByteArray.mk 
  (List.toArray (List.map (fun x => UInt8.ofNat (Int.toNat (U.int x))) (metaX c sz bk T S M Q)))) == ByteArray.toList (ByteArray.mk (List.toArray (List.map (fun x => UInt8.ofNat (Int.toNat (U.int x))) (metaX 
  c' sz' bk' T' S' M' Q'))))) == metaEq c sz bk T S M Q c' sz' bk' T' S' M' Q' then R [[U.b true]] else R [[U.b false]] else R [[U.b false]] else R [[U.b false]]) := by kernel_rfl
end Go.Mat

/-
  WALKS 23: are two metas one? Conditions: none.
-/
namespace Go.Mat
open Go Go.Den Go.Proofs

theorem shotsE_len : ∀ {a b : List U}, shotsE a b = true → a.length = b.length
  | [], [], _ => rfl
  | [], _ :: _, h => by cases h
  | _ :: _, [], h => by cases h
  | x :: r, y :: s, h => by
    rw [shotsE, Bool.and_eq_true] at h
    rw [List.length_cons, List.length_cons, shotsE_len h.2]
theorem shotsE_ne {a b : List U} (h : a.length ≠ b.length) : shotsE a b = false := Bool.eq_false_iff.2 fun h' => h (shotsE_len h')
theorem same_loop : LoopOk sameC 0 (loopBody Try.f17 0) := by
  refine loopOk_of (F := sameLoop) (ts := [5, 2, 3]) (os := [256, 384]) rfl (fun svs os => match svs, os with | .val _ i :: _, .box [_, _, _, _, .val _ S, _, _] :: _ => ((S.list.length : Int) - i.int).toNat | _, _ => 0) ?_
  intro pan svs os k ho1 ho2 h
  unfold sameLoop at h
  split at h
  · rename_i i p o p' o'
    split at h
    · rename_i c sz bk x1 T x2 S x3 M Q c' sz' bk' y1 T' y2 S' y3 M' Q'
      obtain ⟨⟨⟨rfl, rfl, rfl, rfl⟩, ⟨rfl, rfl, rfl⟩, ⟨rfl, rfl, rfl⟩, hl, h0, hi⟩, hk⟩ := h
      have hL : S.list.length ≤ maxLen := ho2.1.2.2.2.2.1.1
      unfold maxLen at hL
      refine .eq (same_round pan _ _ k i c sz bk T S M Q c' sz' bk' T' S' M' Q') ?_
      refine bd (fun hlt => ?_) (fun hlt => ?_)
      · rw [drop_at (by omega), drop_at (L := S'.list) (by omega), shotsE] at hk
        simp only [U.at, shotE, e0, e1, e2] at hk
        have hw : IntKind.wrap .i64 (i.int + 1) = i.int + 1 := i64_in (by omega) (by omega)
        have hc : (i.int + 1).toNat = i.int.toNat + 1 := by omega
        have hlt' : ((S.list.length : Int) - (i.int + 1)).toNat < ((S.list.length : Int) - i.int).toNat := by omega
        have hb1 : decide (0 ≤ i.int ∧ i.int < (S.list.length : Int)) = true := decide_eq_true ⟨h0, hlt⟩
        have hb2 : decide (0 ≤ i.int ∧ i.int < (S'.list.length : Int)) = true := decide_eq_true ⟨h0, by omega⟩
        simp only [hb1, hb2, cond_true, Alt_self, nth_tail, nth_drop, Nat.zero_add, Nat.add_zero, Nat.reduceAdd, hw, hc]
        refine bi (fun h1 => ?_) (fun h1 => bi (fun h2 => ?_) (fun h2 => bi (fun h3 => ?_) (fun h3 => ?_)))
        · rw [nt h1, Bool.false_and, Bool.false_and, Bool.false_and] at hk; exact hk
        · rw [nf h1, nt h2, Bool.true_and, Bool.false_and, Bool.false_and] at hk; exact hk
        · rw [nf h1, nf h2, nt h3, Bool.true_and, Bool.true_and, Bool.false_and] at hk; exact hk
        · rw [nf h1, nf h2, nf h3, Bool.true_and, Bool.true_and, Bool.true_and] at hk
          exact blt hlt' ⟨⟨⟨by trivial, by trivial, by trivial, by trivial⟩, ⟨by trivial, by trivial, by trivial⟩, ⟨by trivial, by trivial, by trivial⟩, hl, by omega, by omega⟩, hk⟩
      · rw [List.drop_of_length_le (by omega), List.drop_of_length_le (by omega), shotsE] at hk
        exact hk
    · exact h.elim
  · exact h.elim
theorem same_ok : SpecF PR 17 sameS := fun fn us hfn => by
  have hf : PR.funcs[(17 : Nat)]? = some Try.f17 := by kernel_rfl
  rw [hf] at hfn; cases hfn
  refine fn_okH (C := sameC) (mkC_ok eqs1_ok mixed_ok (.cons tabE_ok (.cons mps_ok (.cons ints_ok .nil))) .nil) hf (by kernel_rfl) (loops_one (by kernel_rfl) same_loop) fun hok => ?_
  have hp : Try.f17.params.toList = [29, 29] := by kernel_rfl
  rw [hp] at hok
  obtain ⟨c, sz, bk, T, S, M, Q, c', sz', bk', T', S', M', Q', hus⟩ : ∃ c sz bk T S M Q c' sz' bk' T' S' M' Q', us = [[c, sz, bk, T, S, M, Q], [c', sz', bk', T', S', M', Q']] := by
    obtain ⟨u, u2, rfl, h1, h2⟩ := shape2 (by kernel_rfl : Cs PR 29 = some (true, [.int .i64, .int .i64, .str, .sl false [.sl true EC], .sl true SC, .sl true BC, .sl false [.int .i64]])) (by kernel_rfl : Cs PR 29 = some (true, [.int .i64, .int .i64, .str, .sl false [.sl true EC], .sl true SC, .sl true BC, .sl false [.int .i64]])) hok.1
    obtain ⟨c, sz, bk, T, S, M, Q, rfl⟩ := len7 h1
    obtain ⟨c', sz', bk', T', S', M', Q', rfl⟩ := len7 h2
    exact ⟨c, sz, bk, T, S, M, Q, c', sz', bk', T', S', M', Q', rfl⟩
  subst hus
  refine .eq (same_tree _ c sz bk T S M Q c' sz' bk' T' S' M' Q') ?_
  have hS : sameS [[c, sz, bk, T, S, M, Q], [c', sz', bk', T', S', M', Q']] = [[.b (metaEq c sz bk T S M Q c' sz' bk' T' S' M' Q')]] := rfl
  rw [hS]
  unfold metaEq
  simp only [Int.toNat_zero, List.drop_zero]
  refine bi (fun h => by rw [nt h]; rfl) (fun h1 => bi (fun h => by rw [nf h1, nt h]; rfl) (fun h2 => bi (fun h => by rw [nf h1, nf h2, nt h]; rfl) (fun h3 => bi (fun h => ?_) (fun h4 => ?_))))
  · have h := nt h
    rw [shotsE_ne (by intro h2; rw [h2] at h; simp at h), Bool.and_false]
  have h4 := nf h4
  simp only [beq_iff_eq] at h4
  refine bi (fun h => by rw [nf h1, nf h2, nf h3, nt h]; rfl) (fun h5 => bi (fun h => by rw [nf h1, nf h2, nf h3, nf h5, nt h]; rfl) (fun h6 => bi (fun h => by rw [nf h1, nf h2, nf h3, nf h5, nf h6, nt h]; rfl) (fun h7 => ⟨⟨⟨by trivial, by trivial, by trivial, by trivial⟩, ⟨by trivial, by trivial, by trivial⟩, ⟨by trivial, by trivial, by trivial⟩, by omega, by omega, by omega⟩, ?_⟩)))
  rw [nf h1, nf h2, nf h3, nf h5, nf h6, nf h7]
  exact bi (fun h => by rw [h]; rfl) (fun h => by rw [h]; rfl)
end Go.Mat

/-
  LAWS 24: unlike metas have unlike bytes. Conditions: none.
-/
namespace Go.Mat
open Go Go.Den Go.Proofs

theorem num_list1 {v : Int} (h0 : 0 ≤ v) (h : v ≤ 255) : num [] 1 v = [.i (v % 256)] := by
  unfold num putX
  rw [good1 h0 h, if_pos rfl, u64_in h0 (by omega)]
  show [U.i (byteAt v 0)] = _
  unfold byteAt
  simp
theorem num_list2 {v : Int} (h0 : 0 ≤ v) (h : v ≤ 65535) : num [] 2 v = [.i (v % 256), .i (v / 256 % 256)] := by
  unfold num putX
  rw [good2 h0 h, if_pos rfl, u64_in h0 (by omega)]
  show [U.i (byteAt v 0), U.i (byteAt v 1)] = _
  unfold byteAt
  simp
theorem num_list4 {v : Int} (h0 : 0 ≤ v) (h : v ≤ 4294967295) : num [] 4 v = [.i (v % 256), .i (v / 256 % 256), .i (v / 65536 % 256), .i (v / 16777216 % 256)] := by
  unfold num putX
  rw [good4 h0 h, if_pos rfl, u64_in h0 (by omega)]
  show [U.i (byteAt v 0), U.i (byteAt v 1), U.i (byteAt v 2), U.i (byteAt v 3)] = _
  unfold byteAt
  simp
theorem inj1 {v x : Int} {r s : List U} (h0 : 0 ≤ v) (h1 : v ≤ 255) (h2 : 0 ≤ x) (h3 : x ≤ 255) (h : num [] 1 v ++ r = num [] 1 x ++ s) : v = x ∧ r = s := by
  rw [num_list1 h0 h1, num_list1 h2 h3] at h
  simp only [List.cons_append, List.nil_append, List.cons.injEq, U.i.injEq] at h
  exact ⟨by omega, h.2⟩
theorem inj2 {v x : Int} {r s : List U} (h0 : 0 ≤ v) (h1 : v ≤ 65535) (h2 : 0 ≤ x) (h3 : x ≤ 65535) (h : num [] 2 v ++ r = num [] 2 x ++ s) : v = x ∧ r = s := by
  rw [num_list2 h0 h1, num_list2 h2 h3] at h
  simp only [List.cons_append, List.nil_append, List.cons.injEq, U.i.injEq] at h
  exact ⟨by omega, h.2.2⟩
theorem inj4 {v x : Int} {r s : List U} (h0 : 0 ≤ v) (h1 : v ≤ 4294967295) (h2 : 0 ≤ x) (h3 : x ≤ 4294967295) (h : num [] 4 v ++ r = num [] 4 x ++ s) : v = x ∧ r = s := by
  rw [num_list4 h0 h1, num_list4 h2 h3] at h
  simp only [List.cons_append, List.nil_append, List.cons.injEq, U.i.injEq] at h
  exact ⟨by omega, h.2.2.2.2⟩
theorem strU_inj {s t : ByteArray} (h : strU s = strU t) : s.toList = t.toList := by
  rw [ByteArray.toList_eq, ByteArray.toList_eq]
  unfold strU at h
  refine (List.map_inj_right fun a b hab => ?_).1 h
  simp only [U.i.injEq] at hab
  exact UInt8.toNat_inj.1 (by omega)
theorem text_inj {s t : ByteArray} {q r : List U} (hs : s.size ≤ 65535) (ht : t.size ≤ 65535) (h : textB [] s ++ q = textB [] t ++ r) : s.toList = t.toList ∧ q = r := by
  unfold textB at h
  rw [show longB s = false from decide_eq_false (by omega), show longB t = false from decide_eq_false (by omega), cond_false, cond_false, List.append_assoc, List.append_assoc] at h
  obtain ⟨h1, h2⟩ := inj2 (by omega) (by omega) (by omega) (by omega) h
  have hl : (strU s).length = (strU t).length := by rw [strU_len, strU_len]; omega
  obtain ⟨h3, h4⟩ := List.append_inj h2 hl
  exact ⟨strU_inj h3, h4⟩
theorem entB_list {a b c d e k : Int} (h : mayR a b c d e k = true) (he : 0 ≤ e ∧ e ≤ 4294967295) : entB a b c d e = .i a :: .i 0 :: (num [] 2 c ++ (num [] 4 b ++ (num [] 4 d ++ num [] 4 e))) := by
  obtain ⟨ha0, ha, hb0, hb, hc0, hc, hd0, hd⟩ := may_low h
  have hw : IntKind.wrap .i64 e = e := i64_in (by omega) (by omega)
  have hw8 : IntKind.wrap .u8 a = a := by rw [u8_wrap]; omega
  unfold entB
  rw [hw, hw8, num_app (v := e) (good4 he.1 he.2), num_app (v := d) (good4 (by omega) (by omega)), num_app (v := b) (good4 (by omega) (by omega)), num_app (v := c) (good2 (by omega) (by omega))]
  simp
theorem ent_inj {k : Int} {x y : U} {r s : List U} (hx : mayR (e0 x).int (e1 x).int (e2 x).int (e3 x).int (e4 x).int k = true) (hy : mayR (e0 y).int (e1 y).int (e2 y).int (e3 y).int (e4 y).int k = true) (sx : sumOk x) (sy : sumOk y)
    (h : entX k x ++ r = entX k y ++ s) : entE x y = true ∧ r = s := by
  obtain ⟨ha0, ha, hb0, hb, hc0, hc, hd0, hd⟩ := may_low hx
  obtain ⟨ia0, ia, ib0, ib, ic0, ic, id0, id⟩ := may_low hy
  unfold sumOk at sx sy
  unfold entX at h
  rw [hx, hy, cond_true, cond_true, entB_list hx sx, entB_list hy sy] at h
  simp only [List.cons_append, List.append_assoc, List.cons.injEq, U.i.injEq, true_and] at h
  obtain ⟨h0, h⟩ := h
  obtain ⟨h1, h⟩ := inj2 hc0 (by omega) ic0 (by omega) h
  obtain ⟨h2, h⟩ := inj4 hb0 (by omega) ib0 (by omega) h
  obtain ⟨h3, h⟩ := inj4 hd0 (by omega) id0 (by omega) h
  obtain ⟨h4, h⟩ := inj4 sx.1 sx.2 sy.1 sy.2 h
  refine ⟨?_, h⟩
  unfold entE
  rw [h0, h1, h2, h3, h4]
  simp
theorem leaf_inj {n n' c i i' : Int} : ∀ {l m : List U} {k k' : Int} {r s : List U}, entsR n c i k l = true → entsR n' c i' k' m = true → (∀ e ∈ l, sumOk e) → (∀ e ∈ m, sumOk e) → l.length = m.length → leafB c l ++ r = leafB c m ++ s → entsE l m = true ∧ r = s
  | [], [], _, _, _, _, _, _, _, _, _, h => ⟨rfl, h⟩
  | [], _ :: _, _, _, _, _, _, _, _, _, hl, _ => by simp at hl
  | _ :: _, [], _, _, _, _, _, _, _, _, hl, _ => by simp at hl
  | x :: l, y :: m, k, k', r, s, hx, hy, sx, sy, hl, h => by
    rw [entsR, Bool.and_eq_true] at hx hy
    have mx := hx.1
    have my := hy.1
    unfold entOk at mx my
    rw [Bool.and_eq_true] at mx my
    rw [leafB, leafB, List.append_assoc, List.append_assoc] at h
    obtain ⟨h1, h2⟩ := ent_inj mx.1 my.1 (sx x (List.mem_cons_self ..)) (sy y (List.mem_cons_self ..)) h
    obtain ⟨h3, h4⟩ := leaf_inj hx.2 hy.2 (fun e he => sx e (List.mem_cons_of_mem _ he)) (fun e he => sy e (List.mem_cons_of_mem _ he)) (by simpa using hl) h2
    exact ⟨by rw [entsE, h1, h3]; rfl, h4⟩
theorem leaves_head {k : Int} : ∀ {L : List U} {i : Int}, 1 ≤ countB L → 0 ≤ i → i + L.length ≤ 65535 → ∃ j r, i ≤ j ∧ j ≤ 65535 ∧ leavesB k i L = num [] 2 j ++ r
  | [], _, h, _, _ => by simp [countB] at h
  | l :: t, i, h, h0, hi => by
    simp only [List.length_cons] at hi
    rw [countB] at h
    rw [leavesB]
    by_cases hl : l.list = []
    · rw [decide_eq_true hl] at h ⊢
      simp only [cond_true, Int.zero_add, List.nil_append] at h ⊢
      obtain ⟨j, r, h1, h2, h3⟩ := leaves_head (k := k) h (i := i + 1) (by omega) (by omega)
      exact ⟨j, r, by omega, h2, h3⟩
    · rw [decide_eq_false hl]
      simp only [cond_false, List.append_assoc]
      exact ⟨i, _, Int.le_refl _, by omega, rfl⟩
theorem lastOk_tail {l : U} {r : List U} (h : lastOk (l :: r) = true) : lastOk r = true := by
  by_cases hr : r = []
  · subst hr; rfl
  · rwa [lastOk_cons hr] at h
theorem count_zero : ∀ {L : List U}, countB L = 0 → lastOk L = true → L = []
  | [], _, _ => rfl
  | l :: r, h, hl => by
    rw [countB] at h
    have := countB_le r
    by_cases hc : l.list = []
    · rw [decide_eq_true hc, cond_true, Int.zero_add] at h
      have := count_zero h (lastOk_tail hl)
      subst this
      unfold lastOk at hl
      simp at hl
      exact absurd hc hl
    · rw [decide_eq_false hc, cond_false] at h
      omega
theorem leaves_inj {n n' c : Int} : ∀ {L M : List U} {i : Int} {r s : List U}, leavesR n c i L = true → leavesR n' c i M = true → tabOk L → tabOk M → lastOk L = true → lastOk M = true → countB L = countB M → 0 ≤ i → i + L.length ≤ 65535 → i + M.length ≤ 65535 →
    leavesB c i L ++ r = leavesB c i M ++ s → tabE L M = true ∧ r = s
  | [], M, i, r, s, _, _, _, _, _, hM, hc, _, _, _, h => by
    have : M = [] := count_zero (by rw [← hc]; rfl) hM
    subst this
    exact ⟨rfl, h⟩
  | l :: t, [], i, r, s, _, _, _, _, hL, _, hc, _, _, _, h => by
    have : l :: t = [] := count_zero hc hL
    cases this
  | l :: t, m :: u, i, r, s, hx, hy, tx, ty, hL, hM, hc, h0, hl1, hl2, h => by
    simp only [List.length_cons] at hl1 hl2
    have key : ∀ {n : Int} {l : U} {t : List U}, leavesR n c i (l :: t) = true → leavesR n c (i + 1) t = true ∧ (l.list = [] ∨ (l.list.length = 8 ∧ entsR n c i 0 l.list = true)) := by
      intro n l t h
      rw [leavesR] at h
      split at h
      · rename_i hh; exact ⟨h, .inl hh.1⟩
      · rw [Bool.and_eq_true] at h
        have h1 := h.1
        unfold leafR at h1
        simp only [Bool.and_eq_true, decide_eq_true_eq] at h1
        exact ⟨h.2, .inr h1.1⟩
    obtain ⟨kx, kx2⟩ := key hx
    obtain ⟨ky, ky2⟩ := key hy
    have tx' : tabOk t := fun l hl => tx l (List.mem_cons_of_mem _ hl)
    have ty' : tabOk u := fun l hl => ty l (List.mem_cons_of_mem _ hl)
    rw [leavesB, leavesB] at h
    rw [countB, countB] at hc
    have ct := countB_le t
    have cu := countB_le u
    rcases kx2 with hle | ⟨hl8, hle⟩ <;> rcases ky2 with hme | ⟨hm8, hme⟩
    · rw [hle, hme] at h hc
      simp only [decide_true, cond_true, List.nil_append, Int.zero_add] at h hc
      obtain ⟨h1, h2⟩ := leaves_inj kx ky tx' ty' (lastOk_tail hL) (lastOk_tail hM) hc (by omega) (by omega) (by omega) h
      exact ⟨by rw [tabE, hle, hme, h1]; rfl, h2⟩
    · have hne : ¬ m.list = [] := fun h0 => by rw [h0] at hm8; simp at hm8
      rw [hle, decide_eq_false hne] at h hc
      simp only [decide_true, cond_true, cond_false, List.nil_append, Int.zero_add, List.append_assoc] at h hc
      obtain ⟨j, q, h1, h2, h3⟩ := leaves_head (k := c) (L := t) (i := i + 1) (by omega) (by omega) (by omega)
      rw [h3, List.append_assoc] at h
      have := (inj2 (by omega) h2 h0 (by omega) h).1
      omega
    · have hne : ¬ l.list = [] := fun h0 => by rw [h0] at hl8; simp at hl8
      rw [hme, decide_eq_false hne] at h hc
      simp only [decide_true, cond_true, cond_false, List.nil_append, Int.zero_add, List.append_assoc] at h hc
      obtain ⟨j, q, h1, h2, h3⟩ := leaves_head (k := c) (L := u) (i := i + 1) (by omega) (by omega) (by omega)
      rw [h3, List.append_assoc] at h
      have := (inj2 h0 (by omega) (by omega) h2 h).1
      omega
    · have hne : ¬ l.list = [] := fun h0 => by rw [h0] at hl8; simp at hl8
      have hne' : ¬ m.list = [] := fun h0 => by rw [h0] at hm8; simp at hm8
      rw [decide_eq_false hne, decide_eq_false hne'] at h hc
      simp only [cond_false, List.append_assoc] at h hc
      obtain ⟨_, h⟩ := inj2 h0 (by omega) h0 (by omega) h
      obtain ⟨h1, h⟩ := leaf_inj hle hme (tx l (List.mem_cons_self ..)) (ty m (List.mem_cons_self ..)) (by omega) h
      obtain ⟨h2, h3⟩ := leaves_inj kx ky tx' ty' (lastOk_tail hL) (lastOk_tail hM) (by omega) (by omega) (by omega) (by omega) h
      exact ⟨by rw [tabE, h1, h2]; rfl, h3⟩
theorem tableR_parts {L : List U} {n c : Int} (h : tableR L n c = true) : leavesR n c 0 L = true ∧ lastOk L = true := by
  unfold tableR at h
  split at h
  · cases h
  · refine ⟨h, ?_⟩
    rw [leavesR_eq, Bool.and_eq_true] at h
    exact h.1
theorem tabX_is {L : List U} {n c : Int} (hl : L.length ≤ 1099511627776) (h : tableR L n c = true) (hs : tabOk L) : tabX L c = tputB L c := by
  have h1 := (tabX_eq hl h hs).1
  have h2 := countB_le L
  unfold tabX at h1 ⊢
  cases hb : tableR L 4096 c with
  | true => rfl
  | false => rw [hb] at h1; simp at h1; omega
theorem tab_inj {L M : List U} {n n' c : Int} {r s : List U} (hl : L.length ≤ 1099511627776) (hm : M.length ≤ 1099511627776) (hx : tableR L n c = true) (hy : tableR M n' c = true) (sx : tabOk L) (sy : tabOk M) (h : tabX L c ++ r = tabX M c ++ s) : tabE L M = true ∧ r = s := by
  rw [tabX_is hl hx sx, tabX_is hm hy sy] at h
  unfold tputB at h
  rw [List.append_assoc, List.append_assoc] at h
  have lx := (tableR_low hl hx).1
  have ly := (tableR_low hm hy).1
  have cx := countB_le L
  have cy := countB_le M
  obtain ⟨h1, h⟩ := inj2 cx.1 (by omega) cy.1 (by omega) h
  obtain ⟨px, qx⟩ := tableR_parts hx
  obtain ⟨py, qy⟩ := tableR_parts hy
  exact leaves_inj px py sx sy qx qy h1 (by omega) (by omega) (by omega) h
theorem spans_inj : ∀ {L M : List U} {r s : List U}, (∀ x ∈ L, spanOk x) → (∀ x ∈ M, spanOk x) → L.length = M.length → spansB L ++ r = spansB M ++ s → spansE L M = true ∧ r = s
  | [], [], _, _, _, _, _, h => ⟨rfl, h⟩
  | [], _ :: _, _, _, _, _, hl, _ => by simp at hl
  | _ :: _, [], _, _, _, _, hl, _ => by simp at hl
  | x :: l, y :: m, r, s, hx, hy, hl, h => by
    obtain ⟨x1, x2, x3, x4⟩ := hx x (List.mem_cons_self ..)
    obtain ⟨y1, y2, y3, y4⟩ := hy y (List.mem_cons_self ..)
    rw [spansB, spansB] at h
    simp only [List.append_assoc] at h
    obtain ⟨h1, h⟩ := inj2 x1 x2 y1 y2 h
    obtain ⟨h2, h⟩ := inj2 x3 x4 y3 y4 h
    obtain ⟨h3, h⟩ := spans_inj (fun e he => hx e (List.mem_cons_of_mem _ he)) (fun e he => hy e (List.mem_cons_of_mem _ he)) (by simpa using hl) h
    refine ⟨?_, h⟩
    rw [spansE, h3, spanE, h1, h2]
    simp
theorem map_inj {x y : U} {r s : List U} (hx : bmapOk x) (hy : bmapOk y) (h : mapB (e0 x).str (e1 x).bool (e2 x).list ++ r = mapB (e0 y).str (e1 y).bool (e2 y).list ++ s) : mapE x y = true ∧ r = s := by
  obtain ⟨x1, x2, x3⟩ := hx
  obtain ⟨y1, y2, y3⟩ := hy
  unfold mapB at h
  simp only [List.append_assoc] at h
  obtain ⟨h1, h⟩ := text_inj x1 y1 h
  have on : ∀ b : Bool, 0 ≤ onB b ∧ onB b ≤ 255 := fun b => by cases b <;> simp [onB]
  obtain ⟨h2, h⟩ := inj1 (on _).1 (on _).2 (on _).1 (on _).2 h
  obtain ⟨h3, h⟩ := inj2 (by omega) (by omega) (by omega) (by omega) h
  obtain ⟨h4, h⟩ := spans_inj x3 y3 (by omega) h
  have h5 : (e1 x).bool = (e1 y).bool := by
    cases hb : (e1 x).bool <;> cases hb' : (e1 y).bool <;> rw [hb, hb'] at h2 <;> simp [onB] at h2 <;> rfl
  refine ⟨?_, h⟩
  unfold mapE
  rw [h1, h4, h5]
  simp
theorem maps_inj : ∀ {L M : List U} {r s : List U}, (∀ x ∈ L, bmapOk x) → (∀ x ∈ M, bmapOk x) → L.length = M.length → mapsB L ++ r = mapsB M ++ s → mapsE L M = true ∧ r = s
  | [], [], _, _, _, _, _, h => ⟨rfl, h⟩
  | [], _ :: _, _, _, _, _, hl, _ => by simp at hl
  | _ :: _, [], _, _, _, _, hl, _ => by simp at hl
  | x :: l, y :: m, r, s, hx, hy, hl, h => by
    rw [mapsB, mapsB, List.append_assoc, List.append_assoc] at h
    obtain ⟨h1, h⟩ := map_inj (hx x (List.mem_cons_self ..)) (hy y (List.mem_cons_self ..)) h
    obtain ⟨h2, h⟩ := maps_inj (fun e he => hx e (List.mem_cons_of_mem _ he)) (fun e he => hy e (List.mem_cons_of_mem _ he)) (by simpa using hl) h
    exact ⟨by rw [mapsE, h1, h2]; rfl, h⟩
def shotGood (c : Int) (s : U) : Prop := shotOk s ∧ tabOk (e2 s).list ∧ ∃ n, tableR (e2 s).list n c = true
theorem shots_inj {c : Int} : ∀ {L M : List U} {r s : List U}, (∀ x ∈ L, shotGood c x) → (∀ x ∈ M, shotGood c x) → L.length = M.length → shotsB c L ++ r = shotsB c M ++ s → shotsE L M = true ∧ r = s
  | [], [], _, _, _, _, _, h => ⟨rfl, h⟩
  | [], _ :: _, _, _, _, _, hl, _ => by simp at hl
  | _ :: _, [], _, _, _, _, hl, _ => by simp at hl
  | x :: l, y :: m, r, s, hx, hy, hl, h => by
    obtain ⟨⟨x1, x2, x3, x4⟩, x5, n, x6⟩ := hx x (List.mem_cons_self ..)
    obtain ⟨⟨y1, y2, y3, y4⟩, y5, n', y6⟩ := hy y (List.mem_cons_self ..)
    rw [shotsB, shotsB] at h
    simp only [List.append_assoc] at h
    obtain ⟨h1, h⟩ := text_inj x1 y1 h
    obtain ⟨h2, h⟩ := inj2 x2 x3 y2 y3 h
    obtain ⟨h3, h⟩ := tab_inj x4 y4 x6 y6 x5 y5 h
    obtain ⟨h4, h⟩ := shots_inj (fun e he => hx e (List.mem_cons_of_mem _ he)) (fun e he => hy e (List.mem_cons_of_mem _ he)) (by simpa using hl) h
    refine ⟨?_, h⟩
    rw [shotsE, h4, shotE, h1, h2, h3]
    simp
theorem intsE_iff : ∀ {a b : List U}, intsE a b = true ↔ a.map U.int = b.map U.int
  | [], [] => by simp [intsE]
  | [], _ :: _ => by simp [intsE]
  | _ :: _, [] => by simp [intsE]
  | x :: r, y :: s => by
    rw [intsE, Bool.and_eq_true, intsE_iff, List.map_cons, List.map_cons, List.cons.injEq, beq_iff_eq]
theorem lead_take (x : Int) : ∀ (l : List U) (n : Int), (l.take (lead x n l - n).toNat).map U.int = List.replicate (lead x n l - n).toNat x
  | [], n => by simp [lead]
  | y :: r, n => by
    unfold lead
    cases h : decide (n < 65535) && (y.int == x) with
    | false => simp
    | true =>
      rw [Bool.and_eq_true, beq_iff_eq] at h
      have h1 := lead_ge x r (n + 1)
      have h2 := lead_take x r (n + 1)
      rw [cond_true, show (lead x (n + 1) r - n).toNat = (lead x (n + 1) r - (n + 1)).toNat + 1 by omega, List.take_succ_cons, List.map_cons, h2, h.2]
      rfl
theorem counts_inj : ∀ (m : Nat) {L M : List U}, L.length ≤ m → (∀ x ∈ L, cntOk x) → (∀ x ∈ M, cntOk x) → L.length = M.length → countsB L = countsB M → L.map U.int = M.map U.int
  | _, [], [], _, _, _, _, _ => rfl
  | _, [], _ :: _, _, _, _, hl, _ => by simp at hl
  | _, _ :: _, [], _, _, _, hl, _ => by simp at hl
  | 0, _ :: _, _ :: _, hm, _, _, _, _ => by simp at hm
  | k + 1, x :: l, y :: m, hm, hx, hy, hl, h => by
    have x1 := hx x (List.mem_cons_self ..)
    have y1 := hy y (List.mem_cons_self ..)
    unfold cntOk at x1 y1
    have gx := lead_ge x.int l 1
    have gy := lead_ge y.int m 1
    rw [countsB_cons, countsB_cons, List.append_assoc, List.append_assoc] at h
    obtain ⟨h1, h⟩ := inj2 (by omega) (by omega) (by omega) (by omega) h
    obtain ⟨h2, h⟩ := inj2 x1.1 x1.2 y1.1 y1.2 h
    simp only [List.length_cons] at hl hm
    have ih := counts_inj k (by simp; omega) (fun e he => hx e (List.mem_cons_of_mem _ (List.mem_of_mem_drop he))) (fun e he => hy e (List.mem_cons_of_mem _ (List.mem_of_mem_drop he))) (by simp; omega) h
    have tx := lead_take x.int l 1
    have ty := lead_take y.int m 1
    rw [List.map_cons, List.map_cons, h2, ← List.take_append_drop (lead x.int 1 l - 1).toNat l, ← List.take_append_drop (lead y.int 1 m - 1).toNat m, List.map_append, List.map_append, ih, tx, ty, h1, h2]
/-- bytes as such -/
def isByte (u : U) : Prop := ∃ n : Nat, n < 256 ∧ u = .i n
structure allBytes (l : List U) : Prop where
  all : ∀ u ∈ l, isByte u
theorem allBytes.app {l m : List U} (h : allBytes l) (k : allBytes m) : allBytes (l ++ m) := ⟨fun u hu => (List.mem_append.1 hu).elim (h.all u) (k.all u)⟩
theorem allBytes.nil : allBytes [] := ⟨fun u hu => by cases hu⟩
theorem putFrom_bytes (g : Bool) (m v : Int) : ∀ (n : Nat) (i : Int), allBytes (putFrom g m v i n)
  | 0, _ => allBytes.nil
  | n + 1, i => ⟨fun u hu => by
    rw [putFrom] at hu
    rcases List.mem_cons.1 hu with rfl | hu
    · unfold byteAt
      generalize v / 2 ^ (8 * (if g = true then m - 1 - i else i)).toNat = y
      exact ⟨(y % 256).toNat, by omega, by rw [Int.toNat_of_nonneg (by omega)]⟩
    · exact (putFrom_bytes g m v n (i + 1)).all u hu⟩
theorem num_bytes (n v : Int) : allBytes (num [] n v) := by
  unfold num putX
  split
  · rw [List.nil_append]; exact putFrom_bytes ..
  · exact allBytes.nil
theorem strU_bytes (s : ByteArray) : allBytes (strU s) := ⟨fun u hu => by
  obtain ⟨b, _, rfl⟩ := List.mem_map.1 hu
  exact ⟨b.toNat, b.toNat_lt, rfl⟩⟩
theorem text_bytes (s : ByteArray) : allBytes (textB [] s) := by
  unfold textB
  cases longB s with
  | true => exact allBytes.nil
  | false => exact (num_bytes ..).app (strU_bytes s)
theorem leaf_bytes {n c i : Int} : ∀ {l : List U} {k : Int}, entsR n c i k l = true → (∀ e ∈ l, sumOk e) → allBytes (leafB c l)
  | [], _, _, _ => allBytes.nil
  | e :: r, k, h, hs => by
    rw [entsR, Bool.and_eq_true] at h
    have h1 := h.1
    unfold entOk at h1
    rw [Bool.and_eq_true] at h1
    obtain ⟨ha0, ha, _⟩ := may_low h1.1
    rw [leafB, entX, h1.1, cond_true, entB_list h1.1 (hs e (List.mem_cons_self ..))]
    refine allBytes.app ⟨fun u hu => ?_⟩ (leaf_bytes h.2 fun e he => hs e (List.mem_cons_of_mem _ he))
    rcases List.mem_cons.1 hu with rfl | hu
    · exact ⟨(e0 e).int.toNat, by omega, by rw [Int.toNat_of_nonneg ha0]⟩
    rcases List.mem_cons.1 hu with rfl | hu
    · exact ⟨0, by omega, rfl⟩
    · exact ((num_bytes ..).app ((num_bytes ..).app ((num_bytes ..).app (num_bytes ..)))).all u hu
theorem leaves_bytes {n c : Int} : ∀ {L : List U} {i : Int}, leavesR n c i L = true → tabOk L → allBytes (leavesB c i L)
  | [], _, _, _ => allBytes.nil
  | l :: t, i, h, hs => by
    rw [leavesR] at h
    have key : leavesR n c (i + 1) t = true ∧ (l.list = [] ∨ entsR n c i 0 l.list = true) := by
      split at h
      · rename_i hh; exact ⟨h, .inl hh.1⟩
      · rw [Bool.and_eq_true] at h
        have h1 := h.1
        unfold leafR at h1
        simp only [Bool.and_eq_true, decide_eq_true_eq] at h1
        exact ⟨h.2, .inr h1.1.2⟩
    rw [leavesB]
    refine allBytes.app ?_ (leaves_bytes key.1 fun l hl => hs l (List.mem_cons_of_mem _ hl))
    rcases key.2 with hl | he
    · rw [hl]; exact allBytes.nil
    · cases decide (l.list = []) with
      | true => exact allBytes.nil
      | false => exact (num_bytes ..).app (leaf_bytes he (hs l (List.mem_cons_self ..)))
theorem tab_bytes {L : List U} {n c : Int} (hl : L.length ≤ 1099511627776) (h : tableR L n c = true) (hs : tabOk L) : allBytes (tabX L c) := by
  rw [tabX_is hl h hs]
  exact (num_bytes ..).app (leaves_bytes (tableR_parts h).1 hs)
theorem spans_bytes : ∀ L : List U, allBytes (spansB L)
  | [] => allBytes.nil
  | _ :: r => ((num_bytes ..).app (num_bytes ..)).app (spans_bytes r)
theorem maps_bytes : ∀ L : List U, allBytes (mapsB L)
  | [] => allBytes.nil
  | b :: r => by
    rw [mapsB, mapB]
    exact ((((text_bytes _).app (num_bytes ..)).app (num_bytes ..)).app (spans_bytes _)).app (maps_bytes r)
theorem shots_bytes {c : Int} : ∀ {L : List U}, (∀ x ∈ L, shotGood c x) → allBytes (shotsB c L)
  | [], _ => allBytes.nil
  | s :: r, h => by
    obtain ⟨⟨_, _, _, x4⟩, x5, n, x6⟩ := h s (List.mem_cons_self ..)
    rw [shotsB]
    exact (((text_bytes _).app (num_bytes ..)).app (tab_bytes x4 x6 x5)).app (shots_bytes fun x hx => h x (List.mem_cons_of_mem _ hx))
theorem runs_bytes : ∀ (l : List U) (x n : Int), allBytes (runsB x n l)
  | [], _, _ => (num_bytes ..).app (num_bytes ..)
  | y :: r, x, n => by
    rw [runsB]
    cases decide (n < 65535) && (y.int == x) with
    | true => exact runs_bytes r ..
    | false => exact ((num_bytes ..).app (num_bytes ..)).app (runs_bytes r ..)
theorem counts_bytes (L : List U) : allBytes (countsB L) := by
  cases L with
  | nil => exact allBytes.nil
  | cons x r => exact runs_bytes ..
structure Good (c sz bk T S M Q : U) : Prop extends RightFacts c sz bk T S M Q where
  tl : T.list.length ≤ 1099511627776
  ts : tabOk T.list
  sg : ∀ s ∈ S.list, shotGood c.int s
  ql : Q.list.length ≤ 65536
theorem good_bytes {c sz bk T S M Q : U} (g : Good c sz bk T S M Q) : allBytes (metaB c.int sz.int bk.str T.list S.list M.list Q.list) := by
  unfold metaB
  exact (((((((((num_bytes ..).app (num_bytes ..)).app (text_bytes _)).app (tab_bytes g.tl g.t g.ts)).app (num_bytes ..)).app (shots_bytes g.sg)).app (num_bytes ..)).app (maps_bytes _)).app (num_bytes ..)).app (counts_bytes _)
theorem metaB_inj {c sz bk T S M Q c' sz' bk' T' S' M' Q' : U} (g : Good c sz bk T S M Q) (g' : Good c' sz' bk' T' S' M' Q')
    (h : metaB c.int sz.int bk.str T.list S.list M.list Q.list = metaB c'.int sz'.int bk'.str T'.list S'.list M'.list Q'.list) : metaEq c sz bk T S M Q c' sz' bk' T' S' M' Q' = true := by
  have b1 := g.c6; have b2 := g'.c6; have b3 := g.sz1; have b4 := g'.sz1; have b5 := g.bk; have b6 := g'.bk; have b7 := g.s8; have b8 := g'.s8; have b9 := g.m8; have b10 := g'.m8; have b11 := g.ql; have b12 := g'.ql
  unfold metaB at h
  simp only [List.append_assoc] at h
  obtain ⟨h1, h⟩ := inj1 g.c0 (by omega) g'.c0 (by omega) h
  obtain ⟨h2, h⟩ := inj2 g.sz0 (by omega) g'.sz0 (by omega) h
  obtain ⟨h3, h⟩ := text_inj (by omega) (by omega) h
  rw [← h1] at h
  have ht' := g'.t
  rw [← h1] at ht'
  obtain ⟨h4, h⟩ := tab_inj g.tl g'.tl g.t ht' g.ts g'.ts h
  obtain ⟨h5, h⟩ := inj1 (by omega) (by omega) (by omega) (by omega) h
  have hsg' := g'.sg
  rw [← h1] at hsg'
  obtain ⟨h6, h⟩ := shots_inj g.sg hsg' (by omega) h
  obtain ⟨h7, h⟩ := inj1 (by omega) (by omega) (by omega) (by omega) h
  obtain ⟨h8, h⟩ := maps_inj (fun s hs => (g.maps s hs).1) (fun s hs => (g'.maps s hs).1) (by omega) h
  obtain ⟨h9, h⟩ := inj4 (by omega) (by omega) (by omega) (by omega) h
  have h10 := counts_inj _ (Nat.le_refl _) g.counts g'.counts (by omega) h
  unfold metaEq
  rw [h1, h2, h3, h4, h6, h8, intsE_iff.2 h10]
  simp
/-- and alike ones the same -/
theorem str_of_list {s t : ByteArray} (h : s.toList = t.toList) : s = t := by
  rw [ByteArray.toList_eq, ByteArray.toList_eq] at h
  exact ByteArray.ext (Array.ext' h)
theorem ent_same {x y : U} (h : entE x y = true) : (e0 x).int = (e0 y).int ∧ (e1 x).int = (e1 y).int ∧ (e2 x).int = (e2 y).int ∧ (e3 x).int = (e3 y).int ∧ (e4 x).int = (e4 y).int := by
  unfold entE at h
  simpa using h
theorem leaf_same {c : Int} : ∀ {l m : List U}, entsE l m = true → leafB c l = leafB c m
  | [], [], _ => rfl
  | [], _ :: _, h => by cases h
  | _ :: _, [], h => by cases h
  | x :: l, y :: m, h => by
    rw [entsE, Bool.and_eq_true] at h
    obtain ⟨h0, h1, h2, h3, h4⟩ := ent_same h.1
    rw [leafB, leafB, entX, entX, h0, h1, h2, h3, h4, leaf_same h.2]
theorem nil_same {l m : List U} (h : entsE l m = true) : decide (l = []) = decide (m = []) := by
  have := entsE_len h
  cases l <;> cases m <;> first | rfl | simp at this
theorem leaves_same {c : Int} : ∀ {L M : List U} {i : Int}, tabE L M = true → leavesB c i L = leavesB c i M ∧ countB L = countB M
  | [], [], _, _ => ⟨rfl, rfl⟩
  | [], _ :: _, _, h => by cases h
  | _ :: _, [], _, h => by cases h
  | x :: l, y :: m, i, h => by
    rw [tabE, Bool.and_eq_true] at h
    obtain ⟨h1, h2⟩ := leaves_same (c := c) (i := i + 1) h.2
    rw [leavesB, leavesB, countB, countB, nil_same h.1, leaf_same h.1, h1, h2]
    exact ⟨rfl, rfl⟩
theorem spans_same : ∀ {L M : List U}, spansE L M = true → spansB L = spansB M
  | [], [], _ => rfl
  | [], _ :: _, h => by cases h
  | _ :: _, [], h => by cases h
  | x :: l, y :: m, h => by
    rw [spansE, Bool.and_eq_true, spanE] at h
    simp only [Bool.and_true, Bool.and_eq_true, beq_iff_eq] at h
    rw [spansB, spansB, h.1.1, h.1.2, spans_same h.2]
theorem maps_same : ∀ {L M : List U}, mapsE L M = true → mapsB L = mapsB M
  | [], [], _ => rfl
  | [], _ :: _, h => by cases h
  | _ :: _, [], h => by cases h
  | x :: l, y :: m, h => by
    rw [mapsE, Bool.and_eq_true, mapE] at h
    simp only [Bool.and_eq_true, beq_iff_eq] at h
    obtain ⟨⟨⟨h1, h2⟩, h3⟩, h4⟩ := h
    rw [mapsB, mapsB, mapB, mapB, str_of_list h1, h2, spansE_len h3, spans_same h3, maps_same h4]
theorem counts_same {L M : List U} (h : L.map U.int = M.map U.int) : countsB L = countsB M := by
  have key : ∀ (L M : List U) (x n : Int), L.map U.int = M.map U.int → runsB x n L = runsB x n M := by
    intro L
    induction L with
    | nil => intro M x n h; cases M with
      | nil => rfl
      | cons y m => simp at h
    | cons a l ih => intro M x n h; cases M with
      | nil => simp at h
      | cons y m =>
        rw [List.map_cons, List.map_cons, List.cons.injEq] at h
        rw [runsB, runsB, h.1, ih m _ _ h.2, ih m _ _ h.2]
  cases L with
  | nil => cases M with
    | nil => rfl
    | cons y m => simp at h
  | cons x l => cases M with
    | nil => simp at h
    | cons y m =>
      rw [List.map_cons, List.map_cons, List.cons.injEq] at h
      rw [countsB, countsB, h.1]
      exact key _ _ _ _ h.2
theorem tab_same {L M : List U} {n n' c : Int} (hl : L.length ≤ 1099511627776) (hm : M.length ≤ 1099511627776) (hx : tableR L n c = true) (hy : tableR M n' c = true) (sx : tabOk L) (sy : tabOk M) (h : tabE L M = true) : tabX L c = tabX M c := by
  rw [tabX_is hl hx sx, tabX_is hm hy sy, tputB, tputB, (leaves_same h).1, (leaves_same (c := c) (i := 0) h).2]
theorem shots_same {c : Int} : ∀ {L M : List U}, (∀ x ∈ L, shotGood c x) → (∀ x ∈ M, shotGood c x) → shotsE L M = true → shotsB c L = shotsB c M
  | [], [], _, _, _ => rfl
  | [], _ :: _, _, _, h => by cases h
  | _ :: _, [], _, _, h => by cases h
  | x :: l, y :: m, hx, hy, h => by
    obtain ⟨⟨_, _, _, x4⟩, x5, n, x6⟩ := hx x (List.mem_cons_self ..)
    obtain ⟨⟨_, _, _, y4⟩, y5, n', y6⟩ := hy y (List.mem_cons_self ..)
    rw [shotsE, Bool.and_eq_true, shotE] at h
    simp only [Bool.and_eq_true, beq_iff_eq] at h
    obtain ⟨⟨⟨h1, h2⟩, h3⟩, h4⟩ := h
    rw [shotsB, shotsB, str_of_list h1, h2, tab_same x4 y4 x6 y6 x5 y5 h3, shots_same (fun e he => hx e (List.mem_cons_of_mem _ he)) (fun e he => hy e (List.mem_cons_of_mem _ he)) h4]
theorem metaB_same {c sz bk T S M Q c' sz' bk' T' S' M' Q' : U} (g : Good c sz bk T S M Q) (g' : Good c' sz' bk' T' S' M' Q') (h : metaEq c sz bk T S M Q c' sz' bk' T' S' M' Q' = true) :
    metaB c.int sz.int bk.str T.list S.list M.list Q.list = metaB c'.int sz'.int bk'.str T'.list S'.list M'.list Q'.list := by
  unfold metaEq at h
  simp only [Bool.and_eq_true, beq_iff_eq] at h
  obtain ⟨⟨⟨⟨⟨⟨h1, h2⟩, h3⟩, h4⟩, h5⟩, h6⟩, h7⟩ := h
  have ht' := g'.t
  have hs' := g'.sg
  rw [← h1] at ht' hs'
  unfold metaB
  rw [← h1, h2, str_of_list h3, tab_same g.tl g'.tl g.t ht' g.ts g'.ts h4, shotsE_len h7, shots_same g.sg hs' h7, mapsE_len h5, maps_same h5, intsE_len h6, counts_same (intsE_iff.1 h6)]
/-- bytes as a text -/
abbrev toS (l : List U) : ByteArray := ⟨(l.map fun x => UInt8.ofNat x.int.toNat).toArray⟩
theorem toS_inj {l m : List U} (hl : allBytes l) (hm : allBytes m) (h : (toS l).toList = (toS m).toList) : l = m := by
  rw [ByteArray.toList_eq, ByteArray.toList_eq] at h
  simp only [List.toList_toArray] at h
  induction l generalizing m with
  | nil => cases m with
    | nil => rfl
    | cons y m => simp at h
  | cons x l ih => cases m with
    | nil => simp at h
    | cons y m =>
      rw [List.map_cons, List.map_cons, List.cons.injEq] at h
      obtain ⟨a, ha, rfl⟩ := hl.all x (List.mem_cons_self ..)
      obtain ⟨b, hb, rfl⟩ := hm.all y (List.mem_cons_self ..)
      have h1 := congrArg UInt8.toNat h.1
      simp only [U.int_i, Int.toNat_natCast, UInt8.toNat_ofNat'] at h1
      rw [ih ⟨fun u hu => hl.all u (List.mem_cons_of_mem _ hu)⟩ ⟨fun u hu => hm.all u (List.mem_cons_of_mem _ hu)⟩ h.2]
      congr 3
      omega
end Go.Mat

/-
  WALKS 25: the law of unlike metas. Conditions: none.
-/
namespace Go.Mat
open Go Go.Den Go.Proofs

theorem good_of {c sz bk T S M Q : U} (hg : metaG bk T S M Q = false) (hr : rmetaR c sz bk T S M Q = true) (hT : okC (.sl false [.sl true EC]) T) (hS : okC (.sl true SC) S) :
    Good c sz bk T S M Q ∧ metaE c sz bk T S M Q = 0 ∧ metaX c sz bk T S M Q = metaB c.int sz.int bk.str T.list S.list M.list Q.list := by
  have hsz := metaG_low hg
  have hR := right_facts hsz.1 hsz.2.1 hr
  obtain ⟨_, hL, _⟩ := metaB_len hg hR (tab_sums hT) (shot_sums hS)
  rw [rmetaR_eq hsz.1 hsz.2.1] at hr
  refine ⟨{ hR with tl := hsz.1, ts := tab_sums hT, ql := hR.q, sg := fun s hs => ?_ }, ?_, ?_⟩
  · obtain ⟨h1, h2, h3, h4⟩ := hR.shots s hs
    exact ⟨⟨by omega, h2, by omega, hsz.2.1 s hs⟩, shot_sums hS s hs, h4⟩
  · unfold metaE; rw [hr, hL]; rfl
  · unfold metaX; rw [hr, hL]; rfl
theorem lawun_ok : SpecF PR 5 trueS := fun fn us hfn => by
  have hf : PR.funcs[(5 : Nat)]? = some Try.f5 := by kernel_rfl
  rw [hf] at hfn; cases hfn
  refine fn_okH (C := unlikeC2) (mkC_ok eqs0_ok mixed_ok (.consP mput_ok (.cons err_ok (.cons metaG_ok (.cons awake_ok (.cons rmeta_ok (.cons same_ok .nil)))))) .nil) hf (by kernel_rfl) (loops_none (by kernel_rfl)) fun hok => ?_
  have hp : Try.f5.params.toList = [29, 29] := by kernel_rfl
  rw [hp] at hok
  obtain ⟨c, sz, bk, T, S, M, Q, c', sz', bk', T', S', M', Q', hus⟩ : ∃ c sz bk T S M Q c' sz' bk' T' S' M' Q', us = [[c, sz, bk, T, S, M, Q], [c', sz', bk', T', S', M', Q']] := by
    obtain ⟨u, u2, rfl, h1, h2⟩ := shape2 (by kernel_rfl : Cs PR 29 = some (true, [.int .i64, .int .i64, .str, .sl false [.sl true EC], .sl true SC, .sl true BC, .sl false [.int .i64]])) (by kernel_rfl : Cs PR 29 = some (true, [.int .i64, .int .i64, .str, .sl false [.sl true EC], .sl true SC, .sl true BC, .sl false [.int .i64]])) hok.1
    obtain ⟨c, sz, bk, T, S, M, Q, rfl⟩ := len7 h1
    obtain ⟨c', sz', bk', T', S', M', Q', rfl⟩ := len7 h2
    exact ⟨c, sz, bk, T, S, M, Q, c', sz', bk', T', S', M', Q', rfl⟩
  subst hus
  refine .eq (lawun_tree _ c sz bk T S M Q c' sz' bk' T' S' M' Q') ?_
  refine bi (fun _ => rfl) (fun hg => bi (fun _ => rfl) (fun hg' => bi (fun _ => rfl) (fun hr => bi (fun _ => rfl) (fun hr' => ?_))))
  have hok2 := hok.2 [.agg (mCells c sz bk T S M Q), .agg (mCells c' sz' bk' T' S' M' Q')] (by kernel_rfl)
  obtain ⟨g, hE, hX⟩ := good_of hg (nf hr) hok2.1.2.2.2.1 hok2.1.2.2.2.2.1
  obtain ⟨g', hE', hX'⟩ := good_of hg' (nf hr') hok2.2.1.2.2.2.1 hok2.2.1.2.2.2.2.1
  refine ⟨metaG_low hg, metaG_low hg', bt (by rw [hE]; rfl) (bt (by rw [hE']; rfl) (bt ?_ rfl))⟩
  rw [hX, hX']
  cases h : metaEq c sz bk T S M Q c' sz' bk' T' S' M' Q' with
  | true => rw [metaB_same g g' h]; simp
  | false =>
    have hne : ¬ (toS (metaB c.int sz.int bk.str T.list S.list M.list Q.list)).toList = (toS (metaB c'.int sz'.int bk'.str T'.list S'.list M'.list Q'.list)).toList := fun he => by
      rw [metaB_inj g g' (toS_inj (good_bytes g) (good_bytes g') he)] at h
      cases h
    have hb : ((toS (metaB c.int sz.int bk.str T.list S.list M.list Q.list)).toList == (toS (metaB c'.int sz'.int bk'.str T'.list S'.list M'.list Q'.list)).toList) = false := by simpa using hne
    exact beq_iff_eq.2 hb
end Go.Mat
