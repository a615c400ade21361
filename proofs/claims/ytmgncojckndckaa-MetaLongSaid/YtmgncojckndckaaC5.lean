/- A part of the proof of this: a right meta's bytes are as many as its parts want. Conditions: none. Joined of F20. -/
import Derived.Test.YtmgncojckndckaaC4
/-
  LAWS 20: how many bytes a meta has. Conditions: none.
-/
namespace Go.Mat
open Go Go.Den Go.Proofs

theorem num_eq {n v : Int} (h : putErr n (IntKind.wrap .u64 v) = 0) : (num [] n v).length = n.toNat := by
  unfold num putX
  rw [if_pos h, List.nil_append, putFrom_len]
theorem num1_eq {v : Int} (h0 : 0 ≤ v) (h : v ≤ 255) : (num [] 1 v).length = 1 := num_eq (good1 h0 h)
theorem num2_eq {v : Int} (h0 : 0 ≤ v) (h : v ≤ 65535) : (num [] 2 v).length = 2 := num_eq (good2 h0 h)
theorem num4_eq {v : Int} (h0 : 0 ≤ v) (h : v ≤ 4294967295) : (num [] 4 v).length = 4 := num_eq (good4 h0 h)
theorem textB_eq {s : ByteArray} (h : s.size ≤ 65535) : (textB [] s).length = 2 + s.size := by
  unfold textB
  rw [show longB s = false from decide_eq_false (by omega), cond_false, List.length_append, num2_eq (by omega) (by omega), strU_len]
/-- sums that may be -/
def sumOk (e : U) : Prop := 0 ≤ (e4 e).int ∧ (e4 e).int ≤ 4294967295
def tabOk (L : List U) : Prop := ∀ l ∈ L, ∀ e ∈ l.list, sumOk e
theorem may_low {k st ct sz sm c : Int} (h : mayR k st ct sz sm c = true) : 0 ≤ k ∧ k ≤ 3 ∧ 0 ≤ st ∧ st ≤ 65536 ∧ 0 ≤ ct ∧ ct ≤ 64 ∧ 0 ≤ sz ∧ sz ≤ 1024 := by
  unfold mayR at h
  split at h
  · cases h
  · rename_i hc
    have hp := pow_le (c := c) (by omega) (by omega)
    split at h
    · have := of_decide_eq_true h
      omega
    · split at h
      · simp only [Bool.and_eq_true, placeR, decide_eq_true_eq] at h
        omega
      · split at h
        · simp only [Bool.and_eq_true, placeR, decide_eq_true_eq] at h
          omega
        · cases h
theorem entB_len {a b c d e k : Int} (h : mayR a b c d e k = true) (he : 0 ≤ e ∧ e ≤ 4294967295) : (entB a b c d e).length = 16 := by
  obtain ⟨_, _, hb0, hb, hc0, hc, hd0, hd⟩ := may_low h
  have hw : IntKind.wrap .i64 e = e := i64_in (by omega) (by omega)
  unfold entB
  rw [hw, num_app (v := e) (good4 he.1 he.2), List.length_append, num_app (v := d) (good4 (by omega) (by omega)), List.length_append, num_app (v := b) (good4 (by omega) (by omega)), List.length_append, num_app (v := c) (good2 (by omega) (by omega)), List.length_append,
    num4_eq he.1 he.2, num4_eq (by omega) (by omega), num4_eq (by omega) (by omega), num2_eq (by omega) (by omega)]
  rfl
theorem leafB_eq {n c i : Int} : ∀ {l : List U} {k : Int}, entsR n c i k l = true → (∀ e ∈ l, sumOk e) → (leafB c l).length = 16 * l.length
  | [], _, _, _ => by simp [leafB]
  | e :: r, k, h, hs => by
    rw [entsR, Bool.and_eq_true] at h
    have h1 := h.1
    unfold entOk at h1
    rw [Bool.and_eq_true] at h1
    have hl := leafB_eq h.2 fun e he => hs e (List.mem_cons_of_mem _ he)
    rw [leafB, entX, h1.1, cond_true, List.length_append, entB_len h1.1 (hs e (List.mem_cons_self ..)), hl, List.length_cons]
    omega
theorem leavesB_eq {n c : Int} : ∀ {L : List U} {i : Int}, leavesR n c i L = true → 0 ≤ i → i + L.length ≤ 65535 → tabOk L → ((leavesB c i L).length : Int) = 130 * countB L
  | [], _, _, _, _, _ => by simp [leavesB, countB]
  | l :: r, i, h, h0, hi, hs => by
    simp only [List.length_cons] at hi
    rw [leavesR] at h
    have key : leavesR n c (i + 1) r = true ∧ (l.list = [] ∨ (l.list.length = 8 ∧ entsR n c i 0 l.list = true)) := by
      split at h
      · rename_i hh; exact ⟨h, .inl hh.1⟩
      · rw [Bool.and_eq_true] at h
        have h1 := h.1
        unfold leafR at h1
        simp only [Bool.and_eq_true, decide_eq_true_eq] at h1
        exact ⟨h.2, .inr h1.1⟩
    have ih := leavesB_eq key.1 (by omega) (by omega) fun l hl => hs l (List.mem_cons_of_mem _ hl)
    rw [leavesB, countB, List.length_append]
    rcases key.2 with hl | ⟨hl, he⟩
    · rw [hl]; simp only [decide_true, cond_true, List.length_nil]; omega
    · rw [decide_eq_false (by intro h0; rw [h0] at hl; simp at hl)]
      simp only [cond_false, List.length_append]
      have h2 := leafB_eq he (hs l (List.mem_cons_self ..))
      have h3 := num2_eq (v := i) h0 (by omega)
      omega
theorem tabX_eq {L : List U} {n c : Int} (hl : L.length ≤ 1099511627776) (h : tableR L n c = true) (hs : tabOk L) : ((tabX L c).length : Int) = 2 + 130 * countB L ∧ countB L ≤ 512 := by
  obtain ⟨h1, h2, h3, h4, h5, h6⟩ := tableR_low hl h
  have h7 : leavesR n c 0 L = true := by
    unfold tableR at h
    split at h
    · cases h
    · exact h
  have hc := countB_le L
  have hm : ∀ {m : Int}, n ≤ m → ∀ {L : List U} {i : Int}, leavesR n c i L = true → leavesR m c i L = true := fun {m} hm => by
    have he : ∀ {l : List U} {i k : Int}, entsR n c i k l = true → entsR m c i k l = true := by
      intro l
      induction l with
      | nil => intro i k _; rfl
      | cons e r ih =>
        intro i k h
        rw [entsR, Bool.and_eq_true] at h ⊢
        refine ⟨?_, ih h.2⟩
        have h1 := h.1
        unfold entOk at h1 ⊢
        rw [Bool.and_eq_true, Bool.or_eq_true] at h1 ⊢
        refine ⟨h1.1, h1.2.imp id fun h => ?_⟩
        have := of_decide_eq_true h
        exact decide_eq_true (by omega)
    intro L
    induction L with
    | nil => intro i _; rfl
    | cons l r ih =>
      intro i h
      rw [leavesR] at h ⊢
      split at h
      · rename_i hc; rw [if_pos hc]; exact ih h
      · rename_i hc
        rw [if_neg hc]
        rw [Bool.and_eq_true] at h ⊢
        refine ⟨?_, ih h.2⟩
        have h1 := h.1
        unfold leafR at h1 ⊢
        simp only [Bool.and_eq_true] at h1 ⊢
        exact ⟨⟨h1.1.1, he h1.1.2⟩, h1.2⟩
  have ht : tableR L 4096 c = true := by
    unfold tableR
    rw [if_neg (by omega)]
    exact hm h4 h7
  have hB := leavesB_eq h7 (by omega) (by omega) hs
  unfold tabX tputB
  rw [ht, cond_true, List.length_append]
  have h9 := num2_eq (v := countB L) hc.1 (by omega)
  omega
theorem spansB_eq : ∀ {L : List U}, (∀ s ∈ L, spanOk s) → (spansB L).length = 4 * L.length
  | [], _ => by simp [spansB]
  | s :: r, h => by
    obtain ⟨h1, h2, h3, h4⟩ := h s (List.mem_cons_self ..)
    rw [spansB, List.length_append, List.length_append, spansB_eq fun s hs => h s (List.mem_cons_of_mem _ hs), num2_eq h1 h2, num2_eq h3 h4, List.length_cons]
    omega
theorem runsB_len {x : Int} : ∀ {l : List U} {n : Int}, 0 ≤ x → x ≤ 65535 → (∀ y ∈ l, cntOk y) → 1 ≤ n → n + l.length ≤ 65535 → ((runsB x n l).length : Int) = 4 + diffsN x l
  | [], n, hx0, hx, _, h1, h2 => by
    simp only [List.length_nil] at h2
    rw [runsB, diffsN, List.length_append, num2_eq (by omega) (by omega), num2_eq hx0 hx]
    rfl
  | y :: r, n, hx0, hx, hc, h1, h2 => by
    simp only [List.length_cons] at h2
    have hy := hc y (List.mem_cons_self ..)
    unfold cntOk at hy
    have hr : ∀ y ∈ r, cntOk y := fun z hz => hc z (List.mem_cons_of_mem _ hz)
    rw [runsB, diffsN, decide_eq_true (show n < 65535 by omega), Bool.true_and]
    cases he : y.int == x with
    | true =>
      have he' : y.int = x := by simpa using he
      rw [cond_true, cond_true, he', runsB_len hx0 hx hr (by omega) (by omega)]
      omega
    | false =>
      rw [cond_false, cond_false, List.length_append, List.length_append, num2_eq (by omega) (by omega), num2_eq hx0 hx]
      have := runsB_len (x := y.int) (n := 1) hy.1 hy.2 hr (by omega) (by omega)
      omega
theorem countsB_eq {Q : List U} (h : ∀ y ∈ Q, cntOk y) (hl : Q.length ≤ 65535) : ((countsB Q).length : Int) = countsN Q := by
  cases Q with
  | nil => rfl
  | cons x r =>
    have hx := h x (List.mem_cons_self ..)
    simp only [List.length_cons] at hl
    rw [countsB, countsN]
    exact runsB_len hx.1 hx.2 (fun y hy => h y (List.mem_cons_of_mem _ hy)) (by omega) (by omega)
theorem diffsN_le (p : Int) : ∀ (l : List U), 0 ≤ diffsN p l ∧ diffsN p l ≤ 4 * l.length
  | [] => by simp [diffsN]
  | y :: r => by
    have := diffsN_le y.int r
    rw [diffsN, List.length_cons]
    cases y.int == p with
    | true => simp only [cond_true]; omega
    | false => simp only [cond_false]; omega
theorem countsN_le (Q : List U) : 0 ≤ countsN Q ∧ countsN Q ≤ 4 * Q.length := by
  cases Q with
  | nil => simp [countsN]
  | cons x r => have := diffsN_le x.int r; rw [countsN, List.length_cons]; omega
theorem shotsB_eq {c : Int} : ∀ {S : List U}, (∀ s ∈ S, shotOk s ∧ (e0 s).str.size ≤ 16 ∧ tabOk (e2 s).list ∧ ∃ n, tableR (e2 s).list n c = true) → ((shotsB c S).length : Int) = shotsN S ∧ 0 ≤ shotsN S ∧ shotsN S ≤ 70000 * S.length
  | [], _ => by simp [shotsB, shotsN]
  | s :: r, h => by
    obtain ⟨ih, ih0, ih1⟩ := shotsB_eq (c := c) fun s hs => h s (List.mem_cons_of_mem _ hs)
    obtain ⟨⟨h1, h2, h3, h4⟩, h5, h6, n, h7⟩ := h s (List.mem_cons_self ..)
    have g1 := textB_eq h1
    have g2 := num2_eq h2 h3
    obtain ⟨g3, g4⟩ := tabX_eq h4 h7 h6
    have g5 := countB_le (e2 s).list
    rw [shotsB, shotsN, List.length_append, List.length_append, List.length_append, List.length_cons]
    omega
theorem mapsB_eq : ∀ {M : List U}, (∀ s ∈ M, bmapOk s ∧ (e0 s).str.size ≤ 16 ∧ (e2 s).list.length ≤ 500) → ((mapsB M).length : Int) = mapsN M ∧ 0 ≤ mapsN M ∧ mapsN M ≤ 3000 * M.length
  | [], _ => by simp [mapsB, mapsN]
  | s :: r, h => by
    obtain ⟨ih, ih0, ih1⟩ := mapsB_eq fun s hs => h s (List.mem_cons_of_mem _ hs)
    obtain ⟨⟨h1, h2, h3⟩, h4, h5⟩ := h s (List.mem_cons_self ..)
    have g1 := textB_eq h1
    have g2 := num1_eq (v := onB (e1 s).bool) (by cases (e1 s).bool <;> simp [onB]) (by cases (e1 s).bool <;> simp [onB])
    have g3 := num2_eq (v := (e2 s).list.length) (by omega) (by omega)
    have g4 := spansB_eq h3
    rw [mapsB, mapB, mapsN, List.length_append, List.length_append, List.length_append, List.length_append, List.length_cons]
    omega
/-- what is read is in range: sums -/
theorem tab_sums {L : U} (h : okC (.sl false [.sl true EC]) L) : tabOk L.list := fun l hl e he => by
  obtain ⟨i, hi, rfl⟩ := List.getElem_of_mem hl
  obtain ⟨j, hj, rfl⟩ := List.getElem_of_mem he
  have h1 := (h.2 i hi).1
  simp only [elemU_false] at h1
  have e1 : U.at [U.at L.list i] 0 = L.list[i] := at_getElem _ _ hi
  rw [e1] at h1
  have h2 := (h1.2 j hj).2.2.2.2.1
  simp only [elemU_true, nth_tail, U.at] at h2
  have e2 : nth (U.i 0) (L.list[i]).list j = (L.list[i]).list[j] := at_getElem _ _ hj
  rw [e2] at h2
  exact h2
theorem shot_sums {S : U} (h : okC (.sl true SC) S) : ∀ s ∈ S.list, tabOk (e2 s).list := fun s hs => by
  obtain ⟨i, hi, rfl⟩ := List.getElem_of_mem hs
  have h1 := (h.2 i hi).2.2.1
  simp only [elemU_true, nth_tail, U.at] at h1
  have e1 : nth (U.i 0) S.list i = S.list[i] := at_getElem _ _ hi
  rw [e1] at h1
  exact tab_sums h1
structure RightFacts (c sz bk T S M Q : U) : Prop where
  c0 : 0 ≤ c.int
  c6 : c.int ≤ 6
  sz0 : 0 ≤ sz.int
  sz1 : sz.int ≤ 4096
  bk : bk.str.size ≤ 16
  t : tableR T.list (sz.int / 2 ^ c.int.toNat) c.int = true
  s8 : S.list.length ≤ 8
  m8 : M.list.length ≤ 8
  q : Q.list.length ≤ 65536
  shots : ∀ s ∈ S.list, (e0 s).str.size ≤ 16 ∧ 0 ≤ (e1 s).int ∧ (e1 s).int ≤ 4096 ∧ ∃ n, tableR (e2 s).list n c.int = true
  maps : ∀ s ∈ M.list, bmapOk s ∧ (e0 s).str.size ≤ 16
  counts : ∀ x ∈ Q.list, cntOk x
theorem shotsR_each {c : Int} : ∀ {r : List U}, shotsR c r = true → ∀ s ∈ r, ∃ n, tableR (e2 s).list n c = true
  | [], _, s, hs => by cases hs
  | x :: r, h, s, hs => by
    rw [shotsR] at h
    simp only [Bool.and_eq_true] at h
    rcases List.mem_cons.1 hs with rfl | hs
    · exact ⟨_, h.1.2⟩
    · exact shotsR_each h.2 s hs
theorem right_facts {c sz bk T S M Q : U} (hT : T.list.length ≤ 1099511627776) (hS : ∀ s ∈ S.list, (e2 s).list.length ≤ 1099511627776) (h : rmetaR c sz bk T S M Q = true) : RightFacts c sz bk T S M Q := by
  have hr2 := h
  rw [rmetaR_eq hT hS, metaR_iff] at hr2
  rw [rmetaR] at h
  simp only [Bool.and_eq_true, decide_eq_true_eq] at h
  obtain ⟨⟨⟨⟨⟨⟨⟨⟨⟨⟨hc0, hc6⟩, hsz⟩, hbk⟩, hS8⟩, hM8⟩, hQ⟩, _⟩, hSr⟩, hMr⟩, hQr⟩ := h
  have hsz := size_low hsz
  exact { c0 := hc0, c6 := hc6, sz0 := hsz.1, sz1 := hsz.2, bk := back_size hbk, t := hr2.2.2.2.2.1, s8 := hS8, m8 := hM8, q := hQ
          shots := fun s hs => by
            obtain ⟨h1, h2⟩ := rshots_each hSr s hs
            have h3 := size_low h2
            exact ⟨name_size h1, h3.1, h3.2, shotsR_each hr2.2.2.2.2.2.2.2.2.1 s hs⟩
          maps := fun s hs => by
            obtain ⟨h1, h2, h3⟩ := rmaps_each hMr s hs
            have := name_size h1
            have := span_ok h2 h3
            exact ⟨⟨by omega, this.1, this.2⟩, by omega⟩
          counts := counts_each hQr }
theorem metaB_len {c sz bk T S M Q : U} (hg : metaG bk T S M Q = false) (hr : RightFacts c sz bk T S M Q) (hT : tabOk T.list) (hS : ∀ s ∈ S.list, tabOk (e2 s).list) :
    ((metaB c.int sz.int bk.str T.list S.list M.list Q.list).length : Int) = 13 + bk.str.size + countB T.list * 130 + shotsN S.list + mapsN M.list + countsN Q.list ∧ metaL c.int sz.int bk.str T.list S.list M.list Q.list = false ∧ 0 ≤ shotsN S.list ∧ shotsN S.list ≤ 560000 ∧ 0 ≤ mapsN M.list ∧ mapsN M.list ≤ 24000 ∧
      countB T.list ≤ 512 ∧ (∀ s ∈ S.list, shotLow s) ∧ (∀ s ∈ M.list, mapLow s) ∧ Q.list.length ≤ 20000 := by
  obtain ⟨g1, g2, g3⟩ := metaG_low hg
  have hg' := hg
  unfold metaG at hg'
  simp only [Bool.or_eq_false_iff] at hg'
  obtain ⟨⟨⟨⟨⟨⟨f1, f2⟩, f3⟩, f4⟩, f5⟩, f6⟩, f7⟩ := hg'
  have f4 := of_decide_eq_false f4
  have k1 := num1_eq hr.c0 (by have := hr.c6; omega)
  have k2 := num2_eq hr.sz0 (by have := hr.sz1; omega)
  have k3 := textB_eq (s := bk.str) (by have := hr.bk; omega)
  obtain ⟨k4, k5⟩ := tabX_eq g1 hr.t hT
  have k6 := num1_eq (v := S.list.length) (by omega) (by have := hr.s8; omega)
  have k7 := num1_eq (v := M.list.length) (by omega) (by have := hr.m8; omega)
  have k8 := num4_eq (v := Q.list.length) (by omega) (by omega)
  obtain ⟨k9, k10, k11⟩ := shotsB_eq (c := c.int) (S := S.list) fun s hs => by
    obtain ⟨q1, q2, q3, q4⟩ := hr.shots s hs
    exact ⟨⟨by omega, q2, by omega, g2 s hs⟩, q1, hS s hs, q4⟩
  obtain ⟨k12, k13, k14⟩ := mapsB_eq (M := M.list) fun s hs => ⟨(hr.maps s hs).1, (hr.maps s hs).2, mapsG_low f7 s hs⟩
  have k15 := countsB_eq hr.counts (by omega)
  have k16 := countsN_le Q.list
  have k17 := countB_le T.list
  have s8 := hr.s8
  have m8 := hr.m8
  have hb := hr.bk
  have hlen : ((metaB c.int sz.int bk.str T.list S.list M.list Q.list).length : Int) = 13 + bk.str.size + countB T.list * 130 + shotsN S.list + mapsN M.list + countsN Q.list := by
    unfold metaB
    simp only [List.length_append]
    omega
  refine ⟨hlen, ?_, k10, by omega, k13, by omega, k5, fun s hs => ⟨by have := (hr.shots s hs).1; omega, shotsG_low f6 s hs⟩, fun s hs => ⟨by have := (hr.maps s hs).2; omega, mapsG_low f7 s hs⟩, by omega⟩
  unfold metaL
  exact decide_eq_false (by omega)
theorem long_ok : SpecF PR 4 trueS := fun fn us hfn => by
  have hf : PR.funcs[(4 : Nat)]? = some Try.f4 := by kernel_rfl
  rw [hf] at hfn; cases hfn
  refine fn_okH (C := longC) (mkC_ok eqs0_ok mixed_ok (.consP mput_ok (.cons err_ok (.cons metaG_ok (.cons awake_ok (.cons leaves_ok (.cons rmeta_ok .nil)))))) .nil) hf (by kernel_rfl) (loops_three (by kernel_rfl) long_loop0 long_loop2 long_loop4) fun hok => ?_
  have hp : Try.f4.params.toList = [29] := by kernel_rfl
  rw [hp] at hok
  obtain ⟨c, sz, bk, T, S, M, Q, hus⟩ : ∃ c sz bk T S M Q, us = [[c, sz, bk, T, S, M, Q]] := by
    obtain ⟨u, rfl, h1⟩ := shape1 (by kernel_rfl : Cs PR 29 = some (true, [.int .i64, .int .i64, .str, .sl false [.sl true EC], .sl true SC, .sl true BC, .sl false [.int .i64]])) hok.1
    obtain ⟨c, sz, bk, T, S, M, Q, rfl⟩ := len7 h1
    exact ⟨c, sz, bk, T, S, M, Q, rfl⟩
  subst hus
  refine .eq (long_tree _ c sz bk T S M Q) ?_
  refine bi (fun h => rfl) (fun hg => bi (fun h => rfl) (fun hr => ?_))
  have hsz := metaG_low hg
  have hr := nf hr
  have hR := right_facts hsz.1 hsz.2.1 hr
  have hok2 := hok.2 [.agg (mCells c sz bk T S M Q)] (by kernel_rfl)
  have hC := hok2.1
  obtain ⟨hl, hL, k10, k11, k13, k14, k5, hsl, hml, hq⟩ := metaB_len hg hR (tab_sums hC.2.2.2.1) (shot_sums hC.2.2.2.2.1)
  have hb := hR.bk
  have k17 := countB_le T.list
  have s8 := hR.s8
  have m8 := hR.m8
  rw [i64_in (x := 13 + _) (by omega) (by omega), i64_in (x := countB T.list * 130) (by omega) (by omega), i64_in (x := 13 + _ + _) (by omega) (by omega)]
  simp only [Int.toNat_zero, List.drop_zero]
  refine ⟨⟨⟨by trivial, by trivial⟩, ⟨by trivial, by trivial, by trivial⟩, by trivial, by omega, by trivial, by omega, hsl, by omega, by omega⟩, ⟨⟨by trivial, by trivial⟩, ⟨by trivial, by trivial, by trivial⟩, by trivial, by omega, by trivial, by omega, hml, by omega, by omega⟩, ⟨⟨by trivial, by trivial⟩, ⟨by trivial, by trivial, by trivial⟩, by trivial, hq, by trivial, by omega, by omega, by omega⟩, hsz, ?_⟩
  rw [rmetaR_eq hsz.1 hsz.2.1] at hr
  unfold metaE metaX
  rw [hr, hL]
  refine bt rfl (bt ?_ rfl)
  simp only [cond_true, cond_false, decide_true]
  rw [hl]
  simp
end Go.Mat
