/-
  AM, 19: every operation of a program is what the machine does. Conditions: none.
-/
import Derived.Test.YtmhhaimpignndaaGreatAmQa
namespace Go.AM
open Go

/-- an operation, by its class -/
def Cls (P : Program) (o : Oper) (i : I) : Prop := match clsI i with
  | 0 => PureOk P o (dI i)
  | 1 => ReadOk P o (dI i)
  | 2 => NewOk P o (dI i)
  | _ => OpOk P o (dI i)
section
variable {P : Program} {o : Oper}
theorem Cls.op {i : I} (h : Cls P o i) : OpOk P o (dI i) := by
  unfold Cls at h
  split at h
  · exact h.read.op
  · exact h.op
  · exact h.op
  · exact h
theorem cls_bad : Cls P o .bad := fun en h nx κ w0 pd θ a w _ _ e => by cases e
theorem bad_ok {C : I → Prop} (hb : C .bad) {x : Option I} (h : ∀ i, x = some i → C i) : C (bad .bad x) := by
  cases x with
  | none => exact hb
  | some i => exact h i rfl
theorem map2_some {α β γ : Type} {f : α → β → γ} {a : Option α} {b : Option β} {r : γ} (h : map2 f a b = some r) : ∃ x y, a = some x ∧ b = some y ∧ r = f x y := by
  cases a <;> cases b <;> first | (cases h; done) | skip
  injection h with h
  exact ⟨_, _, rfl, rfl, h.symm⟩
theorem map3_some {α β γ δ : Type} {f : α → β → γ → δ} {a : Option α} {b : Option β} {c : Option γ} {r : δ} (h : map3 f a b c = some r) : ∃ x y z, a = some x ∧ b = some y ∧ c = some z ∧ r = f x y z := by
  cases a <;> cases b <;> cases c <;> first | (cases h; done) | skip
  injection h with h
  exact ⟨_, _, _, rfl, rfl, rfl, h.symm⟩
theorem flat_agg {t : TypeId} {g : Bool} {ks : List Nat} {fs : Array Field} (hu : P.underlying t = some (.struct fs)) (h : flatT P t = some (g, ks)) : g = true := by
  rcases flatT_some h with ⟨_, c, _, hc⟩ | ⟨hg, _⟩
  · obtain ⟨d, hd, hk⟩ := flatC_some hc
    rw [hu] at hd
    injection hd with hd
    subst hd
    rcases hk with ⟨k, h1, _⟩ | ⟨h1, _⟩ | ⟨h1, _⟩ <;> cases h1
  · exact hg
theorem flat_agga {t el : TypeId} {g : Bool} {ks : List Nat} {n : Nat} (hu : P.underlying t = some (.array n el)) (h : flatT P t = some (g, ks)) : g = true := by
  rcases flatT_some h with ⟨_, c, _, hc⟩ | ⟨hg, _⟩
  · obtain ⟨d, hd, hk⟩ := flatC_some hc
    rw [hu] at hd
    injection hd with hd
    subst hd
    rcases hk with ⟨k, h1, _⟩ | ⟨h1, _⟩ | ⟨h1, _⟩ <;> cases h1
  · exact hg
theorem cls_bin {op : BinOp} {t t2 : TypeId} {x y : Operand} (ho : o.op = .binOp op t x y t2) : Cls P o (trBin P op t x y) := by
  unfold trBin
  refine bad_ok cls_bad fun i hi => ?_
  obtain ⟨a, b, ha, hb, rfl⟩ := map2_some hi
  have hx := x_ok ha
  have hy := x_ok hb
  split
  · rename_i k hu
    exact p_bin (k := kn k) hx hy ho
  · exact p_bs hx hy ho
  · rename_i hu
    cases op <;> first | exact cls_bad | skip
    · exact p_bb (neg := false) hx hy hu ho
    · exact p_bb (neg := true) hx hy hu ho
  · rename_i fs hu
    have key : ∀ neg, o.op = .binOp (if neg then .neq else .eql) t x y t2 → Cls P o (match flatT P t with | some (g, ks) => .eqs neg g ks a b | none => .bad) := by
      intro neg ho'
      split
      · rename_i g ks hf
        exact p_eqs (neg := neg) hx hy hf ⟨_, hu, fun k => by simp⟩ (flat_agg hu hf) ho'
      · exact cls_bad
    cases op <;> first | exact cls_bad | skip
    · exact key false ho
    · exact key true ho
  · rename_i nn el hu
    have key : ∀ neg, o.op = .binOp (if neg then .neq else .eql) t x y t2 → Cls P o (match flatT P t with | some (g, ks) => .eqs neg g ks a b | none => .bad) := by
      intro neg ho'
      split
      · rename_i g ks hf
        exact p_eqs (neg := neg) hx hy hf ⟨_, hu, fun k => by simp⟩ (flat_agga hu hf) ho'
      · exact cls_bad
    cases op <;> first | exact cls_bad | skip
    · exact key false ho
    · exact key true ho
  · rename_i ms hu
    split
    · rename_i hc
      have hc : isC x = true ∨ isC y = true := by simpa using hc
      cases op <;> first | exact cls_bad | skip
      · exact a_eqn (neg := false) hx hy (tc := 4) ⟨⟨ms, hu⟩, hc⟩ ho
      · exact a_eqn (neg := true) hx hy (tc := 4) ⟨⟨ms, hu⟩, hc⟩ ho
    · exact cls_bad
  · rename_i e hu
    split
    · exact cls_bad
    · rename_i hs
      have : ∃ n, sizeT P e = some n ∧ n ≠ 0 := by
        cases h : sizeT P e with
        | none => rw [h] at hs; exact absurd rfl hs
        | some n => rw [h] at hs; exact ⟨n, rfl, fun hn => hs (by rw [hn]; rfl)⟩
      obtain ⟨n, h1, h2⟩ := this
      cases op <;> first | exact cls_bad | skip
      · exact a_eqn (neg := false) hx hy (tc := 0) ⟨e, n, hu, h1, h2⟩ ho
      · exact a_eqn (neg := true) hx hy (tc := 0) ⟨e, n, hu, h1, h2⟩ ho
  · rename_i e hu
    cases op <;> first | exact cls_bad | skip
    · exact a_eqn (neg := false) hx hy (tc := 1) ⟨e, hu⟩ ho
    · exact a_eqn (neg := true) hx hy (tc := 1) ⟨e, hu⟩ ho
  · rename_i k e hu
    cases op <;> first | exact cls_bad | skip
    · exact a_eqn (neg := false) hx hy (tc := 2) ⟨k, e, hu⟩ ho
    · exact a_eqn (neg := true) hx hy (tc := 2) ⟨k, e, hu⟩ ho
  · rename_i a b c hu
    cases op <;> first | exact cls_bad | skip
    · exact a_eqn (neg := false) hx hy (tc := 3) ⟨a, b, c, hu⟩ ho
    · exact a_eqn (neg := true) hx hy (tc := 3) ⟨a, b, c, hu⟩ ho
  · exact cls_bad
theorem args_one {c : Call} {x : X} (h : omap trX c.args.toList = some [x]) : ∃ Y, c.args.toList = [Y] ∧ trX Y = some x := by
  obtain ⟨h1, h2⟩ := omap_some h
  obtain ⟨Y, hY⟩ : ∃ Y, c.args.toList = [Y] := List.length_eq_one_iff.1 (by simpa using h1)
  obtain ⟨x', q1, q2⟩ := h2 0 Y (by rw [hY]; rfl)
  have : x' = x := by simpa using q1.symm
  subst this
  exact ⟨Y, hY, q2⟩
theorem args_two {c : Call} {x y : X} (h : omap trX c.args.toList = some [x, y]) : ∃ U V, c.args.toList = [U, V] ∧ trX U = some x ∧ trX V = some y := by
  obtain ⟨h1, h2⟩ := omap_some h
  obtain ⟨U, V, hY⟩ := len_two (l := c.args.toList) (by simpa using h1)
  obtain ⟨x', q1, q2⟩ := h2 0 U (by rw [hY]; rfl)
  obtain ⟨y', q3, q4⟩ := h2 1 V (by rw [hY]; rfl)
  have : x' = x := by simpa using q1.symm
  subst this
  have : y' = y := by simpa using q3.symm
  subst this
  exact ⟨U, V, hY, q2, q4⟩
theorem cls_builtin {b : Builtin} {c : Call} {xs : List X} (hxs : omap trX c.args.toList = some xs) (hc : c.callee = .builtin b) (ho : o.op = .call c) : Cls P o (trB P b c.argTypes.toList xs) := by
  unfold trB
  split
  · rename_i t x ht
    obtain ⟨Y, hY, hx⟩ := args_one hxs
    split
    · rename_i hu; exact r_lens (x_ok hx) hu hc hY ht ho
    · rename_i e hu; exact r_lenl (x_ok hx) hu hc hY ht ho
    · rename_i k e hu; exact r_lenm (x_ok hx) hu hc hY ht ho
    · exact cls_bad
  · exact p_mm (mx := false) (xs_ok hxs) hc ho
  · exact p_mm (mx := true) (xs_ok hxs) hc ho
  · rename_i t u x y ht
    obtain ⟨U, V, hY, hx, hy⟩ := args_two hxs
    have go : ∀ e, P.underlying t = some (.slice e) → ((∃ e', P.underlying u = some (.slice e')) ∨ P.underlying u = some .string) → Cls P o (bad .bad (map3 (fun s b z => if z.length == s then .apn x y s b else .bad) (sizeT P e) (bytesT P e) (zeroT P e))) := by
      intro e hu hk
      refine bad_ok cls_bad fun i hi => ?_
      obtain ⟨s, b, z, h1, h2, h3, rfl⟩ := map3_some hi
      split
      · rename_i hz
        exact a_apn (x_ok hx) (x_ok hy) hu hk h1 h2 h3 (eq_of_beq hz) hc hY ht ho
      · exact cls_bad
    split
    · rename_i e e' hu hu2; exact go e hu (.inl ⟨e', hu2⟩)
    · rename_i e hu hu2; exact go e hu (.inr hu2)
    · rename_i e k hu hu2
      refine bad_ok cls_bad fun i hi => ?_
      obtain ⟨s, b, z, h1, h2, h3, rfl⟩ := map3_some hi
      split
      · rename_i hz
        exact a_apz (x_ok hx) (x_ok hy) hu hu2 h1 h2 h3 (eq_of_beq hz) hc hY ht ho
      · exact cls_bad
    · exact cls_bad
  · rename_i t x ht
    obtain ⟨Y, hY, hx⟩ := args_one hxs
    split
    · rename_i e hu
      refine bad_ok cls_bad fun i hi => ?_
      obtain ⟨z, hz, rfl⟩ := Option.map_eq_some_iff.1 hi
      exact a_clr (x_ok hx) hu hz hc hY ht ho
    · exact cls_bad
  · rename_i t r x y ht
    obtain ⟨U, V, hY, hx, hy⟩ := args_two hxs
    split
    · rename_i e hu
      refine bad_ok cls_bad fun i hi => ?_
      obtain ⟨s, hs, rfl⟩ := Option.map_eq_some_iff.1 hi
      exact a_cpy (x_ok hx) (x_ok hy) hu hs hc hY ⟨r, ht⟩ ho ⟨t, .inl ⟨e, hu⟩⟩
    · exact cls_bad
  · rename_i t r x k ht
    obtain ⟨U, V, hY, hx, hy⟩ := args_two hxs
    split
    · rename_i kt e hu
      split
      · rename_i g ks hf
        exact a_dlt (t2 := t) (x_ok hx) (x_ok hy) hu hf hc hY ⟨r, ht⟩ ho
      · exact cls_bad
    · exact cls_bad
  · exact cls_bad
theorem optX_no {m : Option X} {mx : Option Operand} : (match m with | none => true | some _ => false) = true → optX mx = some m → mx = none := by
  intro hn hm
  cases mx with
  | none => rfl
  | some mx =>
    unfold optX at hm
    simp only at hm
    obtain ⟨b, _, rfl⟩ := Option.map_eq_some_iff.1 hm
    cases hn
theorem optX_no2 {m : Option X} {mx : Option Operand} : (match m with | none => true | some _ => false) = false → optX mx = some m → mx ≠ none := by
  intro hn hm hx
  subst hx
  unfold optX at hm
  simp only [Option.some.injEq] at hm
  subst hm
  cases hn
theorem cls_slice {dr : Bool} {t : TypeId} {x : Operand} {lo qi mx : Option Operand} (hop : o.op = .slice t x lo qi mx) (hmh : qi = none → mx = none) : Cls P o (bad .bad (trSl P dr t x lo qi mx)) := by
    refine bad_ok cls_bad fun i hi => ?_
    unfold trSl at hi
    split at hi
    · rename_i e hu
      split at hi
      · rename_i a s ha hs
        obtain ⟨l, h, m, hl, hh, hm, rfl⟩ := map3_some hi
        cases dr with
        | false => exact a_slc (x_ok ha) (bd_ok hl) (bd_ok hh) (bd_ok hm) (fun hn => optX_no hn hm) (fun hn => optX_no2 hn hm) hmh hu hs hop
        | true => exact r_slr (x_ok ha) (bd_ok hl) (bd_ok hh) (bd_ok hm) (fun hn => optX_no hn hm) (fun hn => optX_no2 hn hm) hmh hu hs hop
      · cases hi
    · rename_i hu
      cases mx with
      | some m => cases hi
      | none =>
        obtain ⟨a, l, h, ha, hl, hh, rfl⟩ := map3_some hi
        exact p_sls (x_ok ha) (bd_ok hl) (bd_ok hh) hu hop
    · rename_i n e hu
      split at hi
      · rename_i a s ha hs
        obtain ⟨l, h, m, hl, hh, hm, rfl⟩ := map3_some hi
        exact p_sla (x_ok ha) (bd_ok hl) (bd_ok hh) (bd_ok hm) hmh hu hs hop
      · cases hi
    · cases hi
theorem cls_ok {dr : Bool} : Cls P o (trI P dr o.op) := by
  cases hop : o.op <;> (try exact cls_bad) <;> unfold trI
  case move x =>
    refine bad_ok cls_bad fun i hi => ?_
    obtain ⟨a, ha, rfl⟩ := Option.map_eq_some_iff.1 hi
    exact p_mv (x_ok ha) (.inl hop)
  case assign x =>
    refine bad_ok cls_bad fun i hi => ?_
    obtain ⟨a, ha, rfl⟩ := Option.map_eq_some_iff.1 hi
    exact p_mv (x_ok ha) (.inr hop)
  case pick c x y =>
    refine bad_ok cls_bad fun i hi => ?_
    obtain ⟨a, b, d, ha, hb, hd, rfl⟩ := map3_some hi
    exact p_pick (x_ok ha) (x_ok hb) (x_ok hd) hop
  case alloc e =>
    refine bad_ok cls_bad fun i hi => ?_
    obtain ⟨z, hz, rfl⟩ := Option.map_eq_some_iff.1 hi
    exact n_al hz hop
  case box e x =>
    refine bad_ok cls_bad fun i hi => ?_
    obtain ⟨a, ha, rfl⟩ := Option.map_eq_some_iff.1 hi
    exact n_bx (x_ok ha) hop
  case build t ps =>
    refine bad_ok cls_bad fun i hi => ?_
    split at hi
    · rename_i fs z hu hz
      split at hi
      · rename_i hs
        obtain ⟨pts, hp, rfl⟩ := Option.map_eq_some_iff.1 hi
        exact p_blds hu hz hs hp hop
      · cases hi
    · rename_i n e z hu hz
      split at hi
      · rename_i hs
        obtain ⟨pts, hp, rfl⟩ := Option.map_eq_some_iff.1 hi
        obtain ⟨s, hs⟩ := Option.isSome_iff_exists.1 hs
        exact p_blda hu hz hs hp hop
      · cases hi
    · cases hi
  case buildSlice t len ps =>
    refine bad_ok cls_bad fun i hi => ?_
    split at hi
    · rename_i e hu
      split at hi
      · rename_i z s hz hs
        split at hi
        · rename_i hc
          simp only [Bool.and_eq_true, beq_iff_eq, decide_eq_true_eq] at hc
          obtain ⟨pts, hp, rfl⟩ := Option.map_eq_some_iff.1 hi
          exact n_bsl hu hz hs hc.1 hc.2 hp hop
        · cases hi
      · cases hi
    · cases hi
  case load t x =>
    refine bad_ok cls_bad fun i hi => ?_
    obtain ⟨a, s, g, ha, hs, hg, rfl⟩ := map3_some hi
    cases g with
    | true => exact r_ld (x_ok ha) hg hs hop
    | false => exact r_ld1 (x_ok ha) hg hop
  case store t x y =>
    refine bad_ok cls_bad fun i hi => ?_
    obtain ⟨a, b, s, ha, hb, hs, rfl⟩ := map3_some hi
    exact a_st (x_ok ha) (x_ok hb) hs hop
  case nilCheck x =>
    refine bad_ok cls_bad fun i hi => ?_
    obtain ⟨a, ha, rfl⟩ := Option.map_eq_some_iff.1 hi
    exact p_nc (x_ok ha) hop
  case binOp op t x y t2 => exact cls_bin hop
  case unOp op t x =>
    refine bad_ok cls_bad fun i hi => ?_
    obtain ⟨a, ha, rfl⟩ := Option.map_eq_some_iff.1 hi
    cases op
    case not => exact p_nt (x_ok ha) hop
    case neg => exact p_ng (x_ok ha) hop
    case xor => exact p_cm (x_ok ha) hop
    case plus => exact cls_bad
  case convert s d x =>
    refine bad_ok cls_bad fun i hi => ?_
    obtain ⟨a, ha, rfl⟩ := Option.map_eq_some_iff.1 hi
    split
    · rename_i k1 k hs hd
      exact p_cvi (k0 := 0) (x_ok ha) hs (by rw [kind_kn]; exact hd) hop
    · rename_i e hs hd
      split
      · rename_i h8
        have he : P.underlying e = some (.int .u8) := by
          unfold isU8 at h8
          split at h8
          · assumption
          · cases h8
        exact r_b2s (x_ok ha) hs he hd hop
      · exact cls_bad
    · rename_i e hs hd
      split
      · rename_i h8
        have he : P.underlying e = some (.int .u8) := by
          unfold isU8 at h8
          split at h8
          · assumption
          · cases h8
        exact a_s2b (x_ok ha) hs hd he hop
      · exact cls_bad
    · rename_i hs hd
      exact p_sid (x_ok ha) hs hd hop
    · rename_i e e2 hs hd
      split
      · rename_i h8
        simp only [Bool.and_eq_true] at h8
        have hsd : s = d := eq_of_beq h8.1
        subst hsd
        have he : P.underlying e = some (.int .u8) := by
          have h8 := h8.2
          unfold isU8 at h8
          split at h8
          · assumption
          · cases h8
        exact a_msh (x_ok ha) hs he hop
      · exact cls_bad
    · rename_i e hs hd
      split
      · exact cls_bad
      · rename_i hn
        have : ∃ n, sizeT P e = some n ∧ n ≠ 0 := by
          cases h : sizeT P e with
          | none => rw [h] at hn; exact absurd rfl hn
          | some n => rw [h] at hn; exact ⟨n, rfl, fun h0 => hn (by rw [h0]; rfl)⟩
        obtain ⟨n, h1, h2⟩ := this
        exact a_uptr (x_ok ha) hs hd h1 h2 hop
    · exact cls_bad
  case sliceToArrayPointer t x =>
    refine bad_ok cls_bad fun i hi => ?_
    split at hi
    · rename_i n e hu
      obtain ⟨a, ha, rfl⟩ := Option.map_eq_some_iff.1 hi
      exact p_s2a (x_ok ha) hu hop
    · cases hi
  case makeInterface t x =>
    refine bad_ok cls_bad fun i hi => ?_
    obtain ⟨a, ha, rfl⟩ := Option.map_eq_some_iff.1 hi
    split
    · exact cls_bad
    · rename_i d hd hu
      exact p_mki (x_ok ha) hu (fun ms h => by subst h; exact hd ms rfl) hop
    · exact cls_bad
  case makeFunc fn first cs =>
    cases fn <;> try exact cls_bad
    rename_i f
    show Cls P o (if first.size == 0 then _ else _)
    split
    · rename_i hf
      have hf : first = #[] := by simpa using hf
      subst hf
      refine bad_ok cls_bad fun i hi => ?_
      obtain ⟨xs, hxs, rfl⟩ := Option.map_eq_some_iff.1 hi
      exact p_mkf (xs_ok hxs) hop
    · exact cls_bad
  case makeMap t r =>
    cases r with
    | none => exact a_mkm hop
    | some r => exact cls_bad
  case makeSlice t x y =>
    refine bad_ok cls_bad fun i hi => ?_
    split at hi
    · rename_i e hu
      split at hi
      · rename_i z s hz hs
        split at hi
        · rename_i hc
          simp only [Bool.and_eq_true, beq_iff_eq, decide_eq_true_eq] at hc
          obtain ⟨a, b, c, ha, hb, hcc, rfl⟩ := map3_some hi
          exact n_mks (x_ok ha) (x_ok hb) hu hz hs hc.1 hc.2 hcc hop
        · cases hi
      · cases hi
    · cases hi
  case slice t x lo qi mx =>
    cases qi with
    | none => cases mx with
      | none => exact cls_slice hop (fun _ => rfl)
      | some m => exact cls_bad
    | some q => cases mx with
      | none => exact cls_slice hop (fun h => nomatch h)
      | some m => exact cls_slice hop (fun h => nomatch h)
  case fieldAddr t x f =>
    refine bad_ok cls_bad fun i hi => ?_
    split at hi
    · rename_i fs hu
      split at hi
      · rename_i fd hf
        split at hi
        · cases hi
        · rename_i hn
          have : ∃ n, sizeT P fd.type = some n ∧ n ≠ 0 := by
            cases h : sizeT P fd.type with
            | none => rw [h] at hn; exact absurd rfl hn
            | some n => rw [h] at hn; exact ⟨n, rfl, fun h0 => hn (by rw [h0]; rfl)⟩
          obtain ⟨n, h1, h2⟩ := this
          obtain ⟨a, ha, rfl⟩ := Option.map_eq_some_iff.1 hi
          exact p_fa (x_ok ha) hu hf h1 h2 rfl hop
      · cases hi
    · cases hi
  case field t x f =>
    refine bad_ok cls_bad fun i hi => ?_
    split at hi
    · rename_i fs hu
      split at hi
      · rename_i fd hf
        obtain ⟨a, s, g, ha, hs, hg, rfl⟩ := map3_some hi
        cases g with
        | true => exact p_fld (x_ok ha) hu hf hs hg rfl hop
        | false => exact p_fl1 (x_ok ha) hu hf hg rfl hop
      · cases hi
    · cases hi
  case indexAddr t x y =>
    refine bad_ok cls_bad fun i hi => ?_
    split at hi
    · rename_i e hu
      obtain ⟨a, b, s, ha, hb, hs, rfl⟩ := map3_some hi
      exact p_ias (x_ok ha) (x_ok hb) hu hs hop
    · rename_i n e hu
      obtain ⟨a, b, s, ha, hb, hs, rfl⟩ := map3_some hi
      exact p_iaa (x_ok ha) (x_ok hb) hu hs hop
    · cases hi
  case index t x y =>
    refine bad_ok cls_bad fun i hi => ?_
    split at hi
    · rename_i hu
      obtain ⟨a, b, ha, hb, rfl⟩ := map2_some hi
      exact p_ixs (x_ok ha) (x_ok hb) hu hop
    · cases hi
  case lookup t x k ok =>
    refine bad_ok cls_bad fun i hi => ?_
    split at hi
    · rename_i kt e hu
      split at hi
      · rename_i g ks hf
        obtain ⟨a, b, z, ha, hb, hz, rfl⟩ := map3_some hi
        exact r_lkp (x_ok ha) (x_ok hb) hu hf hz hop
      · cases hi
    · cases hi
  case mapUpdate t m k v =>
    refine bad_ok cls_bad fun i hi => ?_
    split at hi
    · rename_i kt e hu
      split at hi
      · rename_i g ks hf
        obtain ⟨a, b, c, ha, hb, hc, rfl⟩ := map3_some hi
        exact a_mpu (x_ok ha) (x_ok hb) (x_ok hc) hu hf (.inl hop)
      · cases hi
    · cases hi
  case insert t m k v =>
    refine bad_ok cls_bad fun i hi => ?_
    split at hi
    · rename_i kt e hu
      split at hi
      · rename_i g ks hf
        obtain ⟨a, b, c, ha, hb, hc, rfl⟩ := map3_some hi
        exact a_mpu (x_ok ha) (x_ok hb) (x_ok hc) hu hf (.inr hop)
      · cases hi
    · cases hi
  case mapEntry t m k =>
    refine bad_ok cls_bad fun i hi => ?_
    split at hi
    · rename_i kt e hu
      split at hi
      · rename_i g ks hf
        obtain ⟨a, b, z, ha, hb, hz, rfl⟩ := map3_some hi
        exact a_mpe (x_ok ha) (x_ok hb) hu hf hz hop
      · cases hi
    · cases hi
  case entryStore t m s v =>
    refine bad_ok cls_bad fun i hi => ?_
    obtain ⟨a, b, c, ha, hb, hc, rfl⟩ := map3_some hi
    exact a_ens (x_ok ha) (x_ok hb) (x_ok hc) hop
  case range t x =>
    refine bad_ok cls_bad fun i hi => ?_
    split at hi
    · rename_i kt e hu
      obtain ⟨a, ha, rfl⟩ := Option.map_eq_some_iff.1 hi
      exact a_rng (x_ok ha) hu hop
    · cases hi
  case entry x =>
    refine bad_ok cls_bad fun i hi => ?_
    obtain ⟨a, ha, rfl⟩ := Option.map_eq_some_iff.1 hi
    exact a_ety (x_ok ha) hop
  case next x s =>
    cases s with
    | true => exact cls_bad
    | false =>
      refine bad_ok cls_bad fun i hi => ?_
      obtain ⟨a, ha, rfl⟩ := Option.map_eq_some_iff.1 hi
      exact a_nxt (x_ok ha) hop
  case extract x n =>
    refine bad_ok cls_bad fun i hi => ?_
    obtain ⟨a, ha, rfl⟩ := Option.map_eq_some_iff.1 hi
    exact p_ext (x_ok ha) hop
  case call c =>
    show Cls P o (match c.callee, trXs c.args with
      | .builtin b, some xs => trB P b c.argTypes.toList xs
      | .value (.func f), some xs => (match P.funcs[f]? with | some fn => if fn.body.isNone && (fn.origin == fn.name || fn.origin == "") then trExt fn.name xs else .bad | none => .bad)
      | _, _ => .bad)
    split
    · rename_i b xs hc hxs
      exact cls_builtin hxs hc hop
    · rename_i f xs hc hxs
      split
      · rename_i fn hf
        split
        · rename_i hb
          simp only [Bool.and_eq_true] at hb
          have := ext_ok hxs hop hc hf hb.1 hb.2
          have hcl : ∀ i, (i = trExt fn.name xs) → (clsI i = 3) := by
            rintro i rfl
            unfold trExt
            split <;> (repeat' split) <;> rfl
          unfold Cls
          rw [hcl _ rfl]
          exact this
        · exact cls_bad
      · exact cls_bad
    · exact cls_bad
end
end Go.AM
