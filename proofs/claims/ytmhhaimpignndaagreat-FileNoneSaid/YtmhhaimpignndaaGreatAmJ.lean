/-
  AM, 11: structs and arrays compared; keys found in maps. Conditions: none.
-/
import Derived.Test.YtmhhaimpignndaaGreatAmI
namespace Go.AM
open Go

section
variable {P : Program} {o : Oper} {x y : XF} {X Y : Operand}
/-- all cells of two lists alike -/
theorem eqTs_nil {a b : List AV} {κ : Bool → R} (e : eqTs [] a b κ = true) : a = [] ∧ b = [] := by
  cases a <;> cases b <;> first | exact ⟨rfl, rfl⟩ | cases e
theorem eqTs_cons {c : Nat} {ks : List Nat} {a b : List AV} {κ : Bool → R} (e : eqTs (c :: ks) a b κ = true) : ∃ x r y s, a = x :: r ∧ b = y :: s ∧ eqK c x y (fun q => br q (eqTs ks r s κ) (κ false)) = true := by
  cases a with
  | nil => cases e
  | cons x r => cases b with
    | nil => cases e
    | cons y s => exact ⟨x, r, y, s, rfl, rfl, e⟩
theorem part_cell {t : TypeId} {c : Nat} (hc : flatC P t = some c) {cs : Array Value} {i : Nat} {v : Value} (h : cs[i]? = some v) (w : World) : (part t cs i).run P w = .ok v w := by
  obtain ⟨d, hd, hk⟩ := flatC_some hc
  have ha : (isAgg t).run P w = .ok false w := by
    simp only [isAgg, Sem.run_bind, run_underlying hd, Result.andThen]
    rcases hk with ⟨k, rfl, _⟩ | ⟨rfl, _⟩ | ⟨rfl, _⟩ <;> rfl
  simp only [part, Sem.run_bind, ha, Result.andThen]
  simp [h]
theorem flatFs_some {f : Field} {fs : List Field} {n : Nat} {ks : List Nat} (h : flatFs P (f :: fs) n = some ks) : f.name ≠ "_" ∧ f.offset = n ∧ ∃ c cs, flatC P f.type = some c ∧ flatFs P fs (n + 1) = some cs ∧ ks = c :: cs := by
  unfold flatFs at h
  split at h
  · rename_i hn
    simp only [Bool.and_eq_true] at hn
    split at h
    · rename_i c cs h1 h2
      injection h with h
      exact ⟨by simpa using hn.1, Nat.eq_of_beq_eq_true hn.2, c, cs, h1, h2, h.symm⟩
    · cases h
  · cases h
theorem get_drop {α : Type} {l : List α} {n : Nat} {x : α} {r : List α} (h : l.drop n = x :: r) : l[n]? = some x ∧ l.drop (n + 1) = r := by
  refine ⟨?_, ?_⟩
  · have := List.getElem?_drop (xs := l) (i := n) (j := 0)
    rw [h] at this
    simpa using this.symm
  · rw [← List.tail_drop, h]; rfl
theorem eqs_fields : ∀ {fs : List Field} {n : Nat} {ks : List Nat} {l r : List AV} {κ : Bool → R}, flatFs P fs n = some ks → eqTs ks (l.drop n) (r.drop n) κ = true →
    ∃ c, (∀ κ', eqTs ks (l.drop n) (r.drop n) κ' = κ' c) ∧ (c = true → ∀ θ, Oks θ l → Oks θ r → (l.drop n).length = (r.drop n).length ∧ ∀ m, ((toVs θ (r.drop n)).zip (toVs θ (l.drop n))).all (fun q => Instr.sameBits m q.1 q.2) = true) ∧
      ∀ θ, Oks θ l → Oks θ r → ∀ d w, (Op.eqFields (d + 1) (toVs θ l).toArray (toVs θ r).toArray fs).run P w = .ok c w
  | [], n, ks, l, r, κ, h, e => by
    cases h
    obtain ⟨h1, h2⟩ := eqTs_nil e
    refine ⟨true, fun κ' => by rw [h1, h2]; rfl, fun _ θ _ _ => ⟨by rw [h1, h2], fun m => by rw [h1, h2]; rfl⟩, fun θ _ _ d w => rfl⟩
  | f :: fs, n, ks, l, r, κ, h, e => by
    obtain ⟨hn, hoff, c, cs, hc, hcs, rfl⟩ := flatFs_some h
    obtain ⟨x, l', y, r', hx, hy, e1⟩ := eqTs_cons e
    obtain ⟨q, k1, _, _, k2⟩ := cell_eq hc e1
    obtain ⟨hx1, hx2⟩ := get_drop hx
    obtain ⟨hy1, hy2⟩ := get_drop hy
    have step : ∀ κ', eqTs (c :: cs) (l.drop n) (r.drop n) κ' = eqK c x y (fun q => br q (eqTs cs l' r' κ') (κ' false)) := fun κ' => by rw [hx, hy]; rfl
    have fx : ∀ θ, Oks θ l → VR θ x (toV θ x) := fun θ h => ⟨Oks_iff.1 h x (List.mem_of_getElem? hx1), rfl⟩
    have fy : ∀ θ, Oks θ r → VR θ y (toV θ y) := fun θ h => ⟨Oks_iff.1 h y (List.mem_of_getElem? hy1), rfl⟩
    have run : ∀ θ, Oks θ l → Oks θ r → ∀ d w, (Op.eqFields (d + 1) (toVs θ l).toArray (toVs θ r).toArray (f :: fs)).run P w =
        if q then (Op.eqFields (d + 1) (toVs θ l).toArray (toVs θ r).toArray fs).run P w else .ok false w := by
      intro θ h1 h2 d w
      have hp1 := part_cell hc (cs := (toVs θ l).toArray) (i := n) (v := toV θ x) (by simp [toVs_get, hx1]) w
      have hp2 := part_cell hc (cs := (toVs θ r).toArray) (i := n) (v := toV θ y) (by simp [toVs_get, hy1]) w
      have heq := (k2 θ _ _ (fx θ h1) (fy θ h2)).1 d w
      rw [Op.eqFields]
      rw [if_pos hn, hoff]
      simp only [Sem.run_bind, hp1, hp2, heq, Result.andThen]
      cases q <;> simp
    cases q with
    | false =>
      refine ⟨false, fun κ' => by rw [step, k1]; rfl, (fun h => nomatch h), fun θ h1 h2 d w => by rw [run θ h1 h2]; rfl⟩
    | true =>
      rw [k1] at e1
      have e2 : eqTs cs (l.drop (n + 1)) (r.drop (n + 1)) κ = true := by rw [hx2, hy2]; exact e1
      obtain ⟨c2, j1, j2, j3⟩ := eqs_fields hcs e2
      refine ⟨c2, fun κ' => ?_, fun hc2 θ h1 h2 => ?_, fun θ h1 h2 d w => ?_⟩
      · rw [step, k1]
        show eqTs cs l' r' κ' = _
        rw [← hx2, ← hy2]; exact j1 κ'
      · obtain ⟨i1, i2⟩ := j2 hc2 θ h1 h2
        rw [hx, hy, ← hx2, ← hy2]
        refine ⟨by simp only [List.length_cons, i1], fun m => ?_⟩
        simp only [toVs, List.zip_cons_cons, List.all_cons, i2 m, Bool.and_true]
        exact (k2 θ _ _ (fx θ h1) (fy θ h2)).2.1 rfl m
      · rw [run θ h1 h2]
        exact j3 θ h1 h2 d w
/-- the cells of two arrays -/
def eqArr (P : Program) (d : Nat) (t : TypeId) (xs ys : Array Value) : Nat → Nat → Sem Bool
  | 0, _ => pure true
  | n + 1, i => do
    let a ← part t xs i
    let b ← part t ys i
    let r ← Op.equalIn d t a b
    if (!r) = true then pure false else eqArr P d t xs ys n (i + 1)
theorem run_equalIn_arr {t el : TypeId} {len : Nat} (hu : P.underlying t = some (.array len el)) (hs : sizeT P el = some 1) (d : Nat) (xs ys : Array Value) (w : World) :
    (Op.equalIn (d + 1) t (.agg xs) (.agg ys)).run P w = (eqArr P d el xs ys len 0).run P w := by
  simp only [Op.equalIn, Sem.run_bind, run_underlying hu, Result.andThen_ok, run_size hs, Nat.mul_one, Std.Legacy.Range.forIn_eq_forIn_range', Std.Legacy.Range.size, Nat.sub_zero, Nat.add_one_sub_one, Nat.div_one]
  have key : ∀ (n i : Nat) (w : World), ((forIn (m := Sem) (List.range' i n) ((none, ()) : Option Bool × Unit) fun i _ => do
        let a ← part el xs i
        let b ← part el ys i
        let r ← Op.equalIn d el a b
        if (!r) = true then pure (ForInStep.done (some false, ())) else pure (ForInStep.yield (none, ()))).run P w).andThen (fun a w' => (match a.fst with | some b => (pure b : Sem Bool) | none => pure true).run P w') = (eqArr P d el xs ys n i).run P w := by
    intro n
    induction n with
    | zero => intro i w; simp [eqArr]
    | succ n ih =>
      intro i w
      rw [List.range'_succ, List.forIn_cons, eqArr]
      simp only [Sem.run_bind]
      generalize (part el xs i).run P w = r1
      cases r1 with
      | ok a w1 =>
        simp only [Result.andThen_ok]
        generalize (part el ys i).run P w1 = r2
        cases r2 with
        | ok b w2 =>
          simp only [Result.andThen_ok]
          generalize (Op.equalIn d el a b).run P w2 = r3
          cases r3 with
          | ok r w3 =>
            cases r
            · simp
            · simp only [Result.andThen_ok, Bool.not_true, Bool.false_eq_true, if_false, Sem.run_pure]
              exact ih (i + 1) w3
          | halt x w3 => simp [Result.andThen]
        | halt x w2 => simp [Result.andThen]
      | halt x w1 => simp [Result.andThen]
  refine Eq.trans (congrArg (Result.andThen _) (funext fun a => funext fun w' => ?_)) (key len 0 w)
  obtain ⟨a, b⟩ := a
  cases a <;> rfl
theorem eqs_arr {el : TypeId} {c : Nat} (hc : flatC P el = some c) : ∀ {k n : Nat} {l r : List AV} {κ : Bool → R}, eqTs (List.replicate k c) (l.drop n) (r.drop n) κ = true →
    ∃ b, (∀ κ', eqTs (List.replicate k c) (l.drop n) (r.drop n) κ' = κ' b) ∧ (b = true → ∀ θ, Oks θ l → Oks θ r → (l.drop n).length = (r.drop n).length ∧ ∀ m, ((toVs θ (r.drop n)).zip (toVs θ (l.drop n))).all (fun q => Instr.sameBits m q.1 q.2) = true) ∧
      ∀ θ, Oks θ l → Oks θ r → ∀ d w, (eqArr P (d + 1) el (toVs θ l).toArray (toVs θ r).toArray k n).run P w = .ok b w
  | 0, n, l, r, κ, e => by
    obtain ⟨h1, h2⟩ := eqTs_nil e
    refine ⟨true, fun κ' => by rw [h1, h2]; rfl, fun _ θ _ _ => ⟨by rw [h1, h2], fun m => by rw [h1, h2]; rfl⟩, fun θ _ _ d w => rfl⟩
  | k + 1, n, l, r, κ, e => by
    rw [List.replicate_succ] at e ⊢
    obtain ⟨x, l', y, r', hx, hy, e1⟩ := eqTs_cons e
    obtain ⟨q, k1, _, _, k2⟩ := cell_eq hc e1
    obtain ⟨hx1, hx2⟩ := get_drop hx
    obtain ⟨hy1, hy2⟩ := get_drop hy
    have step : ∀ κ', eqTs (c :: List.replicate k c) (l.drop n) (r.drop n) κ' = eqK c x y (fun q => br q (eqTs (List.replicate k c) l' r' κ') (κ' false)) := fun κ' => by rw [hx, hy]; rfl
    have fx : ∀ θ, Oks θ l → VR θ x (toV θ x) := fun θ h => ⟨Oks_iff.1 h x (List.mem_of_getElem? hx1), rfl⟩
    have fy : ∀ θ, Oks θ r → VR θ y (toV θ y) := fun θ h => ⟨Oks_iff.1 h y (List.mem_of_getElem? hy1), rfl⟩
    have run : ∀ θ, Oks θ l → Oks θ r → ∀ d w, (eqArr P (d + 1) el (toVs θ l).toArray (toVs θ r).toArray (k + 1) n).run P w =
        if q then (eqArr P (d + 1) el (toVs θ l).toArray (toVs θ r).toArray k (n + 1)).run P w else .ok false w := by
      intro θ h1 h2 d w
      have hp1 := part_cell hc (cs := (toVs θ l).toArray) (i := n) (v := toV θ x) (by simp [toVs_get, hx1]) w
      have hp2 := part_cell hc (cs := (toVs θ r).toArray) (i := n) (v := toV θ y) (by simp [toVs_get, hy1]) w
      have heq := (k2 θ _ _ (fx θ h1) (fy θ h2)).1 d w
      rw [eqArr]
      simp only [Sem.run_bind, hp1, hp2, heq, Result.andThen]
      cases q <;> simp
    cases q with
    | false =>
      refine ⟨false, fun κ' => by rw [step, k1]; rfl, (fun h => nomatch h), fun θ h1 h2 d w => by rw [run θ h1 h2]; rfl⟩
    | true =>
      rw [k1] at e1
      have e2 : eqTs (List.replicate k c) (l.drop (n + 1)) (r.drop (n + 1)) κ = true := by rw [hx2, hy2]; exact e1
      obtain ⟨c2, j1, j2, j3⟩ := eqs_arr hc e2
      refine ⟨c2, fun κ' => ?_, fun hc2 θ h1 h2 => ?_, fun θ h1 h2 d w => ?_⟩
      · rw [step, k1]
        show eqTs (List.replicate k c) l' r' κ' = _
        rw [← hx2, ← hy2]; exact j1 κ'
      · obtain ⟨i1, i2⟩ := j2 hc2 θ h1 h2
        rw [hx, hy, ← hx2, ← hy2]
        refine ⟨by simp only [List.length_cons, i1], fun m => ?_⟩
        simp only [toVs, List.zip_cons_cons, List.all_cons, i2 m, Bool.and_true]
        exact (k2 θ _ _ (fx θ h1) (fy θ h2)).2.1 rfl m
      · rw [run θ h1 h2]
        exact j3 θ h1 h2 d w
/-- a key that is checked -/
theorem check_fields : ∀ {fs : List Field} {n : Nat} {ks : List Nat} {l : List AV}, flatFs P fs n = some ks → n + ks.length ≤ l.length → (∀ v ∈ l, one v = true) → ∀ θ, Oks θ l → ∀ (em : Bool) (d : Nat) (w : World),
    ((forIn (m := Sem) fs PUnit.unit fun f r => if f.name ≠ "_" then do Instr.checkKey em (d + 1) f.type (← part f.type (toVs θ l).toArray f.offset); pure (ForInStep.yield PUnit.unit) else do pure PUnit.unit; pure (ForInStep.yield PUnit.unit))).run P w = .ok PUnit.unit w := by
  intro fs
  induction fs with
  | nil => intro n ks l h hl h1 θ ho em d w; rfl
  | cons f fs ih =>
    intro n ks l h hl h1 θ ho em d w
    obtain ⟨hn, hoff, c, cs, hc, hcs, rfl⟩ := flatFs_some h
    simp only [List.length_cons] at hl
    have hx : l[n]? = some (l[n]'(by omega)) := List.getElem?_eq_getElem (by omega)
    have hp1 := part_cell hc (cs := (toVs θ l).toArray) (i := n) (v := toV θ (l[n]'(by omega))) (by simp [toVs_get, hx]) w
    obtain ⟨dd, hd, hk⟩ := flatC_some hc
    have hck : ∀ v, (Instr.checkKey em (d + 1) f.type v).run P w = .ok () w := fun v => by
      rcases hk with ⟨k, rfl, _⟩ | ⟨rfl, _⟩ | ⟨rfl, _⟩ <;> simp [Instr.checkKey, run_underlying hd]
    rw [List.forIn_cons, if_pos hn, hoff]
    simp only [Sem.run_bind, hp1, Result.andThen, hck, Sem.run_pure]
    exact ih hcs (by omega) h1 θ ho em d w
theorem eqTs_len : ∀ {ks : List Nat} {a b : List AV} {κ : R}, eqTs ks a b (fun c => br c κ false) = true → a.length = ks.length ∧ κ = true
  | [], a, b, κ, e => by
    obtain ⟨h1, h2⟩ := eqTs_nil e
    subst h1 h2
    exact ⟨rfl, e⟩
  | c :: ks, a, b, κ, e => by
    obtain ⟨x, r, y, s, rfl, rfl, e1⟩ := eqTs_cons e
    obtain ⟨q, k1, _⟩ := eqK_true e1
    rw [k1] at e1
    cases q with
    | false => cases e1
    | true =>
      obtain ⟨h1, h2⟩ := eqTs_len (show eqTs ks r s _ = true from e1)
      exact ⟨by simp [h1], h2⟩
theorem eqTs_refl_go : ∀ {ks : List Nat} {a : List AV} {κ : R}, eqTs ks a a (fun c => br c κ false) = true → ∀ κ', eqTs ks a a (fun c => br c κ' false) = κ'
  | [], a, κ, e, κ' => by rw [(eqTs_nil e).1]; rfl
  | c :: ks, a, κ, e, κ' => by
    obtain ⟨x, r, y, s, h1, h2, e1⟩ := eqTs_cons e
    rw [h1] at h2
    injection h2 with h2 h3
    subst h2 h3
    obtain ⟨q, k1, _⟩ := eqK_true e1
    rw [k1] at e1
    cases q with
    | false => cases e1
    | true =>
      have := eqTs_refl_go (show eqTs ks r r _ = true from e1) κ'
      rw [h1]
      show eqK c x x _ = _
      rw [k1]; exact this
/-- a test of values of a type -/
theorem flatT_some {t : TypeId} {g : Bool} {ks : List Nat} (h : flatT P t = some (g, ks)) :
    (g = false ∧ ∃ c, ks = [c] ∧ flatC P t = some c) ∨
    (g = true ∧ P.eqGuardType P.depth t = false ∧ ((∃ fs, P.underlying t = some (.struct fs) ∧ P.stoodInHeld t = false ∧ flatFs P fs.toList 0 = some ks) ∨
      (∃ n el c, P.underlying t = some (.array n el) ∧ sizeT P el = some 1 ∧ flatC P el = some c ∧ ks = List.replicate n c))) := by
  unfold flatT at h
  split at h
  · rename_i fs hu
    by_cases h1 : P.stoodInHeld t = true
    · rw [if_pos h1] at h; cases h
    rw [if_neg h1] at h
    by_cases h2 : P.eqGuardType P.depth t = true
    · rw [if_pos h2] at h; cases h
    rw [if_neg h2] at h
    obtain ⟨ks', k1, k2⟩ := Option.map_eq_some_iff.1 h
    injection k2 with k2 k3
    subst k2 k3
    exact .inr ⟨rfl, by simpa using h2, .inl ⟨fs, hu, by simpa using h1, k1⟩⟩
  · rename_i n el hu
    by_cases h2 : P.eqGuardType P.depth t = true
    · rw [if_pos h2] at h; cases h
    rw [if_neg h2] at h
    by_cases h3 : sizeT P el = some 1
    · rw [if_pos h3] at h
      obtain ⟨c, k1, k2⟩ := Option.map_eq_some_iff.1 h
      injection k2 with k2 k3
      subst k2 k3
      exact .inr ⟨rfl, by simpa using h2, .inr ⟨n, el, c, hu, h3, k1, rfl⟩⟩
    · rw [if_neg h3] at h; cases h
  · obtain ⟨c, h1, h2⟩ := Option.map_eq_some_iff.1 h
    injection h2 with h2 h3
    subst h2 h3
    exact .inl ⟨rfl, c, rfl, h1⟩
theorem laDif_true : ∀ {ks : List Nat} {a b : List AV} {κ : Nat → R}, laDif ks a b κ = true → ∃ D, (∀ κ', laDif ks a b κ' = κ' D) ∧ κ D = true ∧ ∀ θ, Oks θ a → Oks θ b → Lim (2 ^ 64) D ∧
    ∃ a' b', toVs θ a' = toVs θ a ∧ toVs θ b' = toVs θ b ∧ Oks θ a' ∧ Oks θ b' ∧ ∀ κ'' : Bool → R, eqTs ks a' b' κ'' = κ'' (ln θ.lane D == 0)
  | [], [], [], κ, e => ⟨0, fun _ => rfl, e, fun θ _ _ => ⟨lim_nought, [], [], rfl, rfl, trivial, trivial, fun κ'' => by rw [ln_nought]; rfl⟩⟩
  | [], _ :: _, _, κ, e => by cases e
  | [], [], _ :: _, κ, e => by cases e
  | c :: ks, a, b, κ, e => by
    have e : br (Nat.blt c 8) (@List.rec AV (fun _ => R) false (fun x r _ => @List.rec AV (fun _ => R) false (fun y s _ => lnK c x fun A => lnK c y fun B => laDif ks r s fun D => fnat (Nat.lor D (Nat.xor A B)) κ) b) a) false = true := e
    obtain ⟨hc, e⟩ := br_t e
    cases a with
    | nil => cases e
    | cons x r =>
      cases b with
      | nil => cases e
      | cons y s =>
        have step : ∀ κ', laDif (c :: ks) (x :: r) (y :: s) κ' = br (Nat.blt c 8) (lnK c x fun A => lnK c y fun B => laDif ks r s fun D => fnat (Nat.lor D (Nat.xor A B)) κ') false := fun _ => rfl
        have e : lnK c x (fun A => lnK c y fun B => laDif ks r s fun D => fnat (Nat.lor D (Nat.xor A B)) κ) = true := e
        obtain ⟨A, a1, e, _, _, a4⟩ := lnK_true e
        obtain ⟨B, b1, e, _, _, b4⟩ := lnK_true e
        obtain ⟨D, d1, e, d3⟩ := laDif_true e
        rw [fnat_eq, lor_is, xor_is] at e
        refine ⟨D ||| (A ^^^ B), fun κ' => by rw [step, hc, br_tt, a1, b1, d1, fnat_eq, lor_is, xor_is], e, fun θ ha hb => ?_⟩
        obtain ⟨la, ua⟩ := a4 θ _ ⟨ha.1, rfl⟩
        obtain ⟨lb, ub⟩ := b4 θ _ ⟨hb.1, rfl⟩
        obtain ⟨lD, a', b', q1, q2, q3, q4, q5⟩ := d3 θ ha.2 hb.2
        have lx := lim_xor (b := 64) la.all64 lb.all64
        refine ⟨fun i hi => by rw [ln_or]; exact Nat.or_lt_two_pow (lD i hi) (lx i hi), .i c (ln θ.lane A : Nat) :: a', .i c (ln θ.lane B : Nat) :: b', ?_, ?_, ⟨trivial, q3⟩, ⟨trivial, q4⟩, fun κ'' => ?_⟩
        · simp only [toVs, q1, toV, ua]
        · simp only [toVs, q2, toV, ub]
        · have st : eqTs (c :: ks) (.i c (ln θ.lane A : Nat) :: a') (.i c (ln θ.lane B : Nat) :: b') κ'' = br (Nat.blt c 8) (asK c (fun m => asK c (fun n => cmEq m n fun q => br q (eqTs ks a' b' κ'') (κ'' false)) (.i c (ln θ.lane B : Nat))) (.i c (ln θ.lane A : Nat)))
              (br (Nat.beq c 8) (asSQ (.i c (ln θ.lane A : Nat)) (.i c (ln θ.lane B : Nat)) fun q => br q (eqTs ks a' b' κ'') (κ'' false)) (asB (fun m => asB (fun n => (fun q => br q (eqTs ks a' b' κ'') (κ'' false)) (eqB m n)) (.i c (ln θ.lane B : Nat))) (.i c (ln θ.lane A : Nat)))) := rfl
          rw [st, hc, br_tt, asK_i, asK_i, cmEq_eq, q5, ln_or, ln_xor]
          by_cases hab : ln θ.lane A = ln θ.lane B
          · rw [hab, Nat.xor_self, Nat.or_zero, show ((((ln θ.lane B : Nat) : Int)) == ((ln θ.lane B : Nat) : Int)) = true by simp, br_tt]
          · have h1 : ((((ln θ.lane A : Nat) : Int)) == ((ln θ.lane B : Nat) : Int)) = false := by
              have : ¬ ((ln θ.lane A : Nat) : Int) = ((ln θ.lane B : Nat) : Int) := by omega
              exact beq_false_of_ne this
            have h2 : ((ln θ.lane D ||| (ln θ.lane A ^^^ ln θ.lane B)) == 0) = false := by
              refine beq_false_of_ne fun h0 => hab ?_
              have h3 : ln θ.lane A ^^^ ln θ.lane B = 0 := by
                have := @Nat.right_le_or (ln θ.lane D) (ln θ.lane A ^^^ ln θ.lane B)
                omega
              have h4 : (ln θ.lane A ^^^ ln θ.lane B) ^^^ ln θ.lane B = 0 ^^^ ln θ.lane B := by rw [h3]
              rwa [Nat.xor_assoc, Nat.xor_self, Nat.xor_zero, Nat.zero_xor] at h4
            rw [h1, h2, br_ff]
theorem laQ_true {ks : List Nat} {a b : List AV} {κ : Bool → R} (e : laQ ks a b κ = true) : ∃ c, (∀ κ', laQ ks a b κ' = κ' c) ∧ ∀ θ, Oks θ a → Oks θ b →
    ∃ a' b', toVs θ a' = toVs θ a ∧ toVs θ b' = toVs θ b ∧ Oks θ a' ∧ Oks θ b' ∧ ∀ κ'' : Bool → R, eqTs ks a' b' κ'' = κ'' c := by
  unfold laQ at e
  obtain ⟨D, d1, e, d3⟩ := laDif_true e
  rcases br_true e with ⟨h1, e1⟩ | ⟨h1, e1⟩
  · refine ⟨true, fun κ' => by unfold laQ; rw [d1, h1, br_tt], fun θ ha hb => ?_⟩
    obtain ⟨_, a', b', q1, q2, q3, q4, q5⟩ := d3 θ ha hb
    refine ⟨a', b', q1, q2, q3, q4, fun κ'' => ?_⟩
    have h0 := Nat.eq_of_beq_eq_true h1
    rw [q5, h0, ln_nought]; rfl
  · obtain ⟨h2, e2⟩ := br_t e1
    refine ⟨false, fun κ' => by unfold laQ; rw [d1, h1, br_ff, h2, br_tt], fun θ ha hb => ?_⟩
    obtain ⟨lD, a', b', q1, q2, q3, q4, q5⟩ := d3 θ ha hb
    refine ⟨a', b', q1, q2, q3, q4, fun κ'' => ?_⟩
    have hl := ln_ltm θ.lane_lt lim_nought lD
    rw [@Nat.eq_of_beq_eq_true (ltm 0 D) LO h2, ln_ones θ.lane_lt, ln_nought] at hl
    have : ¬ ln θ.lane D = 0 := by
      intro h0
      rw [h0] at hl
      simp at hl
    rw [q5, beq_false_of_ne this]
theorem eqT_ok {t : TypeId} {g : Bool} {ks : List Nat} (h : flatT P t = some (g, ks)) {x y : AV} {κ : Bool → R} (e : eqT g ks x y κ = true) :
    ∃ c, (∀ κ', eqT g ks x y κ' = κ' c) ∧ ∀ θ u v, VR θ x u → VR θ y v → (∀ w, (Op.equal t u v).run P w = .ok c w) ∧ (c = true → Instr.sameBits 10000 v u = true) ∧
      (∀ op X Y w, (eqGuard op t X Y u v).run P w = .ok () w) ∧ ∀ d, P.underlying t = some d → Instr.sameNow d u v = (if g then none else some c) := by
  rcases flatT_some h with ⟨rfl, c, rfl, hc⟩ | ⟨rfl, hguard, hrest⟩
  · obtain ⟨r, k1, _, _, k2⟩ := cell_eq hc (show eqK c x y κ = true from e)
    refine ⟨r, k1, fun θ u v hu hv => ?_⟩
    obtain ⟨j1, j2, j3, j4, j5⟩ := k2 θ u v hu hv
    exact ⟨fun w => j1 9999 w, fun hr => j2 hr _, j5, fun d hd => j3 d hd⟩
  · obtain ⟨a, rfl, e1⟩ := asAg_true (show asAg (fun a => asAg (fun b => br (or' (anyL a) (anyL b)) (laQ ks a b κ) (eqTs ks a b κ)) y) x = true from e)
    obtain ⟨b, rfl, e2⟩ := asAg_true e1
    have fin : ∀ c, (∀ κ', eqT true ks (.ag a) (.ag b) κ' = κ' c) → (c = true → ∀ θ, Oks θ a → Oks θ b → a.length = b.length ∧ ∀ m, ((toVs θ b).zip (toVs θ a)).all (fun q => Instr.sameBits m q.1 q.2) = true) →
        (∀ θ, Oks θ a → Oks θ b → ∀ w, (Op.equal t (.agg (toVs θ a).toArray) (.agg (toVs θ b).toArray)).run P w = .ok c w) →
        (∀ d u v, P.underlying t = some d → Instr.sameNow d (.agg u) (.agg v) = none) →
        ∃ c, (∀ κ', eqT true ks (.ag a) (.ag b) κ' = κ' c) ∧ ∀ θ u v, VR θ (.ag a) u → VR θ (.ag b) v → (∀ w, (Op.equal t u v).run P w = .ok c w) ∧ (c = true → Instr.sameBits 10000 v u = true) ∧
          (∀ op X Y w, (eqGuard op t X Y u v).run P w = .ok () w) ∧ ∀ d, P.underlying t = some d → Instr.sameNow d u v = (if true then none else some c) := by
      intro c h1 h2 h3 h4
      refine ⟨c, h1, fun θ u v hu hv => ?_⟩
      obtain ⟨hu, ha, _⟩ := hu.ag
      obtain ⟨hv, hb, _⟩ := hv.ag
      subst hu hv
      refine ⟨h3 θ ha hb, fun hc => ?_, fun op X Y w => run_eqGuard_agg w op t X Y _ _ hguard, fun d hd => h4 d _ _ hd⟩
      obtain ⟨q1, q2⟩ := h2 hc θ ha hb
      show (_ == _ && _) = true
      simp only [List.size_toArray, toVs_length, q1, BEq.rfl, Bool.true_and]
      exact q2 9999
    -- what a comparison of cells tells of one of structs, of arrays
    have tell : ∀ (a b : List AV) (κ : Bool → R), eqTs ks a b κ = true → ∃ c, (∀ κ', eqTs ks a b κ' = κ' c) ∧ (c = true → ∀ θ, Oks θ a → Oks θ b → a.length = b.length ∧ ∀ m, ((toVs θ b).zip (toVs θ a)).all (fun q => Instr.sameBits m q.1 q.2) = true) ∧
        (∀ θ, Oks θ a → Oks θ b → ∀ w, (Op.equal t (.agg (toVs θ a).toArray) (.agg (toVs θ b).toArray)).run P w = .ok c w) := by
      intro a b κ e2
      rcases hrest with ⟨fs, hu, hst, hks⟩ | ⟨n, el, c, hu, hs, hc, rfl⟩
      · have e3 : eqTs ks (a.drop 0) (b.drop 0) κ = true := e2
        obtain ⟨c, k1, k2, k3⟩ := eqs_fields hks e3
        refine ⟨c, k1, k2, fun θ ha hb w => ?_⟩
        have hf : P.fieldsOf t = fs := by unfold Program.fieldsOf; rw [hu]
        have := run_equalIn_struct (P := P) w 9999 t (toVs θ a).toArray (toVs θ b).toArray (by rw [hf]; exact hu) hst
        rw [hf, k3 θ ha hb 9998 w] at this
        exact this
      · have e3 : eqTs (List.replicate n c) (a.drop 0) (b.drop 0) κ = true := e2
        obtain ⟨r, k1, k2, k3⟩ := eqs_arr hc e3
        refine ⟨r, k1, k2, fun θ ha hb w => ?_⟩
        have := run_equalIn_arr hu hs 9999 (toVs θ a).toArray (toVs θ b).toArray w
        rw [k3 θ ha hb 9998 w] at this
        exact this
    have now : ∀ (d : TypeDesc) (u v : Array Value), P.underlying t = some d → Instr.sameNow d (.agg u) (.agg v) = none := by
      intro d u v hd
      rcases hrest with ⟨fs, hu, _, _⟩ | ⟨n, el, c, hu, _, _, _⟩ <;> (rw [hu] at hd; injection hd with hd; subst hd; rfl)
    have hdef : ∀ κ' : Bool → R, eqT true ks (.ag a) (.ag b) κ' = br (or' (anyL a) (anyL b)) (laQ ks a b κ') (eqTs ks a b κ') := fun _ => rfl
    rcases br_true e2 with ⟨hl, e3⟩ | ⟨hl, e3⟩
    · obtain ⟨c, c1, c2⟩ := laQ_true e3
      refine fin c (fun κ' => by rw [hdef, hl, br_tt, c1]) (fun hc θ ha hb => ?_) (fun θ ha hb w => ?_) now
      · obtain ⟨a', b', q1, q2, q3, q4, q5⟩ := c2 θ ha hb
        obtain ⟨r, r1, r2, _⟩ := tell a' b' (fun _ => true) (q5 _)
        have hrc : r = c := by
          have h1 := r1 (fun q => q)
          have h2 := q5 (fun q => q)
          exact h1.symm.trans h2
        obtain ⟨l1, l2⟩ := r2 (hrc.trans hc) θ q3 q4
        have la := congrArg List.length q1
        have lb := congrArg List.length q2
        simp only [toVs_length] at la lb
        exact ⟨by omega, fun m => by rw [← q1, ← q2]; exact l2 m⟩
      · obtain ⟨a', b', q1, q2, q3, q4, q5⟩ := c2 θ ha hb
        obtain ⟨r, r1, _, r3⟩ := tell a' b' (fun _ => true) (q5 _)
        have hrc : r = c := by
          have h1 := r1 (fun q => q)
          have h2 := q5 (fun q => q)
          exact h1.symm.trans h2
        rw [← q1, ← q2, ← hrc]
        exact r3 θ q3 q4 w
    · obtain ⟨c, k1, k2, k3⟩ := tell a b κ e3
      exact fin c (fun κ' => by rw [hdef, hl, br_ff, k1]) k2 k3 now
theorem kyT_ok {t : TypeId} {g : Bool} {ks : List Nat} (h : flatT P t = some (g, ks)) {x : AV} {κ : R} (e : kyT g ks x κ = true) :
    κ = true ∧ (∀ κ', kyT g ks x κ' = κ') ∧ ∀ θ u, VR θ x u → ∀ em w, (Instr.checkKey em 10000 t u).run P w = .ok () w := by
  rcases flatT_some h with ⟨rfl, c, rfl, hc⟩ | ⟨rfl, hguard, hrest⟩
  · refine ⟨e, fun _ => rfl, fun θ u hu em w => ?_⟩
    obtain ⟨dd, hd, hk⟩ := flatC_some hc
    have key : ∀ n : Nat, (Instr.checkKey em (n + 1) t u).run P w = .ok () w := fun n => by
      rcases hk with ⟨k, rfl, _⟩ | ⟨rfl, _⟩ | ⟨rfl, _⟩ <;> simp [Instr.checkKey, run_underlying hd]
    exact key 9999
  · obtain ⟨a, rfl, e1⟩ := asAg_true (show asAg (fun a => eqTs ks a a fun c => br c κ false) x = true from e)
    obtain ⟨hl, hκ⟩ := eqTs_len e1
    refine ⟨hκ, fun κ' => eqTs_refl_go e1 κ', fun θ u hu em w => ?_⟩
    obtain ⟨hu, ho, h1⟩ := hu.ag
    subst hu
    have h1 : ∀ v ∈ a, one v = true := fun v hv => List.all_eq_true.1 h1 v hv
    rcases hrest with ⟨fs, hu, hst, hks⟩ | ⟨n, el, c, hu, hs, hc, rfl⟩
    · have := check_fields (l := a) hks (by omega) h1 θ ho em 9998 w
      show (Instr.checkKey em (9999 + 1) t _).run P w = _
      rw [Instr.checkKey]
      simp only [Sem.run_bind, run_underlying hu, Result.andThen_ok]
      rw [← Array.forIn_toList]
      rw [this]
      rfl
    · show (Instr.checkKey em (9999 + 1) t _).run P w = _
      rw [Instr.checkKey]
      simp only [Sem.run_bind, run_underlying hu, Result.andThen_ok, run_size hs, Nat.mul_one, Std.Legacy.Range.forIn_eq_forIn_range', Std.Legacy.Range.size, Nat.sub_zero, Nat.add_one_sub_one, Nat.div_one]
      rw [List.length_replicate] at hl
      obtain ⟨dd, hd, hk⟩ := flatC_some hc
      have hck : ∀ (v : Value) (w : World), (Instr.checkKey em 9999 el v).run P w = .ok () w := fun v w => by
        have key : ∀ n : Nat, (Instr.checkKey em (n + 1) el v).run P w = .ok () w := fun n => by
          rcases hk with ⟨k, rfl, _⟩ | ⟨rfl, _⟩ | ⟨rfl, _⟩ <;> simp [Instr.checkKey, run_underlying hd]
        exact key 9998
      have key : ∀ (m i : Nat), i + m = n → (forIn (m := Sem) (List.range' i m) PUnit.unit fun i _ => do Instr.checkKey em 9999 el (← part el (toVs θ a).toArray (i * (← sizeOf el))); pure (ForInStep.yield PUnit.unit)).run P w = .ok PUnit.unit w := by
        intro m
        induction m with
        | zero => intro i _; rfl
        | succ m ih =>
          intro i hi
          have hx : a[i]? = some (a[i]'(by omega)) := List.getElem?_eq_getElem (by omega)
          have hp := part_cell hc (cs := (toVs θ a).toArray) (i := i) (v := toV θ (a[i]'(by omega))) (by simp [toVs_get, hx]) w
          rw [List.range'_succ, List.forIn_cons]
          simp only [Sem.run_bind, run_size hs, Nat.mul_one, hp, Result.andThen, hck, Sem.run_pure]
          exact ih (i + 1) (by omega)
      have := key n 0 (by omega)
      rw [this]
      rfl
end
end Go.AM
