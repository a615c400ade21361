/-
  AM, 10: parts laid together, the least and the greatest, values compared. Conditions: none.
-/
import Derived.Test.YtniakcilpolneaaGreatDoorAmH
namespace Go.AM
open Go

theorem fold_set (vs : List Value) : ∀ (off i : Nat) (cells : Array Value), off + i + vs.length ≤ cells.size →
    ((vs.zipIdx i).foldl (fun cs x => cs.setIfInBounds (off + x.2) x.1) cells).toList = cells.toList.take (off + i) ++ vs ++ cells.toList.drop (off + i + vs.length) := by
  induction vs with
  | nil => intro off i cells _; simp
  | cons v r ih =>
    intro off i cells h
    simp only [List.length_cons] at h
    rw [List.zipIdx_cons, List.foldl_cons, ih off (i + 1) _ (by simp; omega)]
    have ho : off + i < cells.toList.length := by simp; omega
    rw [Array.toList_setIfInBounds, show off + (i + 1) = off + i + 1 by omega, List.take_succ_eq_append_getElem (by simpa using ho)]
    simp only [List.length_cons]
    rw [List.take_set_of_le (Nat.le_refl _), List.getElem_set_self, List.drop_set_of_lt (by omega), show off + i + 1 + r.length = off + i + (r.length + 1) by omega]
    simp
theorem fill_step (place : Nat → Option (Nat × Nat)) (cells : Array Value) (i off size : Nat) (v : Value) (rest : List (Nat × Value)) (hp : place i = some (off, size)) (hv : v.cells.size = size) (hl : off + size ≤ cells.size) :
    ∃ cells', Instr.fill place cells ((i, v) :: rest) = Instr.fill place cells' rest ∧ cells'.toList = cells.toList.take off ++ v.cells.toList ++ cells.toList.drop (off + v.cells.toList.length) := by
  have hf := fold_set v.cells.toList off 0 cells (by simp; omega)
  have heq : (v.cells.zipIdx.foldl (fun cs x => cs.setIfInBounds (off + x.2) x.1) cells) = ((v.cells.toList.zipIdx 0).foldl (fun cs x => cs.setIfInBounds (off + x.2) x.1) cells) := by
    rw [← Array.foldl_toList, Array.toList_zipIdx]
  refine ⟨v.cells.zipIdx.foldl (fun cs x => cs.setIfInBounds (off + x.2) x.1) cells, ?_, ?_⟩
  · have h1 : ¬ (v.cells.size ≠ size || off + v.cells.size > cells.size) = true := by simp [hv]; omega
    simp only [Instr.fill, hp]
    rw [if_neg h1]
  · rw [heq, hf]; simp
theorem fill_ok {place place' : Nat → Option (Nat × Nat)} (hpl : ∀ i r, place i = some r → place' i = some r) :
    ∀ {ps : List (Nat × Operand)} {pts : List Pt} {en : Env} {z : List AV} {κ : List AV → R}, parts place ps = some pts → dP pts en z κ = true →
      ∃ l, (∀ κ', dP pts en z κ' = κ' l) ∧ l.length = z.length ∧ ∀ θ (a : Act), ER θ en a.tmps → Oks θ z → z.all one = true →
        Oks θ l ∧ l.all one = true ∧ Instr.fill place' (toVs θ z).toArray (ps.map fun q => (q.1, a.eval q.2)) = some (toVs θ l).toArray
  | [], pts, en, z, κ, hp, e => by
    cases hp
    exact ⟨z, fun _ => rfl, rfl, fun θ a _ h1 h2 => ⟨h1, h2, rfl⟩⟩
  | (i, Y) :: ps, pts, en, z, κ, hp, e => by
    unfold parts omap at hp
    split at hp
    · rename_i pt r hpt hr
      injection hp with hp; subst hp
      split at hpt
      · rename_i off size x hplace hx
        injection hpt with hpt; subst hpt
        obtain ⟨v, hv, hvr⟩ := x_ok hx en
        have e : dX x en (cellsK fun vs => br (Nat.beq (lenN AV vs) size) (putLK vs off z fun l => dP r en l κ) false) = true := e
        rw [hv] at e
        obtain ⟨hc, e1, hcr⟩ := cellsK_true e
        obtain ⟨hs, e2⟩ := br_t e1
        have hs' : (cellsV v).length = size := by rw [← lenN_eq]; exact Nat.eq_of_beq_eq_true hs
        rw [putLK_eq] at e2
        split at e2
        · rename_i hle
          obtain ⟨l, k1, k2, k3⟩ := fill_ok hpl hr e2
          refine ⟨l, fun κ' => ?_, ?_, fun θ a hE hz hz1 => ?_⟩
          · show dX x en (cellsK fun vs => br (Nat.beq (lenN AV vs) size) (putLK vs off z fun l => dP r en l κ') false) = _
            rw [hv, hc, hs]
            show putLK (cellsV v) off z (fun l => dP r en l κ') = _
            rw [putLK_eq, if_pos hle]
            exact k1 κ'
          · rw [k2]; simp; omega
          · obtain ⟨q1, q2, q3⟩ := hcr (hvr θ a hE)
            obtain ⟨k4, k5, k6⟩ := k3 θ a hE (Oks_append.2 ⟨Oks_append.2 ⟨Oks_take _ hz, q1⟩, Oks_drop _ hz⟩) (by simp only [List.all_append, all_take _ hz1, q2, all_drop _ hz1, Bool.and_self])
            refine ⟨k4, k5, ?_⟩
            have hn : (a.eval Y).cells.size = size := by rw [← Array.length_toList, q3, toVs_length]; exact hs'
            obtain ⟨cs, f1, f2⟩ := fill_step place' (toVs θ z).toArray i off size (a.eval Y) (ps.map fun q => (q.1, a.eval q.2)) (hpl i _ hplace) hn (by simp; omega)
            rw [List.map_cons, f1, ← k6]
            congr 1
            apply Array.ext'
            rw [f2, q3]
            simp [toVs_map, List.map_take, List.map_drop]
        · cases e2
      · cases hpt
    · cases hp

section ops
variable {P : Program} {o : Oper} {x y : XF} {X Y : Operand}
theorem places_ok : ∀ (fs : List Field) (w : World), fs.all (fun f => (sizeT P f.type).isSome) = true →
    (fs.mapM (fun f : Field => do pure (f.offset, ← sizeOf f.type)) : Sem (List (Nat × Nat))).run P w = .ok (fs.map fun f : Field => (f.offset, (sizeT P f.type).getD 0)) w
  | [], w, _ => rfl
  | f :: fs, w, h => by
    simp only [List.all_cons, Bool.and_eq_true] at h
    obtain ⟨k, hk⟩ := Option.isSome_iff_exists.1 h.1
    have ih := places_ok fs w h.2
    rw [List.mapM_cons]
    simp only [Sem.run_bind, run_size hk, Result.andThen, Sem.run_pure, ih, List.map_cons, hk, Option.getD_some]
theorem p_blds {t : TypeId} {fs : Array Field} {ps : Array (Nat × Operand)} {pts : List Pt} {z : List AV} (hu : P.underlying t = some (.struct fs)) (hz : zeroT P t = some z) (hs : fs.toList.all (fun f => (sizeT P f.type).isSome) = true)
    (hp : parts (fun i => match fs[i]? with | some f => (sizeT P f.type).map (fun s => (f.offset, s)) | none => none) ps.toList = some pts) (ho : o.op = .build t ps) : PureOk P o (oBld z (dP pts)) := by
  intro en h nx κ e
  obtain ⟨ti, zv, i1, i2, i3, i4⟩ := zeroT_some hz
  have hag : ∀ (i : Nat) (r : Nat × Nat), (match fs[i]? with | some f => (sizeT P f.type).map (fun s => (f.offset, s)) | none => none) = some r → ((fs.toList.map fun f : Field => (f.offset, (sizeT P f.type).getD 0)).toArray[i]?) = some r := by
    intro i r hr
    split at hr
    · rename_i f hf
      obtain ⟨k, k1, k2⟩ := Option.map_eq_some_iff.1 hr
      subst k2
      simp [hf, k1]
    · cases hr
  obtain ⟨l, k1, k2, k3⟩ := fill_ok (place' := ((fs.toList.map fun f : Field => (f.offset, (sizeT P f.type).getD 0)).toArray[·]?)) hag hp e
  refine ⟨.ag l, fun h' nx' κ' => k1 _, fun θ a w hE => ⟨.agg (toVs θ l).toArray, ⟨⟨(k3 θ a hE (i4 θ).1 i3).1, (k3 θ a hE (i4 θ).1 i3).2.1⟩, rfl⟩, ?_⟩⟩
  have hfill := (k3 θ a hE (i4 θ).1 i3).2.2
  have hm : (fs.mapM (fun f : Field => do pure (f.offset, ← sizeOf f.type)) : Sem (Array (Nat × Nat))).run P w = .ok (fs.toList.map fun f : Field => (f.offset, (sizeT P f.type).getD 0)).toArray w := by
    rw [Array.mapM_eq_mapM_toList]
    simp only [Sem.run_map, places_ok fs.toList w hs, Result.andThen]
  have hps : (ps.map fun (i, x) => (i, a.eval x)).toList = ps.toList.map fun q => (q.1, a.eval q.2) := by simp
  simp only [execOp, ho, Instr.build, zeroValue, typeInfo, Sem.run_bind, run_program, i1, i2, Result.andThen, Sem.run_pure, run_underlying hu, hm, hps, (i4 θ).2, hfill]
theorem p_blda {t el : TypeId} {n s : Nat} {ps : Array (Nat × Operand)} {pts : List Pt} {z : List AV} (hu : P.underlying t = some (.array n el)) (hz : zeroT P t = some z) (hs : sizeT P el = some s)
    (hp : parts (fun i => (sizeT P el).map (fun s => (i * s, s))) ps.toList = some pts) (ho : o.op = .build t ps) : PureOk P o (oBld z (dP pts)) := by
  intro en h nx κ e
  obtain ⟨ti, zv, i1, i2, i3, i4⟩ := zeroT_some hz
  obtain ⟨l, k1, k2, k3⟩ := fill_ok (place' := fun i => some (i * s, s)) (fun i r hr => by rw [hs] at hr; exact hr) hp e
  refine ⟨.ag l, fun h' nx' κ' => k1 _, fun θ a w hE => ⟨.agg (toVs θ l).toArray, ⟨⟨(k3 θ a hE (i4 θ).1 i3).1, (k3 θ a hE (i4 θ).1 i3).2.1⟩, rfl⟩, ?_⟩⟩
  have hfill := (k3 θ a hE (i4 θ).1 i3).2.2
  have hps : (ps.map fun (i, x) => (i, a.eval x)).toList = ps.toList.map fun q => (q.1, a.eval q.2) := by simp
  simp only [execOp, ho, Instr.build, zeroValue, typeInfo, Sem.run_bind, run_program, i1, i2, Result.andThen, Sem.run_pure, run_underlying hu, run_size hs, hps, (i4 θ).2, hfill]

/-! ### The least, the greatest -/
theorem mmL_go {k : Nat} {a v : AV} {κ : AV → R} (e : lnK k a (fun A => lnK k v fun B => fnat (ltm A B) fun Y => br (Nat.beq Y 0) (κ a) (br (Nat.beq Y LO) (κ v) false)) = true) :
    ∃ w, (∀ κ' : AV → R, lnK k a (fun A => lnK k v fun B => fnat (ltm A B) fun Y => br (Nat.beq Y 0) (κ' a) (br (Nat.beq Y LO) (κ' v) false)) = κ' w) ∧ κ w = true ∧
      ∀ θ u u2, VR θ a u → VR θ v u2 → ∃ u', VR θ w u' ∧ ∀ w, (Builtin.max2 u u2).run P w = .ok u' w := by
  obtain ⟨A, a1, e, _, _, a4⟩ := lnK_true e
  obtain ⟨B, b1, e, _, _, b4⟩ := lnK_true e
  rw [fnat_eq] at e
  rcases br_true e with ⟨h1, e⟩ | ⟨h1, e⟩
  · refine ⟨a, fun κ' => by rw [a1, b1, fnat_eq, h1]; rfl, e, fun θ u u2 hu hu2 => ⟨u, hu, fun w => ?_⟩⟩
    obtain ⟨la, ua⟩ := a4 θ u hu
    obtain ⟨lb, ub⟩ := b4 θ u2 hu2
    have h := ln_ltm θ.lane_lt la.all64 lb.all64
    rw [Nat.eq_of_beq_eq_true h1, ln_nought] at h
    have h2 : ¬ ln θ.lane A < ln θ.lane B := fun h3 => by rw [if_pos h3] at h; omega
    have h3 : ¬ ((ln θ.lane A : Nat) : Int) < ((ln θ.lane B : Nat) : Int) := by omega
    subst ua ub
    simp [Builtin.max2, h3]
  · obtain ⟨h2, e⟩ := br_t e
    refine ⟨v, fun κ' => by rw [a1, b1, fnat_eq, h1, h2]; rfl, e, fun θ u u2 hu hu2 => ⟨u2, hu2, fun w => ?_⟩⟩
    obtain ⟨la, ua⟩ := a4 θ u hu
    obtain ⟨lb, ub⟩ := b4 θ u2 hu2
    have h := ln_ltm θ.lane_lt la.all64 lb.all64
    rw [Nat.eq_of_beq_eq_true h2, ln_ones θ.lane_lt] at h
    have h2 : ln θ.lane A < ln θ.lane B := by
      by_cases h3 : ln θ.lane A < ln θ.lane B
      · exact h3
      · rw [if_neg h3] at h; omega
    have h3 : ((ln θ.lane A : Nat) : Int) < ((ln θ.lane B : Nat) : Int) := by omega
    subst ua ub
    simp [Builtin.max2, h3]
theorem mmL_true {mx : Bool} {a v : AV} {κ : AV → R} (e : mmL mx a v κ = true) : ∃ w, (∀ κ' : AV → R, mmL mx a v κ' = κ' w) ∧ κ w = true ∧
    ∀ θ u u2, VR θ a u → VR θ v u2 → ∃ u', VR θ w u' ∧ ∀ w, ((if mx then Builtin.max2 else Builtin.min2) u u2).run P w = .ok u' w := by
  have go : ∀ k : Nat, (∀ κ' : AV → R, mmL mx a v κ' = br mx (lnK k a fun A => lnK k v fun B => fnat (ltm A B) fun Y => br (Nat.beq Y 0) (κ' a) (br (Nat.beq Y LO) (κ' v) false)) false) → ∃ w, (∀ κ' : AV → R, mmL mx a v κ' = κ' w) ∧ κ w = true ∧
      ∀ θ u u2, VR θ a u → VR θ v u2 → ∃ u', VR θ w u' ∧ ∀ w, ((if mx then Builtin.max2 else Builtin.min2) u u2).run P w = .ok u' w := fun k hk => by
    rw [hk] at e
    obtain ⟨h1, e⟩ := br_t e
    subst h1
    obtain ⟨w, w1, w2, w3⟩ := mmL_go (P := P) e
    exact ⟨w, fun κ' => by rw [hk, br_tt, w1], w2, w3⟩
  by_cases h1 : ∃ k N, a = .l k N
  · obtain ⟨k, N, rfl⟩ := h1
    exact go k fun κ' => rfl
  by_cases h2 : ∃ k N, v = .l k N
  · obtain ⟨k, N, rfl⟩ := h2
    refine go k fun κ' => ?_
    cases a <;> first | rfl | exact absurd ⟨_, _, rfl⟩ h1
  · exfalso
    have : mmL mx a v κ = false := by
      cases a <;> first | exact absurd ⟨_, _, rfl⟩ h1 | (cases v <;> first | rfl | exact absurd ⟨_, _, rfl⟩ h2)
    rw [this] at e; cases e
theorem mm_ok {mx : Bool} : ∀ {vs : List AV} {a : AV} {κ : AV → R}, mmK mx vs a κ = true → ∃ r, (∀ κ', mmK mx vs a κ' = κ' r) ∧ ∀ θ u, VR θ a u → Oks θ vs →
    ∃ u', VR θ r u' ∧ ∀ w, ((toVs θ vs).foldlM (if mx then Builtin.max2 else Builtin.min2) u).run P w = .ok u' w
  | [], a, κ, e => ⟨a, fun _ => rfl, fun θ u hu _ => ⟨u, hu, fun w => rfl⟩⟩
  | v :: vs, a, κ, e => by
    have step0 : ∀ κ, mmK mx (v :: vs) a κ = br (isLL a v) (mmL mx a v fun w => mmK mx vs w κ) (asI (fun k x => asI (fun _ y => @Bool.rec (fun _ => R)
      (cmLt y x fun c => br c (mmK mx vs (.i k y) κ) (mmK mx vs (.i k x) κ)) (cmLt x y fun c => br c (mmK mx vs (.i k y) κ) (mmK mx vs (.i k x) κ)) mx) v) a) := fun _ => rfl
    cases hl : isLL a v with
    | true =>
      rw [step0, hl, br_tt] at e
      obtain ⟨w, q1, q2, q3⟩ := mmL_true (P := P) e
      obtain ⟨r, r1, r2⟩ := mm_ok q2
      refine ⟨r, fun κ' => by rw [step0, hl, br_tt, q1, r1], fun θ u hu hv => ?_⟩
      obtain ⟨uw, w1, w2⟩ := q3 θ u _ hu ⟨hv.1, rfl⟩
      obtain ⟨u', w3, w4⟩ := r2 θ uw w1 hv.2
      refine ⟨u', w3, fun w => ?_⟩
      simp only [toVs, List.foldlM_cons, Sem.run_bind, w2, Result.andThen, w4]
    | false =>
    have step : ∀ κ, mmK mx (v :: vs) a κ = asI (fun k x => asI (fun _ y => @Bool.rec (fun _ => R)
      (cmLt y x fun c => br c (mmK mx vs (.i k y) κ) (mmK mx vs (.i k x) κ)) (cmLt x y fun c => br c (mmK mx vs (.i k y) κ) (mmK mx vs (.i k x) κ)) mx) v) a := fun κ => by rw [step0, hl, br_ff]
    rw [step] at e
    obtain ⟨k, x, rfl, e1⟩ := asI_true e
    obtain ⟨k2, y, rfl, e2⟩ := asI_true e1
    have go : ∀ z : Int, (∀ κ, mmK mx (.i k2 y :: vs) (.i k x) κ = mmK mx vs (.i k z) κ) → (∀ w, ((if mx then Builtin.max2 else Builtin.min2) (.int (kindOf k) x) (.int (kindOf k2) y)).run P w = .ok (.int (kindOf k) z) w) →
        mmK mx vs (.i k z) κ = true → ∃ r, (∀ κ', mmK mx (.i k2 y :: vs) (.i k x) κ' = κ' r) ∧ ∀ θ u, VR θ (.i k x) u → Oks θ (.i k2 y :: vs) → ∃ u', VR θ r u' ∧ ∀ w, ((toVs θ (.i k2 y :: vs)).foldlM (if mx then Builtin.max2 else Builtin.min2) u).run P w = .ok u' w := by
      intro z h1 h2 h3
      obtain ⟨r, q1, q2⟩ := mm_ok h3
      refine ⟨r, fun κ' => by rw [h1, q1], fun θ u hu hv => ?_⟩
      obtain ⟨u', w1, w2⟩ := q2 θ _ (vr_i θ k z) hv.2
      refine ⟨u', w1, fun w => ?_⟩
      have hu := hu.i
      subst hu
      simp only [toVs, toV, List.foldlM_cons, Sem.run_bind, h2, Result.andThen, w2]
    cases mx with
    | true =>
      simp only [cmLt_eq] at e2
      by_cases hc : x < y
      · refine go y (fun κ => ?_) (fun w => by simp [Builtin.max2, hc]) (by rw [decide_eq_true hc] at e2; exact e2)
        rw [step]
        show cmLt x y _ = _
        rw [cmLt_eq, decide_eq_true hc]
      · refine go x (fun κ => ?_) (fun w => by simp [Builtin.max2, hc]) (by rw [decide_eq_false hc] at e2; exact e2)
        rw [step]
        show cmLt x y _ = _
        rw [cmLt_eq, decide_eq_false hc]
    | false =>
      simp only [cmLt_eq] at e2
      by_cases hc : y < x
      · refine go y (fun κ => ?_) (fun w => by simp [Builtin.min2, hc]) (by rw [decide_eq_true hc] at e2; exact e2)
        rw [step]
        show cmLt y x _ = _
        rw [cmLt_eq, decide_eq_true hc]
      · refine go x (fun κ => ?_) (fun w => by simp [Builtin.min2, hc]) (by rw [decide_eq_false hc] at e2; exact e2)
        rw [step]
        show cmLt y x _ = _
        rw [cmLt_eq, decide_eq_false hc]
theorem p_mm {mx : Bool} {xs : XsF} {c : Call} (hx : XsOk xs c.args.toList) (hc : c.callee = .builtin (if mx then .max else .min)) (ho : o.op = .call c) : PureOk P o (oMm mx xs) := by
  intro en h nx κ e
  obtain ⟨vs, hv, hlen, hr⟩ := hx en
  simp only [oMm, hv] at e
  cases vs with
  | nil => cases e
  | cons v vs =>
    obtain ⟨r, q1, q2⟩ := mm_ok (P := P) e
    refine ⟨r, fun h' nx' κ' => by simp only [oMm, hv]; exact q1 _, fun θ a w hE => ?_⟩
    obtain ⟨h1, h2⟩ := hr θ a hE
    obtain ⟨u', w1, w2⟩ := q2 θ (toV θ v) ⟨h1.1, rfl⟩ h1.2
    refine ⟨u', w1, ?_⟩
    have hargs : (c.args.map a.eval).toList = toV θ v :: toVs θ vs := by rw [Array.toList_map, h2]; rfl
    have w2 := w2 w
    cases mx <;> simp only [if_true, if_false, Bool.false_eq_true] at w2 hc <;>
      simp only [execOp, ho, resolve, hc, Sem.run_bind, Sem.run_pure, Result.andThen, invoke, builtin, Builtin.max_, Builtin.min_, hargs, w2]

/-! ### Values compared -/
theorem kn_kind {k : Nat} (h : k < 8) : kn (kindOf k) = k := by
  rcases k with _ | _ | _ | _ | _ | _ | _ | _ | k <;> first | rfl | omega
theorem kn_lt (k : IntKind) : kn k < 8 := by cases k <;> decide
theorem eqK_true {c : Nat} {x y : AV} {κ : Bool → R} (e : eqK c x y κ = true) : ∃ r, (∀ κ', eqK c x y κ' = κ' r) ∧
    ((c < 8 ∧ one x = true ∧ one y = true ∧ ∀ θ u v, VR θ x u → VR θ y v → ∃ m n : Int, u = .int (kindOf c) m ∧ v = .int (kindOf c) n ∧ r = (m == n)) ∨ (c = 8 ∧ one x = true ∧ one y = true ∧ ∀ θ u v, VR θ x u → VR θ y v → ∃ a b, u = .string a ∧ v = .string b ∧ (a == b) = r ∧ (b == a) = r) ∨ (c ≠ 8 ∧ 8 ≤ c ∧ ∃ a b, x = .b a ∧ y = .b b ∧ r = (a == b))) := by
  unfold eqK at e
  rcases br_true e with ⟨h1, e1⟩ | ⟨h1, e1⟩
  · have h1' : c < 8 := by simpa [Nat.blt_eq] using h1
    rcases br_true e1 with ⟨h2, e1⟩ | ⟨h2, e1⟩
    · obtain ⟨r, k1, _, k3⟩ := laEq_true e1
      have h1x : ∀ {v : AV} {κ : Nat → R}, lnK c v κ = true → one v = true := by
        intro v κ e
        cases v <;> first | rfl | cases e
      obtain ⟨_, a1, e2, _⟩ := lnK_true e1
      refine ⟨r, fun κ' => ?_, .inl ⟨h1', h1x e1, h1x e2, fun θ u v hu hv => ?_⟩⟩
      · unfold eqK
        rw [h1, h2]
        exact k1 κ'
      · obtain ⟨a, b, u1, u2, u3⟩ := k3 θ u v hu hv
        refine ⟨a, b, u1, u2, ?_⟩
        rw [u3]
        by_cases hab : a = b
        · subst hab; simp
        · have : ¬ (a : Int) = (b : Int) := by omega
          rw [beq_false_of_ne hab, beq_false_of_ne this]
    obtain ⟨m, rfl, e2⟩ := asK_true e1
    obtain ⟨n, rfl, e3⟩ := asK_true e2
    refine ⟨m == n, fun κ' => ?_, .inl ⟨h1', rfl, rfl, fun θ u v hu hv => ⟨m, n, hu.i, hv.i, rfl⟩⟩⟩
    unfold eqK
    rw [h1]
    show asK c (fun a => asK c (fun b => cmEq a b κ') (.i c n)) (.i c m) = _
    rw [asK_i, asK_i, cmEq_eq]
  · have h1' : ¬ c < 8 := fun h => by rw [show Nat.blt c 8 = true by simpa [Nat.blt_eq] using h] at h1; cases h1
    rcases br_true e1 with ⟨h2, e2⟩ | ⟨h2, e2⟩
    · have h2' := Nat.eq_of_beq_eq_true h2
      obtain ⟨r, k1, _, k2, k3, k4⟩ := asSQ_true e2
      refine ⟨r, fun κ' => ?_, .inr (.inl ⟨h2', k2, k3, k4⟩)⟩
      unfold eqK
      rw [h1, h2]; exact k1 κ'
    · have h2' : c ≠ 8 := fun h => by subst h; cases h2
      obtain ⟨a, rfl, e3⟩ := asB_true e2
      obtain ⟨b, rfl, e4⟩ := asB_true e3
      refine ⟨a == b, fun κ' => ?_, .inr (.inr ⟨h2', by omega, a, b, rfl, rfl, rfl⟩)⟩
      unfold eqK
      rw [h1, h2]
      show κ' (eqB a b) = _
      rw [eqB_eq]
theorem flatC_some {t : TypeId} {c : Nat} (h : flatC P t = some c) : ∃ d, P.underlying t = some d ∧ ((∃ k, d = .int k ∧ c = kn k) ∨ (d = .string ∧ c = 8) ∨ (d = .bool ∧ c = 9)) := by
  unfold flatC at h
  split at h
  · rename_i k hu; injection h with h; exact ⟨_, hu, .inl ⟨k, rfl, h.symm⟩⟩
  · rename_i hu; injection h with h; exact ⟨_, hu, .inr (.inl ⟨rfl, h.symm⟩)⟩
  · rename_i hu; injection h with h; exact ⟨_, hu, .inr (.inr ⟨rfl, h.symm⟩)⟩
  · cases h
/-- one cell -/
theorem cell_eq {t : TypeId} {c : Nat} {x y : AV} {κ : Bool → R} (hc : flatC P t = some c) (e : eqK c x y κ = true) : ∃ r, (∀ κ', eqK c x y κ' = κ' r) ∧ one x = true ∧ one y = true ∧
    ∀ θ u v, VR θ x u → VR θ y v → (∀ d w, (Op.equalIn (d + 1) t u v).run P w = .ok r w) ∧ (r = true → ∀ n, Instr.sameBits n v u = true) ∧ (∀ d, P.underlying t = some d → Instr.sameNow d u v = some r) ∧
      (∀ e n w, (Instr.checkKey e (n + 1) t u).run P w = .ok () w) ∧ ∀ op X Y w, (eqGuard op t X Y u v).run P w = .ok () w := by
  obtain ⟨r, h1, h2⟩ := eqK_true e
  obtain ⟨d, hd, hk⟩ := flatC_some hc
  have hguard : ∀ {θ : Th} {u v : Value} {a : Value}, (u = a) → (∀ l, a ≠ .agg l) → a ≠ .nilIface → ∀ op X Y w, (eqGuard op t X Y u v).run P w = .ok () w := by
    intro θ u v a hu ha hn op X Y w
    subst hu
    unfold eqGuard
    cases op <;> (try rfl) <;> (cases u <;> first | rfl | exact absurd rfl hn | exact absurd rfl (ha _))
  rcases h2 with ⟨hlt, hone, hone', hab⟩ | ⟨rfl, hone, hone', hab⟩ | ⟨hn8, hle, a, b, rfl, rfl, rfl⟩
  · rcases hk with ⟨k, rfl, hck⟩ | ⟨rfl, hck⟩ | ⟨rfl, hck⟩
    · subst hck
      refine ⟨_, h1, hone, hone', fun θ u v hu hv => ?_⟩
      obtain ⟨m, n, hu, hv, hr⟩ := hab θ u v hu hv
      rw [kind_kn] at hu hv
      subst hu hv hr
      refine ⟨fun d w => by simp [Op.equalIn, run_underlying hd], fun hr n => ?_, fun d' hd' => ?_, fun e n w => by simp [Instr.checkKey, run_underlying hd], fun op X Y w => by cases op <;> rfl⟩
      · have : m = ‹_› := by simpa using hr
        subst this
        cases n <;> simp [Instr.sameBits]
      · rw [hd] at hd'; injection hd' with hd'; subst hd'; simp [Instr.sameNow]
    · omega
    · omega
  · rcases hk with ⟨k, rfl, hck⟩ | ⟨rfl, _⟩ | ⟨rfl, hck⟩
    · have := kn_lt k; omega
    · refine ⟨_, h1, hone, hone', fun θ u v hu hv => ?_⟩
      obtain ⟨a, b, hu, hv, hb, hb'⟩ := hab θ u v hu hv
      subst hu hv
      refine ⟨fun d w => by simp [Op.equalIn, run_underlying hd, hb], fun hr n => ?_, fun d' hd' => ?_, fun e n w => by simp [Instr.checkKey, run_underlying hd], fun op X Y w => by cases op <;> rfl⟩
      · subst hr
        cases n <;> simp [Instr.sameBits, hb']
      · rw [hd] at hd'; injection hd' with hd'; subst hd'; simp [Instr.sameNow, hb]
    · omega
  · rcases hk with ⟨k, rfl, hck⟩ | ⟨rfl, hck⟩ | ⟨rfl, hck⟩
    · have := kn_lt k; omega
    · omega
    · refine ⟨_, h1, rfl, rfl, fun θ u v hu hv => ?_⟩
      have hu := hu.b
      have hv := hv.b
      subst hu hv
      refine ⟨fun d w => by simp [Op.equalIn, run_underlying hd], fun hr n => ?_, fun d' hd' => ?_, fun e n w => by simp [Instr.checkKey, run_underlying hd], fun op X Y w => by cases op <;> rfl⟩
      · have : a = b := by simpa using hr
        subst this
        cases n <;> simp [Instr.sameBits]
      · rw [hd] at hd'; injection hd' with hd'; subst hd'; simp [Instr.sameNow]
end ops
end Go.AM
namespace Go.AM
open Go

section
variable {P : Program} {o : Oper} {x y : XF} {X Y : Operand}
/-- all cells of two lists alike -/
theorem eqTs_nil {a b : List AV} {κ : Bool → R} (e : eqTs [] a b κ = true) : a = [] ∧ b = [] := by
  cases a <;> cases b <;> first | exact ⟨rfl, rfl⟩ | cases e
theorem eqTs_cons {c : Nat} {ks : List Nat} {a b : List AV} {κ : Bool → R} (e : eqTs (c :: ks) a b κ = true) : ∃ x r y s, a = x :: r ∧ b = y :: s ∧ eqK c x y (fun q => br q (eqTs ks r s κ) (κ false)) = true := by
  cases a with
  | nil => cases e
  | cons x r => cases b with
    | nil => cases e
    | cons y s => exact ⟨x, r, y, s, rfl, rfl, e⟩
theorem part_cell {t : TypeId} {c : Nat} (hc : flatC P t = some c) {cs : Array Value} {i : Nat} {v : Value} (h : cs[i]? = some v) (w : World) : (part t cs i).run P w = .ok v w := by
  obtain ⟨d, hd, hk⟩ := flatC_some hc
  have ha : (isAgg t).run P w = .ok false w := by
    simp only [isAgg, Sem.run_bind, run_underlying hd, Result.andThen]
    rcases hk with ⟨k, rfl, _⟩ | ⟨rfl, _⟩ | ⟨rfl, _⟩ <;> rfl
  simp only [part, Sem.run_bind, ha, Result.andThen]
  simp [h]
theorem flatFs_some {f : Field} {fs : List Field} {n : Nat} {ks : List Nat} (h : flatFs P (f :: fs) n = some ks) : f.name ≠ "_" ∧ f.offset = n ∧ ∃ c cs, flatC P f.type = some c ∧ flatFs P fs (n + 1) = some cs ∧ ks = c :: cs := by
  unfold flatFs at h
  split at h
  · rename_i hn
    simp only [Bool.and_eq_true] at hn
    split at h
    · rename_i c cs h1 h2
      injection h with h
      exact ⟨by simpa using hn.1, Nat.eq_of_beq_eq_true hn.2, c, cs, h1, h2, h.symm⟩
    · cases h
  · cases h
theorem get_drop {α : Type} {l : List α} {n : Nat} {x : α} {r : List α} (h : l.drop n = x :: r) : l[n]? = some x ∧ l.drop (n + 1) = r := by
  refine ⟨?_, ?_⟩
  · have := List.getElem?_drop (xs := l) (i := n) (j := 0)
    rw [h] at this
    simpa using this.symm
  · rw [← List.tail_drop, h]; rfl
theorem eqs_fields : ∀ {fs : List Field} {n : Nat} {ks : List Nat} {l r : List AV} {κ : Bool → R}, flatFs P fs n = some ks → eqTs ks (l.drop n) (r.drop n) κ = true →
    ∃ c, (∀ κ', eqTs ks (l.drop n) (r.drop n) κ' = κ' c) ∧ (c = true → ∀ θ, Oks θ l → Oks θ r → (l.drop n).length = (r.drop n).length ∧ ∀ m, ((toVs θ (r.drop n)).zip (toVs θ (l.drop n))).all (fun q => Instr.sameBits m q.1 q.2) = true) ∧
      ∀ θ, Oks θ l → Oks θ r → ∀ d w, (Op.eqFields (d + 1) (toVs θ l).toArray (toVs θ r).toArray fs).run P w = .ok c w
  | [], n, ks, l, r, κ, h, e => by
    cases h
    obtain ⟨h1, h2⟩ := eqTs_nil e
    refine ⟨true, fun κ' => by rw [h1, h2]; rfl, fun _ θ _ _ => ⟨by rw [h1, h2], fun m => by rw [h1, h2]; rfl⟩, fun θ _ _ d w => rfl⟩
  | f :: fs, n, ks, l, r, κ, h, e => by
    obtain ⟨hn, hoff, c, cs, hc, hcs, rfl⟩ := flatFs_some h
    obtain ⟨x, l', y, r', hx, hy, e1⟩ := eqTs_cons e
    obtain ⟨q, k1, _, _, k2⟩ := cell_eq hc e1
    obtain ⟨hx1, hx2⟩ := get_drop hx
    obtain ⟨hy1, hy2⟩ := get_drop hy
    have step : ∀ κ', eqTs (c :: cs) (l.drop n) (r.drop n) κ' = eqK c x y (fun q => br q (eqTs cs l' r' κ') (κ' false)) := fun κ' => by rw [hx, hy]; rfl
    have fx : ∀ θ, Oks θ l → VR θ x (toV θ x) := fun θ h => ⟨Oks_iff.1 h x (List.mem_of_getElem? hx1), rfl⟩
    have fy : ∀ θ, Oks θ r → VR θ y (toV θ y) := fun θ h => ⟨Oks_iff.1 h y (List.mem_of_getElem? hy1), rfl⟩
    have run : ∀ θ, Oks θ l → Oks θ r → ∀ d w, (Op.eqFields (d + 1) (toVs θ l).toArray (toVs θ r).toArray (f :: fs)).run P w =
        if q then (Op.eqFields (d + 1) (toVs θ l).toArray (toVs θ r).toArray fs).run P w else .ok false w := by
      intro θ h1 h2 d w
      have hp1 := part_cell hc (cs := (toVs θ l).toArray) (i := n) (v := toV θ x) (by simp [toVs_get, hx1]) w
      have hp2 := part_cell hc (cs := (toVs θ r).toArray) (i := n) (v := toV θ y) (by simp [toVs_get, hy1]) w
      have heq := (k2 θ _ _ (fx θ h1) (fy θ h2)).1 d w
      rw [Op.eqFields]
      rw [if_pos hn, hoff]
      simp only [Sem.run_bind, hp1, hp2, heq, Result.andThen]
      cases q <;> simp
    cases q with
    | false =>
      refine ⟨false, fun κ' => by rw [step, k1]; rfl, (fun h => nomatch h), fun θ h1 h2 d w => by rw [run θ h1 h2]; rfl⟩
    | true =>
      rw [k1] at e1
      have e2 : eqTs cs (l.drop (n + 1)) (r.drop (n + 1)) κ = true := by rw [hx2, hy2]; exact e1
      obtain ⟨c2, j1, j2, j3⟩ := eqs_fields hcs e2
      refine ⟨c2, fun κ' => ?_, fun hc2 θ h1 h2 => ?_, fun θ h1 h2 d w => ?_⟩
      · rw [step, k1]
        show eqTs cs l' r' κ' = _
        rw [← hx2, ← hy2]; exact j1 κ'
      · obtain ⟨i1, i2⟩ := j2 hc2 θ h1 h2
        rw [hx, hy, ← hx2, ← hy2]
        refine ⟨by simp only [List.length_cons, i1], fun m => ?_⟩
        simp only [toVs, List.zip_cons_cons, List.all_cons, i2 m, Bool.and_true]
        exact (k2 θ _ _ (fx θ h1) (fy θ h2)).2.1 rfl m
      · rw [run θ h1 h2]
        exact j3 θ h1 h2 d w
/-- the cells of two arrays -/
def eqArr (P : Program) (d : Nat) (t : TypeId) (xs ys : Array Value) : Nat → Nat → Sem Bool
  | 0, _ => pure true
  | n + 1, i => do
    let a ← part t xs i
    let b ← part t ys i
    let r ← Op.equalIn d t a b
    if (!r) = true then pure false else eqArr P d t xs ys n (i + 1)
theorem run_equalIn_arr {t el : TypeId} {len : Nat} (hu : P.underlying t = some (.array len el)) (hs : sizeT P el = some 1) (d : Nat) (xs ys : Array Value) (w : World) :
    (Op.equalIn (d + 1) t (.agg xs) (.agg ys)).run P w = (eqArr P d el xs ys len 0).run P w := by
  simp only [Op.equalIn, Sem.run_bind, run_underlying hu, Result.andThen_ok, run_size hs, Nat.mul_one, Std.Legacy.Range.forIn_eq_forIn_range', Std.Legacy.Range.size, Nat.sub_zero, Nat.add_one_sub_one, Nat.div_one]
  have key : ∀ (n i : Nat) (w : World), ((forIn (m := Sem) (List.range' i n) ((none, ()) : Option Bool × Unit) fun i _ => do
        let a ← part el xs i
        let b ← part el ys i
        let r ← Op.equalIn d el a b
        if (!r) = true then pure (ForInStep.done (some false, ())) else pure (ForInStep.yield (none, ()))).run P w).andThen (fun a w' => (match a.fst with | some b => (pure b : Sem Bool) | none => pure true).run P w') = (eqArr P d el xs ys n i).run P w := by
    intro n
    induction n with
    | zero => intro i w; simp [eqArr]
    | succ n ih =>
      intro i w
      rw [List.range'_succ, List.forIn_cons, eqArr]
      simp only [Sem.run_bind]
      generalize (part el xs i).run P w = r1
      cases r1 with
      | ok a w1 =>
        simp only [Result.andThen_ok]
        generalize (part el ys i).run P w1 = r2
        cases r2 with
        | ok b w2 =>
          simp only [Result.andThen_ok]
          generalize (Op.equalIn d el a b).run P w2 = r3
          cases r3 with
          | ok r w3 =>
            cases r
            · simp
            · simp only [Result.andThen_ok, Bool.not_true, Bool.false_eq_true, if_false, Sem.run_pure]
              exact ih (i + 1) w3
          | halt x w3 => simp [Result.andThen]
        | halt x w2 => simp [Result.andThen]
      | halt x w1 => simp [Result.andThen]
  refine Eq.trans (congrArg (Result.andThen _) (funext fun a => funext fun w' => ?_)) (key len 0 w)
  obtain ⟨a, b⟩ := a
  cases a <;> rfl
theorem eqs_arr {el : TypeId} {c : Nat} (hc : flatC P el = some c) : ∀ {k n : Nat} {l r : List AV} {κ : Bool → R}, eqTs (List.replicate k c) (l.drop n) (r.drop n) κ = true →
    ∃ b, (∀ κ', eqTs (List.replicate k c) (l.drop n) (r.drop n) κ' = κ' b) ∧ (b = true → ∀ θ, Oks θ l → Oks θ r → (l.drop n).length = (r.drop n).length ∧ ∀ m, ((toVs θ (r.drop n)).zip (toVs θ (l.drop n))).all (fun q => Instr.sameBits m q.1 q.2) = true) ∧
      ∀ θ, Oks θ l → Oks θ r → ∀ d w, (eqArr P (d + 1) el (toVs θ l).toArray (toVs θ r).toArray k n).run P w = .ok b w
  | 0, n, l, r, κ, e => by
    obtain ⟨h1, h2⟩ := eqTs_nil e
    refine ⟨true, fun κ' => by rw [h1, h2]; rfl, fun _ θ _ _ => ⟨by rw [h1, h2], fun m => by rw [h1, h2]; rfl⟩, fun θ _ _ d w => rfl⟩
  | k + 1, n, l, r, κ, e => by
    rw [List.replicate_succ] at e ⊢
    obtain ⟨x, l', y, r', hx, hy, e1⟩ := eqTs_cons e
    obtain ⟨q, k1, _, _, k2⟩ := cell_eq hc e1
    obtain ⟨hx1, hx2⟩ := get_drop hx
    obtain ⟨hy1, hy2⟩ := get_drop hy
    have step : ∀ κ', eqTs (c :: List.replicate k c) (l.drop n) (r.drop n) κ' = eqK c x y (fun q => br q (eqTs (List.replicate k c) l' r' κ') (κ' false)) := fun κ' => by rw [hx, hy]; rfl
    have fx : ∀ θ, Oks θ l → VR θ x (toV θ x) := fun θ h => ⟨Oks_iff.1 h x (List.mem_of_getElem? hx1), rfl⟩
    have fy : ∀ θ, Oks θ r → VR θ y (toV θ y) := fun θ h => ⟨Oks_iff.1 h y (List.mem_of_getElem? hy1), rfl⟩
    have run : ∀ θ, Oks θ l → Oks θ r → ∀ d w, (eqArr P (d + 1) el (toVs θ l).toArray (toVs θ r).toArray (k + 1) n).run P w =
        if q then (eqArr P (d + 1) el (toVs θ l).toArray (toVs θ r).toArray k (n + 1)).run P w else .ok false w := by
      intro θ h1 h2 d w
      have hp1 := part_cell hc (cs := (toVs θ l).toArray) (i := n) (v := toV θ x) (by simp [toVs_get, hx1]) w
      have hp2 := part_cell hc (cs := (toVs θ r).toArray) (i := n) (v := toV θ y) (by simp [toVs_get, hy1]) w
      have heq := (k2 θ _ _ (fx θ h1) (fy θ h2)).1 d w
      rw [eqArr]
      simp only [Sem.run_bind, hp1, hp2, heq, Result.andThen]
      cases q <;> simp
    cases q with
    | false =>
      refine ⟨false, fun κ' => by rw [step, k1]; rfl, (fun h => nomatch h), fun θ h1 h2 d w => by rw [run θ h1 h2]; rfl⟩
    | true =>
      rw [k1] at e1
      have e2 : eqTs (List.replicate k c) (l.drop (n + 1)) (r.drop (n + 1)) κ = true := by rw [hx2, hy2]; exact e1
      obtain ⟨c2, j1, j2, j3⟩ := eqs_arr hc e2
      refine ⟨c2, fun κ' => ?_, fun hc2 θ h1 h2 => ?_, fun θ h1 h2 d w => ?_⟩
      · rw [step, k1]
        show eqTs (List.replicate k c) l' r' κ' = _
        rw [← hx2, ← hy2]; exact j1 κ'
      · obtain ⟨i1, i2⟩ := j2 hc2 θ h1 h2
        rw [hx, hy, ← hx2, ← hy2]
        refine ⟨by simp only [List.length_cons, i1], fun m => ?_⟩
        simp only [toVs, List.zip_cons_cons, List.all_cons, i2 m, Bool.and_true]
        exact (k2 θ _ _ (fx θ h1) (fy θ h2)).2.1 rfl m
      · rw [run θ h1 h2]
        exact j3 θ h1 h2 d w
/-- a key that is checked -/
theorem check_fields : ∀ {fs : List Field} {n : Nat} {ks : List Nat} {l : List AV}, flatFs P fs n = some ks → n + ks.length ≤ l.length → (∀ v ∈ l, one v = true) → ∀ θ, Oks θ l → ∀ (em : Bool) (d : Nat) (w : World),
    ((forIn (m := Sem) fs PUnit.unit fun f r => if f.name ≠ "_" then do Instr.checkKey em (d + 1) f.type (← part f.type (toVs θ l).toArray f.offset); pure (ForInStep.yield PUnit.unit) else do pure PUnit.unit; pure (ForInStep.yield PUnit.unit))).run P w = .ok PUnit.unit w := by
  intro fs
  induction fs with
  | nil => intro n ks l h hl h1 θ ho em d w; rfl
  | cons f fs ih =>
    intro n ks l h hl h1 θ ho em d w
    obtain ⟨hn, hoff, c, cs, hc, hcs, rfl⟩ := flatFs_some h
    simp only [List.length_cons] at hl
    have hx : l[n]? = some (l[n]'(by omega)) := List.getElem?_eq_getElem (by omega)
    have hp1 := part_cell hc (cs := (toVs θ l).toArray) (i := n) (v := toV θ (l[n]'(by omega))) (by simp [toVs_get, hx]) w
    obtain ⟨dd, hd, hk⟩ := flatC_some hc
    have hck : ∀ v, (Instr.checkKey em (d + 1) f.type v).run P w = .ok () w := fun v => by
      rcases hk with ⟨k, rfl, _⟩ | ⟨rfl, _⟩ | ⟨rfl, _⟩ <;> simp [Instr.checkKey, run_underlying hd]
    rw [List.forIn_cons, if_pos hn, hoff]
    simp only [Sem.run_bind, hp1, Result.andThen, hck, Sem.run_pure]
    exact ih hcs (by omega) h1 θ ho em d w
theorem eqTs_len : ∀ {ks : List Nat} {a b : List AV} {κ : R}, eqTs ks a b (fun c => br c κ false) = true → a.length = ks.length ∧ κ = true
  | [], a, b, κ, e => by
    obtain ⟨h1, h2⟩ := eqTs_nil e
    subst h1 h2
    exact ⟨rfl, e⟩
  | c :: ks, a, b, κ, e => by
    obtain ⟨x, r, y, s, rfl, rfl, e1⟩ := eqTs_cons e
    obtain ⟨q, k1, _⟩ := eqK_true e1
    rw [k1] at e1
    cases q with
    | false => cases e1
    | true =>
      obtain ⟨h1, h2⟩ := eqTs_len (show eqTs ks r s _ = true from e1)
      exact ⟨by simp [h1], h2⟩
theorem eqTs_refl_go : ∀ {ks : List Nat} {a : List AV} {κ : R}, eqTs ks a a (fun c => br c κ false) = true → ∀ κ', eqTs ks a a (fun c => br c κ' false) = κ'
  | [], a, κ, e, κ' => by rw [(eqTs_nil e).1]; rfl
  | c :: ks, a, κ, e, κ' => by
    obtain ⟨x, r, y, s, h1, h2, e1⟩ := eqTs_cons e
    rw [h1] at h2
    injection h2 with h2 h3
    subst h2 h3
    obtain ⟨q, k1, _⟩ := eqK_true e1
    rw [k1] at e1
    cases q with
    | false => cases e1
    | true =>
      have := eqTs_refl_go (show eqTs ks r r _ = true from e1) κ'
      rw [h1]
      show eqK c x x _ = _
      rw [k1]; exact this
/-- a test of values of a type -/
theorem flatT_some {t : TypeId} {g : Bool} {ks : List Nat} (h : flatT P t = some (g, ks)) :
    (g = false ∧ ∃ c, ks = [c] ∧ flatC P t = some c) ∨
    (g = true ∧ P.eqGuardType P.depth t = false ∧ ((∃ fs, P.underlying t = some (.struct fs) ∧ P.stoodInHeld t = false ∧ flatFs P fs.toList 0 = some ks) ∨
      (∃ n el c, P.underlying t = some (.array n el) ∧ sizeT P el = some 1 ∧ flatC P el = some c ∧ ks = List.replicate n c))) := by
  unfold flatT at h
  split at h
  · rename_i fs hu
    by_cases h1 : P.stoodInHeld t = true
    · rw [if_pos h1] at h; cases h
    rw [if_neg h1] at h
    by_cases h2 : P.eqGuardType P.depth t = true
    · rw [if_pos h2] at h; cases h
    rw [if_neg h2] at h
    obtain ⟨ks', k1, k2⟩ := Option.map_eq_some_iff.1 h
    injection k2 with k2 k3
    subst k2 k3
    exact .inr ⟨rfl, by simpa using h2, .inl ⟨fs, hu, by simpa using h1, k1⟩⟩
  · rename_i n el hu
    by_cases h2 : P.eqGuardType P.depth t = true
    · rw [if_pos h2] at h; cases h
    rw [if_neg h2] at h
    by_cases h3 : sizeT P el = some 1
    · rw [if_pos h3] at h
      obtain ⟨c, k1, k2⟩ := Option.map_eq_some_iff.1 h
      injection k2 with k2 k3
      subst k2 k3
      exact .inr ⟨rfl, by simpa using h2, .inr ⟨n, el, c, hu, h3, k1, rfl⟩⟩
    · rw [if_neg h3] at h; cases h
  · obtain ⟨c, h1, h2⟩ := Option.map_eq_some_iff.1 h
    injection h2 with h2 h3
    subst h2 h3
    exact .inl ⟨rfl, c, rfl, h1⟩
theorem laDif_true : ∀ {ks : List Nat} {a b : List AV} {κ : Nat → R}, laDif ks a b κ = true → ∃ D, (∀ κ', laDif ks a b κ' = κ' D) ∧ κ D = true ∧ ∀ θ, Oks θ a → Oks θ b → Lim (2 ^ 64) D ∧
    ∃ a' b', toVs θ a' = toVs θ a ∧ toVs θ b' = toVs θ b ∧ Oks θ a' ∧ Oks θ b' ∧ ∀ κ'' : Bool → R, eqTs ks a' b' κ'' = κ'' (ln θ.lane D == 0)
  | [], [], [], κ, e => ⟨0, fun _ => rfl, e, fun θ _ _ => ⟨lim_nought, [], [], rfl, rfl, trivial, trivial, fun κ'' => by rw [ln_nought]; rfl⟩⟩
  | [], _ :: _, _, κ, e => by cases e
  | [], [], _ :: _, κ, e => by cases e
  | c :: ks, a, b, κ, e => by
    have e : br (Nat.blt c 8) (@List.rec AV (fun _ => R) false (fun x r _ => @List.rec AV (fun _ => R) false (fun y s _ => lnK c x fun A => lnK c y fun B => laDif ks r s fun D => fnat (Nat.lor D (Nat.xor A B)) κ) b) a) false = true := e
    obtain ⟨hc, e⟩ := br_t e
    cases a with
    | nil => cases e
    | cons x r =>
      cases b with
      | nil => cases e
      | cons y s =>
        have step : ∀ κ', laDif (c :: ks) (x :: r) (y :: s) κ' = br (Nat.blt c 8) (lnK c x fun A => lnK c y fun B => laDif ks r s fun D => fnat (Nat.lor D (Nat.xor A B)) κ') false := fun _ => rfl
        have e : lnK c x (fun A => lnK c y fun B => laDif ks r s fun D => fnat (Nat.lor D (Nat.xor A B)) κ) = true := e
        obtain ⟨A, a1, e, _, _, a4⟩ := lnK_true e
        obtain ⟨B, b1, e, _, _, b4⟩ := lnK_true e
        obtain ⟨D, d1, e, d3⟩ := laDif_true e
        rw [fnat_eq, lor_is, xor_is] at e
        refine ⟨D ||| (A ^^^ B), fun κ' => by rw [step, hc, br_tt, a1, b1, d1, fnat_eq, lor_is, xor_is], e, fun θ ha hb => ?_⟩
        obtain ⟨la, ua⟩ := a4 θ _ ⟨ha.1, rfl⟩
        obtain ⟨lb, ub⟩ := b4 θ _ ⟨hb.1, rfl⟩
        obtain ⟨lD, a', b', q1, q2, q3, q4, q5⟩ := d3 θ ha.2 hb.2
        have lx := lim_xor (b := 64) la.all64 lb.all64
        refine ⟨fun i hi => by rw [ln_or]; exact Nat.or_lt_two_pow (lD i hi) (lx i hi), .i c (ln θ.lane A : Nat) :: a', .i c (ln θ.lane B : Nat) :: b', ?_, ?_, ⟨trivial, q3⟩, ⟨trivial, q4⟩, fun κ'' => ?_⟩
        · simp only [toVs, q1, toV, ua]
        · simp only [toVs, q2, toV, ub]
        · have st : eqTs (c :: ks) (.i c (ln θ.lane A : Nat) :: a') (.i c (ln θ.lane B : Nat) :: b') κ'' = br (Nat.blt c 8) (asK c (fun m => asK c (fun n => cmEq m n fun q => br q (eqTs ks a' b' κ'') (κ'' false)) (.i c (ln θ.lane B : Nat))) (.i c (ln θ.lane A : Nat)))
              (br (Nat.beq c 8) (asSQ (.i c (ln θ.lane A : Nat)) (.i c (ln θ.lane B : Nat)) fun q => br q (eqTs ks a' b' κ'') (κ'' false)) (asB (fun m => asB (fun n => (fun q => br q (eqTs ks a' b' κ'') (κ'' false)) (eqB m n)) (.i c (ln θ.lane B : Nat))) (.i c (ln θ.lane A : Nat)))) := rfl
          rw [st, hc, br_tt, asK_i, asK_i, cmEq_eq, q5, ln_or, ln_xor]
          by_cases hab : ln θ.lane A = ln θ.lane B
          · rw [hab, Nat.xor_self, Nat.or_zero, show ((((ln θ.lane B : Nat) : Int)) == ((ln θ.lane B : Nat) : Int)) = true by simp, br_tt]
          · have h1 : ((((ln θ.lane A : Nat) : Int)) == ((ln θ.lane B : Nat) : Int)) = false := by
              have : ¬ ((ln θ.lane A : Nat) : Int) = ((ln θ.lane B : Nat) : Int) := by omega
              exact beq_false_of_ne this
            have h2 : ((ln θ.lane D ||| (ln θ.lane A ^^^ ln θ.lane B)) == 0) = false := by
              refine beq_false_of_ne fun h0 => hab ?_
              have h3 : ln θ.lane A ^^^ ln θ.lane B = 0 := by
                have := @Nat.right_le_or (ln θ.lane D) (ln θ.lane A ^^^ ln θ.lane B)
                omega
              have h4 : (ln θ.lane A ^^^ ln θ.lane B) ^^^ ln θ.lane B = 0 ^^^ ln θ.lane B := by rw [h3]
              rwa [Nat.xor_assoc, Nat.xor_self, Nat.xor_zero, Nat.zero_xor] at h4
            rw [h1, h2, br_ff]
theorem laQ_true {ks : List Nat} {a b : List AV} {κ : Bool → R} (e : laQ ks a b κ = true) : ∃ c, (∀ κ', laQ ks a b κ' = κ' c) ∧ ∀ θ, Oks θ a → Oks θ b →
    ∃ a' b', toVs θ a' = toVs θ a ∧ toVs θ b' = toVs θ b ∧ Oks θ a' ∧ Oks θ b' ∧ ∀ κ'' : Bool → R, eqTs ks a' b' κ'' = κ'' c := by
  unfold laQ at e
  obtain ⟨D, d1, e, d3⟩ := laDif_true e
  rcases br_true e with ⟨h1, e1⟩ | ⟨h1, e1⟩
  · refine ⟨true, fun κ' => by unfold laQ; rw [d1, h1, br_tt], fun θ ha hb => ?_⟩
    obtain ⟨_, a', b', q1, q2, q3, q4, q5⟩ := d3 θ ha hb
    refine ⟨a', b', q1, q2, q3, q4, fun κ'' => ?_⟩
    have h0 := Nat.eq_of_beq_eq_true h1
    rw [q5, h0, ln_nought]; rfl
  · obtain ⟨h2, e2⟩ := br_t e1
    refine ⟨false, fun κ' => by unfold laQ; rw [d1, h1, br_ff, h2, br_tt], fun θ ha hb => ?_⟩
    obtain ⟨lD, a', b', q1, q2, q3, q4, q5⟩ := d3 θ ha hb
    refine ⟨a', b', q1, q2, q3, q4, fun κ'' => ?_⟩
    have hl := ln_ltm θ.lane_lt lim_nought lD
    rw [@Nat.eq_of_beq_eq_true (ltm 0 D) LO h2, ln_ones θ.lane_lt, ln_nought] at hl
    have : ¬ ln θ.lane D = 0 := by
      intro h0
      rw [h0] at hl
      simp at hl
    rw [q5, beq_false_of_ne this]
theorem eqT_ok {t : TypeId} {g : Bool} {ks : List Nat} (h : flatT P t = some (g, ks)) {x y : AV} {κ : Bool → R} (e : eqT g ks x y κ = true) :
    ∃ c, (∀ κ', eqT g ks x y κ' = κ' c) ∧ ∀ θ u v, VR θ x u → VR θ y v → (∀ w, (Op.equal t u v).run P w = .ok c w) ∧ (c = true → Instr.sameBits 10000 v u = true) ∧
      (∀ op X Y w, (eqGuard op t X Y u v).run P w = .ok () w) ∧ ∀ d, P.underlying t = some d → Instr.sameNow d u v = (if g then none else some c) := by
  rcases flatT_some h with ⟨rfl, c, rfl, hc⟩ | ⟨rfl, hguard, hrest⟩
  · obtain ⟨r, k1, _, _, k2⟩ := cell_eq hc (show eqK c x y κ = true from e)
    refine ⟨r, k1, fun θ u v hu hv => ?_⟩
    obtain ⟨j1, j2, j3, j4, j5⟩ := k2 θ u v hu hv
    exact ⟨fun w => j1 9999 w, fun hr => j2 hr _, j5, fun d hd => j3 d hd⟩
  · obtain ⟨a, rfl, e1⟩ := asAg_true (show asAg (fun a => asAg (fun b => br (or' (anyL a) (anyL b)) (laQ ks a b κ) (eqTs ks a b κ)) y) x = true from e)
    obtain ⟨b, rfl, e2⟩ := asAg_true e1
    have fin : ∀ c, (∀ κ', eqT true ks (.ag a) (.ag b) κ' = κ' c) → (c = true → ∀ θ, Oks θ a → Oks θ b → a.length = b.length ∧ ∀ m, ((toVs θ b).zip (toVs θ a)).all (fun q => Instr.sameBits m q.1 q.2) = true) →
        (∀ θ, Oks θ a → Oks θ b → ∀ w, (Op.equal t (.agg (toVs θ a).toArray) (.agg (toVs θ b).toArray)).run P w = .ok c w) →
        (∀ d u v, P.underlying t = some d → Instr.sameNow d (.agg u) (.agg v) = none) →
        ∃ c, (∀ κ', eqT true ks (.ag a) (.ag b) κ' = κ' c) ∧ ∀ θ u v, VR θ (.ag a) u → VR θ (.ag b) v → (∀ w, (Op.equal t u v).run P w = .ok c w) ∧ (c = true → Instr.sameBits 10000 v u = true) ∧
          (∀ op X Y w, (eqGuard op t X Y u v).run P w = .ok () w) ∧ ∀ d, P.underlying t = some d → Instr.sameNow d u v = (if true then none else some c) := by
      intro c h1 h2 h3 h4
      refine ⟨c, h1, fun θ u v hu hv => ?_⟩
      obtain ⟨hu, ha, _⟩ := hu.ag
      obtain ⟨hv, hb, _⟩ := hv.ag
      subst hu hv
      refine ⟨h3 θ ha hb, fun hc => ?_, fun op X Y w => run_eqGuard_agg w op t X Y _ _ hguard, fun d hd => h4 d _ _ hd⟩
      obtain ⟨q1, q2⟩ := h2 hc θ ha hb
      show (_ == _ && _) = true
      simp only [List.size_toArray, toVs_length, q1, BEq.rfl, Bool.true_and]
      exact q2 9999
    -- what a comparison of cells tells of one of structs, of arrays
    have tell : ∀ (a b : List AV) (κ : Bool → R), eqTs ks a b κ = true → ∃ c, (∀ κ', eqTs ks a b κ' = κ' c) ∧ (c = true → ∀ θ, Oks θ a → Oks θ b → a.length = b.length ∧ ∀ m, ((toVs θ b).zip (toVs θ a)).all (fun q => Instr.sameBits m q.1 q.2) = true) ∧
        (∀ θ, Oks θ a → Oks θ b → ∀ w, (Op.equal t (.agg (toVs θ a).toArray) (.agg (toVs θ b).toArray)).run P w = .ok c w) := by
      intro a b κ e2
      rcases hrest with ⟨fs, hu, hst, hks⟩ | ⟨n, el, c, hu, hs, hc, rfl⟩
      · have e3 : eqTs ks (a.drop 0) (b.drop 0) κ = true := e2
        obtain ⟨c, k1, k2, k3⟩ := eqs_fields hks e3
        refine ⟨c, k1, k2, fun θ ha hb w => ?_⟩
        have hf : P.fieldsOf t = fs := by unfold Program.fieldsOf; rw [hu]
        have := run_equalIn_struct (P := P) w 9999 t (toVs θ a).toArray (toVs θ b).toArray (by rw [hf]; exact hu) hst
        rw [hf, k3 θ ha hb 9998 w] at this
        exact this
      · have e3 : eqTs (List.replicate n c) (a.drop 0) (b.drop 0) κ = true := e2
        obtain ⟨r, k1, k2, k3⟩ := eqs_arr hc e3
        refine ⟨r, k1, k2, fun θ ha hb w => ?_⟩
        have := run_equalIn_arr hu hs 9999 (toVs θ a).toArray (toVs θ b).toArray w
        rw [k3 θ ha hb 9998 w] at this
        exact this
    have now : ∀ (d : TypeDesc) (u v : Array Value), P.underlying t = some d → Instr.sameNow d (.agg u) (.agg v) = none := by
      intro d u v hd
      rcases hrest with ⟨fs, hu, _, _⟩ | ⟨n, el, c, hu, _, _, _⟩ <;> (rw [hu] at hd; injection hd with hd; subst hd; rfl)
    have hdef : ∀ κ' : Bool → R, eqT true ks (.ag a) (.ag b) κ' = br (or' (anyL a) (anyL b)) (laQ ks a b κ') (eqTs ks a b κ') := fun _ => rfl
    rcases br_true e2 with ⟨hl, e3⟩ | ⟨hl, e3⟩
    · obtain ⟨c, c1, c2⟩ := laQ_true e3
      refine fin c (fun κ' => by rw [hdef, hl, br_tt, c1]) (fun hc θ ha hb => ?_) (fun θ ha hb w => ?_) now
      · obtain ⟨a', b', q1, q2, q3, q4, q5⟩ := c2 θ ha hb
        obtain ⟨r, r1, r2, _⟩ := tell a' b' (fun _ => true) (q5 _)
        have hrc : r = c := by
          have h1 := r1 (fun q => q)
          have h2 := q5 (fun q => q)
          exact h1.symm.trans h2
        obtain ⟨l1, l2⟩ := r2 (hrc.trans hc) θ q3 q4
        have la := congrArg List.length q1
        have lb := congrArg List.length q2
        simp only [toVs_length] at la lb
        exact ⟨by omega, fun m => by rw [← q1, ← q2]; exact l2 m⟩
      · obtain ⟨a', b', q1, q2, q3, q4, q5⟩ := c2 θ ha hb
        obtain ⟨r, r1, _, r3⟩ := tell a' b' (fun _ => true) (q5 _)
        have hrc : r = c := by
          have h1 := r1 (fun q => q)
          have h2 := q5 (fun q => q)
          exact h1.symm.trans h2
        rw [← q1, ← q2, ← hrc]
        exact r3 θ q3 q4 w
    · obtain ⟨c, k1, k2, k3⟩ := tell a b κ e3
      exact fin c (fun κ' => by rw [hdef, hl, br_ff, k1]) k2 k3 now
/-- a test of values of a type: what it tells -/
def EqOk (P : Program) (t : TypeId) (g : Bool) (ks : List Nat) : Prop := ∀ {x y : AV} {κ : Bool → R}, eqT g ks x y κ = true → ∃ c, (∀ κ', eqT g ks x y κ' = κ' c) ∧ ∀ θ u v, VR θ x u → VR θ y v →
  (∀ w, (Op.equal t u v).run P w = .ok c w) ∧ ∀ op X Y w, (eqGuard op t X Y u v).run P w = .ok () w
theorem eqOk_flat {t : TypeId} {g : Bool} {ks : List Nat} (h : flatT P t = some (g, ks)) : EqOk P t g ks := fun e =>
  let ⟨c, h1, h2⟩ := eqT_ok h e
  ⟨c, h1, fun θ u v hu hv => let ⟨a, _, b, _⟩ := h2 θ u v hu hv; ⟨a, b⟩⟩
theorem eqTs_app : ∀ (k1 k2 : List Nat) (a b : List AV) (κ : Bool → R), eqTs (k1 ++ k2) a b κ = eqTs k1 (a.take k1.length) (b.take k1.length) (fun q => br q (eqTs k2 (a.drop k1.length) (b.drop k1.length) κ) (κ false))
  | [], k2, a, b, κ => rfl
  | c :: k1, k2, [], b, κ => rfl
  | c :: k1, k2, x :: a, [], κ => rfl
  | c :: k1, k2, x :: a, y :: b, κ => by
    show eqK c x y (fun q => br q (eqTs (k1 ++ k2) a b κ) (κ false)) = eqK c x y (fun q => br q (eqTs k1 (a.take k1.length) (b.take k1.length) (fun q => br q (eqTs k2 (a.drop k1.length) (b.drop k1.length) κ) (κ false))) (br false _ (κ false)))
    congr 1
    funext q
    rw [eqTs_app k1 k2 a b κ]
    cases q <;> rfl
theorem part_agg {t : TypeId} {gs : Array Field} {m : Nat} (hu : P.underlying t = some (.struct gs)) (hm : sizeT P t = some m) (θ : Th) (l : List AV) (n : Nat) (w : World) :
    (part t (toVs θ l).toArray n).run P w = .ok (.agg (toVs θ ((l.drop n).take m)).toArray) w := by
  have hag : (isAgg t).run P w = .ok true w := by
    simp only [isAgg, Sem.run_bind, run_underlying hu, Result.andThen]
    rfl
  simp only [part, Sem.run_bind, hag, Result.andThen, if_true, run_size hm, Sem.run_pure]
  congr 2
  apply Array.ext'
  simp [toVs_map, List.extract_eq_take_drop, List.map_take, List.map_drop]
theorem eqs_fields2 : ∀ {fs : List Field} {n : Nat} {ks : List Nat} {l r : List AV} {κ : Bool → R}, flatF2 P fs n = some ks → eqTs ks (l.drop n) (r.drop n) κ = true →
    ∃ c, (∀ κ', eqTs ks (l.drop n) (r.drop n) κ' = κ' c) ∧ ∀ θ, Oks θ l → Oks θ r → ∀ d w, (Op.eqFields (d + 2) (toVs θ l).toArray (toVs θ r).toArray fs).run P w = .ok c w
  | [], n, ks, l, r, κ, h, e => by
    cases h
    obtain ⟨h1, h2⟩ := eqTs_nil e
    exact ⟨true, fun κ' => by rw [h1, h2]; rfl, fun θ _ _ d w => rfl⟩
  | f :: fs, n, ks, l, r, κ, h, e => by
    unfold flatF2 at h
    split at h
    rotate_left
    · cases h
    rename_i hn
    simp only [Bool.and_eq_true] at hn
    have hname : f.name ≠ "_" := by simpa using hn.1
    have hoff : f.offset = n := Nat.eq_of_beq_eq_true hn.2
    split at h
    · -- one cell
      rename_i c hc
      obtain ⟨cs, hcs, rfl⟩ := Option.map_eq_some_iff.1 h
      obtain ⟨x, l', y, r', hx, hy, e1⟩ := eqTs_cons e
      obtain ⟨q, k1, _, _, k2⟩ := cell_eq hc e1
      obtain ⟨hx1, hx2⟩ := get_drop hx
      obtain ⟨hy1, hy2⟩ := get_drop hy
      have step : ∀ κ', eqTs (c :: cs) (l.drop n) (r.drop n) κ' = eqK c x y (fun q => br q (eqTs cs l' r' κ') (κ' false)) := fun κ' => by rw [hx, hy]; rfl
      have fx : ∀ θ, Oks θ l → VR θ x (toV θ x) := fun θ h => ⟨Oks_iff.1 h x (List.mem_of_getElem? hx1), rfl⟩
      have fy : ∀ θ, Oks θ r → VR θ y (toV θ y) := fun θ h => ⟨Oks_iff.1 h y (List.mem_of_getElem? hy1), rfl⟩
      have run : ∀ θ, Oks θ l → Oks θ r → ∀ d w, (Op.eqFields (d + 2) (toVs θ l).toArray (toVs θ r).toArray (f :: fs)).run P w =
          if q then (Op.eqFields (d + 2) (toVs θ l).toArray (toVs θ r).toArray fs).run P w else .ok false w := by
        intro θ h1 h2 d w
        have hp1 := part_cell hc (cs := (toVs θ l).toArray) (i := n) (v := toV θ x) (by simp [toVs_get, hx1]) w
        have hp2 := part_cell hc (cs := (toVs θ r).toArray) (i := n) (v := toV θ y) (by simp [toVs_get, hy1]) w
        have heq := (k2 θ _ _ (fx θ h1) (fy θ h2)).1 (d + 1) w
        rw [Op.eqFields]
        rw [if_pos hname, hoff]
        simp only [Sem.run_bind, hp1, hp2, heq, Result.andThen]
        cases q <;> simp
      cases q with
      | false => exact ⟨false, fun κ' => by rw [step, k1]; rfl, fun θ h1 h2 d w => by rw [run θ h1 h2]; rfl⟩
      | true =>
        rw [k1] at e1
        have e2 : eqTs cs (l.drop (n + 1)) (r.drop (n + 1)) κ = true := by rw [hx2, hy2]; exact e1
        obtain ⟨c2, j1, j3⟩ := eqs_fields2 hcs e2
        refine ⟨c2, fun κ' => ?_, fun θ h1 h2 d w => ?_⟩
        · rw [step, k1]
          show eqTs cs l' r' κ' = _
          rw [← hx2, ← hy2]; exact j1 κ'
        · rw [run θ h1 h2]
          exact j3 θ h1 h2 d w
    · -- a struct
      split at h
      rotate_left
      · cases h
      rename_i gs hu
      split at h
      · cases h
      rename_i hst
      split at h
      rotate_left
      · cases h
      rename_i k1 m hk hm
      split at h
      rotate_left
      · cases h
      rename_i hlen
      obtain ⟨cs, hcs, rfl⟩ := Option.map_eq_some_iff.1 h
      rw [eqTs_app, hlen] at e
      have e0 : eqTs k1 (((l.drop n).take m).drop 0) (((r.drop n).take m).drop 0) (fun q => br q (eqTs cs ((l.drop n).drop m) ((r.drop n).drop m) κ) (κ false)) = true := e
      obtain ⟨q, q1, _, q3⟩ := eqs_fields hk e0
      have step : ∀ κ', eqTs (k1 ++ cs) (l.drop n) (r.drop n) κ' = br q (eqTs cs (l.drop (n + m)) (r.drop (n + m)) κ') (κ' false) := fun κ' => by
        rw [eqTs_app, hlen, ← List.drop_drop, ← List.drop_drop]
        exact q1 _
      have run : ∀ θ, Oks θ l → Oks θ r → ∀ d w, (Op.eqFields (d + 2) (toVs θ l).toArray (toVs θ r).toArray (f :: fs)).run P w =
          if q then (Op.eqFields (d + 2) (toVs θ l).toArray (toVs θ r).toArray fs).run P w else .ok false w := by
        intro θ h1 h2 d w
        have hp1 := part_agg hu hm θ l n w
        have hp2 := part_agg hu hm θ r n w
        have hf : P.fieldsOf f.type = gs := by unfold Program.fieldsOf; rw [hu]
        have heq := run_equalIn_struct (P := P) w (d + 1) f.type (toVs θ ((l.drop n).take m)).toArray (toVs θ ((r.drop n).take m)).toArray (by rw [hf]; exact hu) (by simpa using hst)
        rw [hf, q3 θ (Oks_take _ (Oks_drop _ h1)) (Oks_take _ (Oks_drop _ h2)) d w] at heq
        rw [Op.eqFields]
        rw [if_pos hname, hoff]
        simp only [Sem.run_bind, hp1, hp2, Result.andThen]
        rw [heq]
        cases q <;> simp
      rw [← hlen, ← eqTs_app, step] at e
      cases q with
      | false => exact ⟨false, fun κ' => by rw [step]; rfl, fun θ h1 h2 d w => by rw [run θ h1 h2]; rfl⟩
      | true =>
        obtain ⟨c2, j1, j3⟩ := eqs_fields2 hcs (show eqTs cs (l.drop (n + m)) (r.drop (n + m)) κ = true from e)
        exact ⟨c2, fun κ' => by rw [step]; exact j1 κ', fun θ h1 h2 d w => by rw [run θ h1 h2]; exact j3 θ h1 h2 d w⟩
theorem eqOk_flat2 {t : TypeId} {ks : List Nat} (h : flatT2 P t = some ks) : EqOk P t true ks := by
  unfold flatT2 at h
  split at h
  · rename_i ks' h1
    injection h with h; subst h
    exact eqOk_flat h1
  · cases h
  · split at h
    rotate_left
    · cases h
    rename_i fs hu
    split at h
    · cases h
    rename_i hst
    split at h
    · cases h
    rename_i hguard
    intro x y κ e
    obtain ⟨a, rfl, e1⟩ := asAg_true (show asAg (fun a => asAg (fun b => br (or' (anyL a) (anyL b)) (laQ ks a b κ) (eqTs ks a b κ)) y) x = true from e)
    obtain ⟨b, rfl, e2⟩ := asAg_true e1
    have hdef : ∀ κ' : Bool → R, eqT true ks (.ag a) (.ag b) κ' = br (or' (anyL a) (anyL b)) (laQ ks a b κ') (eqTs ks a b κ') := fun _ => rfl
    have tell : ∀ (a b : List AV) (κ : Bool → R), eqTs ks a b κ = true → ∃ c, (∀ κ', eqTs ks a b κ' = κ' c) ∧ ∀ θ, Oks θ a → Oks θ b → ∀ w, (Op.equal t (.agg (toVs θ a).toArray) (.agg (toVs θ b).toArray)).run P w = .ok c w := by
      intro a b κ e2
      have e3 : eqTs ks (a.drop 0) (b.drop 0) κ = true := e2
      obtain ⟨c, k1, k3⟩ := eqs_fields2 h e3
      refine ⟨c, k1, fun θ ha hb w => ?_⟩
      have hf : P.fieldsOf t = fs := by unfold Program.fieldsOf; rw [hu]
      have := run_equalIn_struct (P := P) w 9999 t (toVs θ a).toArray (toVs θ b).toArray (by rw [hf]; exact hu) (by simpa using hst)
      rw [hf, k3 θ ha hb 9997 w] at this
      exact this
    rcases br_true e2 with ⟨hl, e3⟩ | ⟨hl, e3⟩
    · obtain ⟨c, c1, c2⟩ := laQ_true e3
      refine ⟨c, fun κ' => by rw [hdef, hl, br_tt, c1], fun θ u v hu' hv' => ?_⟩
      obtain ⟨hu', ha, _⟩ := hu'.ag
      obtain ⟨hv', hb, _⟩ := hv'.ag
      subst hu' hv'
      refine ⟨fun w => ?_, fun op X Y w => run_eqGuard_agg w op t X Y _ _ (by simpa using hguard)⟩
      obtain ⟨a', b', q1, q2, q3, q4, q5⟩ := c2 θ ha hb
      obtain ⟨r, r1, r3⟩ := tell a' b' (fun _ => true) (q5 _)
      have hrc : r = c := by
        have h1 := r1 (fun q => q)
        have h2 := q5 (fun q => q)
        exact h1.symm.trans h2
      rw [← q1, ← q2, ← hrc]
      exact r3 θ q3 q4 w
    · obtain ⟨c, k1, k3⟩ := tell a b κ e3
      refine ⟨c, fun κ' => by rw [hdef, hl, br_ff, k1], fun θ u v hu' hv' => ?_⟩
      obtain ⟨hu', ha, _⟩ := hu'.ag
      obtain ⟨hv', hb, _⟩ := hv'.ag
      subst hu' hv'
      exact ⟨fun w => k3 θ ha hb w, fun op X Y w => run_eqGuard_agg w op t X Y _ _ (by simpa using hguard)⟩
theorem kyT_ok {t : TypeId} {g : Bool} {ks : List Nat} (h : flatT P t = some (g, ks)) {x : AV} {κ : R} (e : kyT g ks x κ = true) :
    κ = true ∧ (∀ κ', kyT g ks x κ' = κ') ∧ ∀ θ u, VR θ x u → ∀ em w, (Instr.checkKey em 10000 t u).run P w = .ok () w := by
  rcases flatT_some h with ⟨rfl, c, rfl, hc⟩ | ⟨rfl, hguard, hrest⟩
  · refine ⟨e, fun _ => rfl, fun θ u hu em w => ?_⟩
    obtain ⟨dd, hd, hk⟩ := flatC_some hc
    have key : ∀ n : Nat, (Instr.checkKey em (n + 1) t u).run P w = .ok () w := fun n => by
      rcases hk with ⟨k, rfl, _⟩ | ⟨rfl, _⟩ | ⟨rfl, _⟩ <;> simp [Instr.checkKey, run_underlying hd]
    exact key 9999
  · obtain ⟨a, rfl, e1⟩ := asAg_true (show asAg (fun a => eqTs ks a a fun c => br c κ false) x = true from e)
    obtain ⟨hl, hκ⟩ := eqTs_len e1
    refine ⟨hκ, fun κ' => eqTs_refl_go e1 κ', fun θ u hu em w => ?_⟩
    obtain ⟨hu, ho, h1⟩ := hu.ag
    subst hu
    have h1 : ∀ v ∈ a, one v = true := fun v hv => List.all_eq_true.1 h1 v hv
    rcases hrest with ⟨fs, hu, hst, hks⟩ | ⟨n, el, c, hu, hs, hc, rfl⟩
    · have := check_fields (l := a) hks (by omega) h1 θ ho em 9998 w
      show (Instr.checkKey em (9999 + 1) t _).run P w = _
      rw [Instr.checkKey]
      simp only [Sem.run_bind, run_underlying hu, Result.andThen_ok]
      rw [← Array.forIn_toList]
      rw [this]
      rfl
    · show (Instr.checkKey em (9999 + 1) t _).run P w = _
      rw [Instr.checkKey]
      simp only [Sem.run_bind, run_underlying hu, Result.andThen_ok, run_size hs, Nat.mul_one, Std.Legacy.Range.forIn_eq_forIn_range', Std.Legacy.Range.size, Nat.sub_zero, Nat.add_one_sub_one, Nat.div_one]
      rw [List.length_replicate] at hl
      obtain ⟨dd, hd, hk⟩ := flatC_some hc
      have hck : ∀ (v : Value) (w : World), (Instr.checkKey em 9999 el v).run P w = .ok () w := fun v w => by
        have key : ∀ n : Nat, (Instr.checkKey em (n + 1) el v).run P w = .ok () w := fun n => by
          rcases hk with ⟨k, rfl, _⟩ | ⟨rfl, _⟩ | ⟨rfl, _⟩ <;> simp [Instr.checkKey, run_underlying hd]
        exact key 9998
      have key : ∀ (m i : Nat), i + m = n → (forIn (m := Sem) (List.range' i m) PUnit.unit fun i _ => do Instr.checkKey em 9999 el (← part el (toVs θ a).toArray (i * (← sizeOf el))); pure (ForInStep.yield PUnit.unit)).run P w = .ok PUnit.unit w := by
        intro m
        induction m with
        | zero => intro i _; rfl
        | succ m ih =>
          intro i hi
          have hx : a[i]? = some (a[i]'(by omega)) := List.getElem?_eq_getElem (by omega)
          have hp := part_cell hc (cs := (toVs θ a).toArray) (i := i) (v := toV θ (a[i]'(by omega))) (by simp [toVs_get, hx]) w
          rw [List.range'_succ, List.forIn_cons]
          simp only [Sem.run_bind, run_size hs, Nat.mul_one, hp, Result.andThen, hck, Sem.run_pure]
          exact ih (i + 1) (by omega)
      have := key n 0 (by omega)
      rw [this]
      rfl
end
end Go.AM
