/-
  AM, 10: parts laid together, the least and the greatest, values compared. Conditions: none.
-/
import Derived.Test.YtmhhaimpignndaaGreatAmH
namespace Go.AM
open Go

theorem fold_set (vs : List Value) : ∀ (off i : Nat) (cells : Array Value), off + i + vs.length ≤ cells.size →
    ((vs.zipIdx i).foldl (fun cs x => cs.setIfInBounds (off + x.2) x.1) cells).toList = cells.toList.take (off + i) ++ vs ++ cells.toList.drop (off + i + vs.length) := by
  induction vs with
  | nil => intro off i cells _; simp
  | cons v r ih =>
    intro off i cells h
    simp only [List.length_cons] at h
    rw [List.zipIdx_cons, List.foldl_cons, ih off (i + 1) _ (by simp; omega)]
    have ho : off + i < cells.toList.length := by simp; omega
    rw [Array.toList_setIfInBounds, show off + (i + 1) = off + i + 1 by omega, List.take_succ_eq_append_getElem (by simpa using ho)]
    simp only [List.length_cons]
    rw [List.take_set_of_le (Nat.le_refl _), List.getElem_set_self, List.drop_set_of_lt (by omega), show off + i + 1 + r.length = off + i + (r.length + 1) by omega]
    simp
theorem fill_step (place : Nat → Option (Nat × Nat)) (cells : Array Value) (i off size : Nat) (v : Value) (rest : List (Nat × Value)) (hp : place i = some (off, size)) (hv : v.cells.size = size) (hl : off + size ≤ cells.size) :
    ∃ cells', Instr.fill place cells ((i, v) :: rest) = Instr.fill place cells' rest ∧ cells'.toList = cells.toList.take off ++ v.cells.toList ++ cells.toList.drop (off + v.cells.toList.length) := by
  have hf := fold_set v.cells.toList off 0 cells (by simp; omega)
  have heq : (v.cells.zipIdx.foldl (fun cs x => cs.setIfInBounds (off + x.2) x.1) cells) = ((v.cells.toList.zipIdx 0).foldl (fun cs x => cs.setIfInBounds (off + x.2) x.1) cells) := by
    rw [← Array.foldl_toList, Array.toList_zipIdx]
  refine ⟨v.cells.zipIdx.foldl (fun cs x => cs.setIfInBounds (off + x.2) x.1) cells, ?_, ?_⟩
  · have h1 : ¬ (v.cells.size ≠ size || off + v.cells.size > cells.size) = true := by simp [hv]; omega
    simp only [Instr.fill, hp]
    rw [if_neg h1]
  · rw [heq, hf]; simp
theorem fill_ok {place place' : Nat → Option (Nat × Nat)} (hpl : ∀ i r, place i = some r → place' i = some r) :
    ∀ {ps : List (Nat × Operand)} {pts : List Pt} {en : Env} {z : List AV} {κ : List AV → R}, parts place ps = some pts → dP pts en z κ = true →
      ∃ l, (∀ κ', dP pts en z κ' = κ' l) ∧ l.length = z.length ∧ ∀ θ (a : Act), ER θ en a.tmps → Oks θ z → z.all one = true →
        Oks θ l ∧ l.all one = true ∧ Instr.fill place' (toVs θ z).toArray (ps.map fun q => (q.1, a.eval q.2)) = some (toVs θ l).toArray
  | [], pts, en, z, κ, hp, e => by
    cases hp
    exact ⟨z, fun _ => rfl, rfl, fun θ a _ h1 h2 => ⟨h1, h2, rfl⟩⟩
  | (i, Y) :: ps, pts, en, z, κ, hp, e => by
    unfold parts omap at hp
    split at hp
    · rename_i pt r hpt hr
      injection hp with hp; subst hp
      split at hpt
      · rename_i off size x hplace hx
        injection hpt with hpt; subst hpt
        obtain ⟨v, hv, hvr⟩ := x_ok hx en
        have e : dX x en (cellsK fun vs => br (Nat.beq (lenN AV vs) size) (putLK vs off z fun l => dP r en l κ) false) = true := e
        rw [hv] at e
        obtain ⟨hc, e1, hcr⟩ := cellsK_true e
        obtain ⟨hs, e2⟩ := br_t e1
        have hs' : (cellsV v).length = size := by rw [← lenN_eq]; exact Nat.eq_of_beq_eq_true hs
        rw [putLK_eq] at e2
        split at e2
        · rename_i hle
          obtain ⟨l, k1, k2, k3⟩ := fill_ok hpl hr e2
          refine ⟨l, fun κ' => ?_, ?_, fun θ a hE hz hz1 => ?_⟩
          · show dX x en (cellsK fun vs => br (Nat.beq (lenN AV vs) size) (putLK vs off z fun l => dP r en l κ') false) = _
            rw [hv, hc, hs]
            show putLK (cellsV v) off z (fun l => dP r en l κ') = _
            rw [putLK_eq, if_pos hle]
            exact k1 κ'
          · rw [k2]; simp; omega
          · obtain ⟨q1, q2, q3⟩ := hcr (hvr θ a hE)
            obtain ⟨k4, k5, k6⟩ := k3 θ a hE (Oks_append.2 ⟨Oks_append.2 ⟨Oks_take _ hz, q1⟩, Oks_drop _ hz⟩) (by simp only [List.all_append, all_take _ hz1, q2, all_drop _ hz1, Bool.and_self])
            refine ⟨k4, k5, ?_⟩
            have hn : (a.eval Y).cells.size = size := by rw [← Array.length_toList, q3, toVs_length]; exact hs'
            obtain ⟨cs, f1, f2⟩ := fill_step place' (toVs θ z).toArray i off size (a.eval Y) (ps.map fun q => (q.1, a.eval q.2)) (hpl i _ hplace) hn (by simp; omega)
            rw [List.map_cons, f1, ← k6]
            congr 1
            apply Array.ext'
            rw [f2, q3]
            simp [toVs_map, List.map_take, List.map_drop]
        · cases e2
      · cases hpt
    · cases hp

section ops
variable {P : Program} {o : Oper} {x y : XF} {X Y : Operand}
theorem places_ok : ∀ (fs : List Field) (w : World), fs.all (fun f => (sizeT P f.type).isSome) = true →
    (fs.mapM (fun f : Field => do pure (f.offset, ← sizeOf f.type)) : Sem (List (Nat × Nat))).run P w = .ok (fs.map fun f : Field => (f.offset, (sizeT P f.type).getD 0)) w
  | [], w, _ => rfl
  | f :: fs, w, h => by
    simp only [List.all_cons, Bool.and_eq_true] at h
    obtain ⟨k, hk⟩ := Option.isSome_iff_exists.1 h.1
    have ih := places_ok fs w h.2
    rw [List.mapM_cons]
    simp only [Sem.run_bind, run_size hk, Result.andThen, Sem.run_pure, ih, List.map_cons, hk, Option.getD_some]
theorem p_blds {t : TypeId} {fs : Array Field} {ps : Array (Nat × Operand)} {pts : List Pt} {z : List AV} (hu : P.underlying t = some (.struct fs)) (hz : zeroT P t = some z) (hs : fs.toList.all (fun f => (sizeT P f.type).isSome) = true)
    (hp : parts (fun i => match fs[i]? with | some f => (sizeT P f.type).map (fun s => (f.offset, s)) | none => none) ps.toList = some pts) (ho : o.op = .build t ps) : PureOk P o (oBld z (dP pts)) := by
  intro en h nx κ e
  obtain ⟨ti, zv, i1, i2, i3, i4⟩ := zeroT_some hz
  have hag : ∀ (i : Nat) (r : Nat × Nat), (match fs[i]? with | some f => (sizeT P f.type).map (fun s => (f.offset, s)) | none => none) = some r → ((fs.toList.map fun f : Field => (f.offset, (sizeT P f.type).getD 0)).toArray[i]?) = some r := by
    intro i r hr
    split at hr
    · rename_i f hf
      obtain ⟨k, k1, k2⟩ := Option.map_eq_some_iff.1 hr
      subst k2
      simp [hf, k1]
    · cases hr
  obtain ⟨l, k1, k2, k3⟩ := fill_ok (place' := ((fs.toList.map fun f : Field => (f.offset, (sizeT P f.type).getD 0)).toArray[·]?)) hag hp e
  refine ⟨.ag l, fun h' nx' κ' => k1 _, fun θ a w hE => ⟨.agg (toVs θ l).toArray, ⟨⟨(k3 θ a hE (i4 θ).1 i3).1, (k3 θ a hE (i4 θ).1 i3).2.1⟩, rfl⟩, ?_⟩⟩
  have hfill := (k3 θ a hE (i4 θ).1 i3).2.2
  have hm : (fs.mapM (fun f : Field => do pure (f.offset, ← sizeOf f.type)) : Sem (Array (Nat × Nat))).run P w = .ok (fs.toList.map fun f : Field => (f.offset, (sizeT P f.type).getD 0)).toArray w := by
    rw [Array.mapM_eq_mapM_toList]
    simp only [Sem.run_map, places_ok fs.toList w hs, Result.andThen]
  have hps : (ps.map fun (i, x) => (i, a.eval x)).toList = ps.toList.map fun q => (q.1, a.eval q.2) := by simp
  simp only [execOp, ho, Instr.build, zeroValue, typeInfo, Sem.run_bind, run_program, i1, i2, Result.andThen, Sem.run_pure, run_underlying hu, hm, hps, (i4 θ).2, hfill]
theorem p_blda {t el : TypeId} {n s : Nat} {ps : Array (Nat × Operand)} {pts : List Pt} {z : List AV} (hu : P.underlying t = some (.array n el)) (hz : zeroT P t = some z) (hs : sizeT P el = some s)
    (hp : parts (fun i => (sizeT P el).map (fun s => (i * s, s))) ps.toList = some pts) (ho : o.op = .build t ps) : PureOk P o (oBld z (dP pts)) := by
  intro en h nx κ e
  obtain ⟨ti, zv, i1, i2, i3, i4⟩ := zeroT_some hz
  obtain ⟨l, k1, k2, k3⟩ := fill_ok (place' := fun i => some (i * s, s)) (fun i r hr => by rw [hs] at hr; exact hr) hp e
  refine ⟨.ag l, fun h' nx' κ' => k1 _, fun θ a w hE => ⟨.agg (toVs θ l).toArray, ⟨⟨(k3 θ a hE (i4 θ).1 i3).1, (k3 θ a hE (i4 θ).1 i3).2.1⟩, rfl⟩, ?_⟩⟩
  have hfill := (k3 θ a hE (i4 θ).1 i3).2.2
  have hps : (ps.map fun (i, x) => (i, a.eval x)).toList = ps.toList.map fun q => (q.1, a.eval q.2) := by simp
  simp only [execOp, ho, Instr.build, zeroValue, typeInfo, Sem.run_bind, run_program, i1, i2, Result.andThen, Sem.run_pure, run_underlying hu, run_size hs, hps, (i4 θ).2, hfill]

/-! ### The least, the greatest -/
theorem mm_ok {mx : Bool} : ∀ {vs : List AV} {a : AV} {κ : AV → R}, mmK mx vs a κ = true → ∃ r, (∀ κ', mmK mx vs a κ' = κ' r) ∧ ∀ θ u, VR θ a u → Oks θ vs →
    ∃ u', VR θ r u' ∧ ∀ w, ((toVs θ vs).foldlM (if mx then Builtin.max2 else Builtin.min2) u).run P w = .ok u' w
  | [], a, κ, e => ⟨a, fun _ => rfl, fun θ u hu _ => ⟨u, hu, fun w => rfl⟩⟩
  | v :: vs, a, κ, e => by
    have step : ∀ κ, mmK mx (v :: vs) a κ = asI (fun k x => asI (fun _ y => @Bool.rec (fun _ => R)
      (cmLt y x fun c => br c (mmK mx vs (.i k y) κ) (mmK mx vs (.i k x) κ)) (cmLt x y fun c => br c (mmK mx vs (.i k y) κ) (mmK mx vs (.i k x) κ)) mx) v) a := fun _ => rfl
    rw [step] at e
    obtain ⟨k, x, rfl, e1⟩ := asI_true e
    obtain ⟨k2, y, rfl, e2⟩ := asI_true e1
    have go : ∀ z : Int, (∀ κ, mmK mx (.i k2 y :: vs) (.i k x) κ = mmK mx vs (.i k z) κ) → (∀ w, ((if mx then Builtin.max2 else Builtin.min2) (.int (kindOf k) x) (.int (kindOf k2) y)).run P w = .ok (.int (kindOf k) z) w) →
        mmK mx vs (.i k z) κ = true → ∃ r, (∀ κ', mmK mx (.i k2 y :: vs) (.i k x) κ' = κ' r) ∧ ∀ θ u, VR θ (.i k x) u → Oks θ (.i k2 y :: vs) → ∃ u', VR θ r u' ∧ ∀ w, ((toVs θ (.i k2 y :: vs)).foldlM (if mx then Builtin.max2 else Builtin.min2) u).run P w = .ok u' w := by
      intro z h1 h2 h3
      obtain ⟨r, q1, q2⟩ := mm_ok h3
      refine ⟨r, fun κ' => by rw [h1, q1], fun θ u hu hv => ?_⟩
      obtain ⟨u', w1, w2⟩ := q2 θ _ (vr_i θ k z) hv.2
      refine ⟨u', w1, fun w => ?_⟩
      have hu := hu.i
      subst hu
      simp only [toVs, toV, List.foldlM_cons, Sem.run_bind, h2, Result.andThen, w2]
    cases mx with
    | true =>
      simp only [cmLt_eq] at e2
      by_cases hc : x < y
      · refine go y (fun κ => ?_) (fun w => by simp [Builtin.max2, hc]) (by rw [decide_eq_true hc] at e2; exact e2)
        rw [step]
        show cmLt x y _ = _
        rw [cmLt_eq, decide_eq_true hc]
      · refine go x (fun κ => ?_) (fun w => by simp [Builtin.max2, hc]) (by rw [decide_eq_false hc] at e2; exact e2)
        rw [step]
        show cmLt x y _ = _
        rw [cmLt_eq, decide_eq_false hc]
    | false =>
      simp only [cmLt_eq] at e2
      by_cases hc : y < x
      · refine go y (fun κ => ?_) (fun w => by simp [Builtin.min2, hc]) (by rw [decide_eq_true hc] at e2; exact e2)
        rw [step]
        show cmLt y x _ = _
        rw [cmLt_eq, decide_eq_true hc]
      · refine go x (fun κ => ?_) (fun w => by simp [Builtin.min2, hc]) (by rw [decide_eq_false hc] at e2; exact e2)
        rw [step]
        show cmLt y x _ = _
        rw [cmLt_eq, decide_eq_false hc]
theorem p_mm {mx : Bool} {xs : XsF} {c : Call} (hx : XsOk xs c.args.toList) (hc : c.callee = .builtin (if mx then .max else .min)) (ho : o.op = .call c) : PureOk P o (oMm mx xs) := by
  intro en h nx κ e
  obtain ⟨vs, hv, hlen, hr⟩ := hx en
  simp only [oMm, hv] at e
  cases vs with
  | nil => cases e
  | cons v vs =>
    obtain ⟨r, q1, q2⟩ := mm_ok (P := P) e
    refine ⟨r, fun h' nx' κ' => by simp only [oMm, hv]; exact q1 _, fun θ a w hE => ?_⟩
    obtain ⟨h1, h2⟩ := hr θ a hE
    obtain ⟨u', w1, w2⟩ := q2 θ (toV θ v) ⟨h1.1, rfl⟩ h1.2
    refine ⟨u', w1, ?_⟩
    have hargs : (c.args.map a.eval).toList = toV θ v :: toVs θ vs := by rw [Array.toList_map, h2]; rfl
    have w2 := w2 w
    cases mx <;> simp only [if_true, if_false, Bool.false_eq_true] at w2 hc <;>
      simp only [execOp, ho, resolve, hc, Sem.run_bind, Sem.run_pure, Result.andThen, invoke, builtin, Builtin.max_, Builtin.min_, hargs, w2]

/-! ### Values compared -/
theorem kn_kind {k : Nat} (h : k < 8) : kn (kindOf k) = k := by
  rcases k with _ | _ | _ | _ | _ | _ | _ | _ | k <;> first | rfl | omega
theorem kn_lt (k : IntKind) : kn k < 8 := by cases k <;> decide
theorem eqK_true {c : Nat} {x y : AV} {κ : Bool → R} (e : eqK c x y κ = true) : ∃ r, (∀ κ', eqK c x y κ' = κ' r) ∧
    ((c < 8 ∧ one x = true ∧ one y = true ∧ ∀ θ u v, VR θ x u → VR θ y v → ∃ m n : Int, u = .int (kindOf c) m ∧ v = .int (kindOf c) n ∧ r = (m == n)) ∨ (c = 8 ∧ one x = true ∧ one y = true ∧ ∀ θ u v, VR θ x u → VR θ y v → ∃ a b, u = .string a ∧ v = .string b ∧ (a == b) = r ∧ (b == a) = r) ∨ (c ≠ 8 ∧ 8 ≤ c ∧ ∃ a b, x = .b a ∧ y = .b b ∧ r = (a == b))) := by
  unfold eqK at e
  rcases br_true e with ⟨h1, e1⟩ | ⟨h1, e1⟩
  · have h1' : c < 8 := by simpa [Nat.blt_eq] using h1
    rcases br_true e1 with ⟨h2, e1⟩ | ⟨h2, e1⟩
    · obtain ⟨r, k1, _, k3⟩ := laEq_true e1
      have h1x : ∀ {v : AV} {κ : Nat → R}, lnK c v κ = true → one v = true := by
        intro v κ e
        cases v <;> first | rfl | cases e
      obtain ⟨_, a1, e2, _⟩ := lnK_true e1
      refine ⟨r, fun κ' => ?_, .inl ⟨h1', h1x e1, h1x e2, fun θ u v hu hv => ?_⟩⟩
      · unfold eqK
        rw [h1, h2]
        exact k1 κ'
      · obtain ⟨a, b, u1, u2, u3⟩ := k3 θ u v hu hv
        refine ⟨a, b, u1, u2, ?_⟩
        rw [u3]
        by_cases hab : a = b
        · subst hab; simp
        · have : ¬ (a : Int) = (b : Int) := by omega
          rw [beq_false_of_ne hab, beq_false_of_ne this]
    obtain ⟨m, rfl, e2⟩ := asK_true e1
    obtain ⟨n, rfl, e3⟩ := asK_true e2
    refine ⟨m == n, fun κ' => ?_, .inl ⟨h1', rfl, rfl, fun θ u v hu hv => ⟨m, n, hu.i, hv.i, rfl⟩⟩⟩
    unfold eqK
    rw [h1]
    show asK c (fun a => asK c (fun b => cmEq a b κ') (.i c n)) (.i c m) = _
    rw [asK_i, asK_i, cmEq_eq]
  · have h1' : ¬ c < 8 := fun h => by rw [show Nat.blt c 8 = true by simpa [Nat.blt_eq] using h] at h1; cases h1
    rcases br_true e1 with ⟨h2, e2⟩ | ⟨h2, e2⟩
    · have h2' := Nat.eq_of_beq_eq_true h2
      obtain ⟨r, k1, _, k2, k3, k4⟩ := asSQ_true e2
      refine ⟨r, fun κ' => ?_, .inr (.inl ⟨h2', k2, k3, k4⟩)⟩
      unfold eqK
      rw [h1, h2]; exact k1 κ'
    · have h2' : c ≠ 8 := fun h => by subst h; cases h2
      obtain ⟨a, rfl, e3⟩ := asB_true e2
      obtain ⟨b, rfl, e4⟩ := asB_true e3
      refine ⟨a == b, fun κ' => ?_, .inr (.inr ⟨h2', by omega, a, b, rfl, rfl, rfl⟩)⟩
      unfold eqK
      rw [h1, h2]
      show κ' (eqB a b) = _
      rw [eqB_eq]
theorem flatC_some {t : TypeId} {c : Nat} (h : flatC P t = some c) : ∃ d, P.underlying t = some d ∧ ((∃ k, d = .int k ∧ c = kn k) ∨ (d = .string ∧ c = 8) ∨ (d = .bool ∧ c = 9)) := by
  unfold flatC at h
  split at h
  · rename_i k hu; injection h with h; exact ⟨_, hu, .inl ⟨k, rfl, h.symm⟩⟩
  · rename_i hu; injection h with h; exact ⟨_, hu, .inr (.inl ⟨rfl, h.symm⟩)⟩
  · rename_i hu; injection h with h; exact ⟨_, hu, .inr (.inr ⟨rfl, h.symm⟩)⟩
  · cases h
/-- one cell -/
theorem cell_eq {t : TypeId} {c : Nat} {x y : AV} {κ : Bool → R} (hc : flatC P t = some c) (e : eqK c x y κ = true) : ∃ r, (∀ κ', eqK c x y κ' = κ' r) ∧ one x = true ∧ one y = true ∧
    ∀ θ u v, VR θ x u → VR θ y v → (∀ d w, (Op.equalIn (d + 1) t u v).run P w = .ok r w) ∧ (r = true → ∀ n, Instr.sameBits n v u = true) ∧ (∀ d, P.underlying t = some d → Instr.sameNow d u v = some r) ∧
      (∀ e n w, (Instr.checkKey e (n + 1) t u).run P w = .ok () w) ∧ ∀ op X Y w, (eqGuard op t X Y u v).run P w = .ok () w := by
  obtain ⟨r, h1, h2⟩ := eqK_true e
  obtain ⟨d, hd, hk⟩ := flatC_some hc
  have hguard : ∀ {θ : Th} {u v : Value} {a : Value}, (u = a) → (∀ l, a ≠ .agg l) → a ≠ .nilIface → ∀ op X Y w, (eqGuard op t X Y u v).run P w = .ok () w := by
    intro θ u v a hu ha hn op X Y w
    subst hu
    unfold eqGuard
    cases op <;> (try rfl) <;> (cases u <;> first | rfl | exact absurd rfl hn | exact absurd rfl (ha _))
  rcases h2 with ⟨hlt, hone, hone', hab⟩ | ⟨rfl, hone, hone', hab⟩ | ⟨hn8, hle, a, b, rfl, rfl, rfl⟩
  · rcases hk with ⟨k, rfl, hck⟩ | ⟨rfl, hck⟩ | ⟨rfl, hck⟩
    · subst hck
      refine ⟨_, h1, hone, hone', fun θ u v hu hv => ?_⟩
      obtain ⟨m, n, hu, hv, hr⟩ := hab θ u v hu hv
      rw [kind_kn] at hu hv
      subst hu hv hr
      refine ⟨fun d w => by simp [Op.equalIn, run_underlying hd], fun hr n => ?_, fun d' hd' => ?_, fun e n w => by simp [Instr.checkKey, run_underlying hd], fun op X Y w => by cases op <;> rfl⟩
      · have : m = ‹_› := by simpa using hr
        subst this
        cases n <;> simp [Instr.sameBits]
      · rw [hd] at hd'; injection hd' with hd'; subst hd'; simp [Instr.sameNow]
    · omega
    · omega
  · rcases hk with ⟨k, rfl, hck⟩ | ⟨rfl, _⟩ | ⟨rfl, hck⟩
    · have := kn_lt k; omega
    · refine ⟨_, h1, hone, hone', fun θ u v hu hv => ?_⟩
      obtain ⟨a, b, hu, hv, hb, hb'⟩ := hab θ u v hu hv
      subst hu hv
      refine ⟨fun d w => by simp [Op.equalIn, run_underlying hd, hb], fun hr n => ?_, fun d' hd' => ?_, fun e n w => by simp [Instr.checkKey, run_underlying hd], fun op X Y w => by cases op <;> rfl⟩
      · subst hr
        cases n <;> simp [Instr.sameBits, hb']
      · rw [hd] at hd'; injection hd' with hd'; subst hd'; simp [Instr.sameNow, hb]
    · omega
  · rcases hk with ⟨k, rfl, hck⟩ | ⟨rfl, hck⟩ | ⟨rfl, hck⟩
    · have := kn_lt k; omega
    · omega
    · refine ⟨_, h1, rfl, rfl, fun θ u v hu hv => ?_⟩
      have hu := hu.b
      have hv := hv.b
      subst hu hv
      refine ⟨fun d w => by simp [Op.equalIn, run_underlying hd], fun hr n => ?_, fun d' hd' => ?_, fun e n w => by simp [Instr.checkKey, run_underlying hd], fun op X Y w => by cases op <;> rfl⟩
      · have : a = b := by simpa using hr
        subst this
        cases n <;> simp [Instr.sameBits]
      · rw [hd] at hd'; injection hd' with hd'; subst hd'; simp [Instr.sameNow]
end ops
end Go.AM
