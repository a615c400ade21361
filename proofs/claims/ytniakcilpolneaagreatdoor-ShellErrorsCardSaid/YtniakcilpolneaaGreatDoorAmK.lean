/-
  AM, 12: maps: keys found; operations that read. Conditions: none.
-/
import Derived.Test.YtniakcilpolneaaGreatDoorAmI
import Derived.Laws.BytesString
namespace Go.AM
open Go

/-! ### Keys found -/
def Hit (q : QF) (k : AV) : List ME → Option Nat → Prop
  | [], r => r = none
  | .mk k' _ _ :: es, r => ∃ c, (∀ κ, q k k' κ = κ c) ∧ ((c = true ∧ r = some 0) ∨ (c = false ∧ ∃ r', Hit q k es r' ∧ r = r'.map (· + 1)))
noncomputable def vat (es : List ME) (i : Nat) : AV := match es[i]? with | some (.mk _ v _) => v | none => undef
def bat (es : List ME) (i : Nat) : Nat := match es[i]? with | some (.mk _ _ b) => b | none => 0
def Det (q : QF) : Prop := ∀ x y κ, q x y κ = true → ∃ c, ∀ κ', q x y κ' = κ' c
theorem Hit.lt {q : QF} {k : AV} : ∀ {es : List ME} {r : Option Nat}, Hit q k es r → ∀ i, r = some i → i < es.length
  | [], r, h, i, hi => by rw [show r = none from h] at hi; cases hi
  | .mk k' _ _ :: es, r, h, i, hi => by
    obtain ⟨c, _, ⟨_, h2⟩ | ⟨_, r', h3, h4⟩⟩ := h
    · rw [h2] at hi; injection hi with hi; subst hi; simp
    · rw [h4] at hi
      obtain ⟨j, hj, rfl⟩ := Option.map_eq_some_iff.1 hi
      have := Hit.lt h3 j hj
      simp; omega
theorem fndK_true {q : QF} (hq : Det q) {k : AV} : ∀ {es : List ME} {nf : R} {κ : AV → R}, fndK q k es nf κ = true →
    ∃ r, Hit q k es r ∧ ∀ nf' κ', fndK q k es nf' κ' = match r with | none => nf' | some i => κ' (vat es i)
  | [], nf, κ, e => ⟨none, rfl, fun _ _ => rfl⟩
  | .mk k' v b :: es, nf, κ, e => by
    have e : q k k' (fun c => br c (κ v) (fndK q k es nf κ)) = true := e
    obtain ⟨c, hc⟩ := hq _ _ _ e
    rw [hc] at e
    cases c with
    | true => exact ⟨some 0, ⟨true, hc, .inl ⟨rfl, rfl⟩⟩, fun nf' κ' => (hc _).trans rfl⟩
    | false =>
      obtain ⟨r, h1, h2⟩ := fndK_true hq (show fndK q k es nf κ = true from e)
      refine ⟨r.map (· + 1), ⟨false, hc, .inr ⟨rfl, r, h1, rfl⟩⟩, fun nf' κ' => (hc _).trans ((h2 nf' κ').trans ?_)⟩
      cases r <;> rfl
def setE (k v : AV) : List ME → Nat → List ME
  | [], _ => []
  | .mk _ _ b :: es, 0 => .mk k v b :: es
  | e :: es, i + 1 => e :: setE k v es i
theorem updK_true {q : QF} (hq : Det q) {k v : AV} : ∀ {es : List ME} {nf : R} {κ : List ME → R}, updK q k v es nf κ = true →
    ∃ r, Hit q k es r ∧ ∀ nf' κ', updK q k v es nf' κ' = match r with | none => nf' | some i => κ' (setE k v es i)
  | [], nf, κ, e => ⟨none, rfl, fun _ _ => rfl⟩
  | .mk k' v' b :: es, nf, κ, e => by
    have e : q k k' (fun c => br c (κ (.mk k v b :: es)) (updK q k v es nf fun r => κ (.mk k' v' b :: r))) = true := e
    obtain ⟨c, hc⟩ := hq _ _ _ e
    rw [hc] at e
    cases c with
    | true => exact ⟨some 0, ⟨true, hc, .inl ⟨rfl, rfl⟩⟩, fun nf' κ' => (hc _).trans rfl⟩
    | false =>
      obtain ⟨r, h1, h2⟩ := updK_true hq (show updK q k v es nf _ = true from e)
      refine ⟨r.map (· + 1), ⟨false, hc, .inr ⟨rfl, r, h1, rfl⟩⟩, fun nf' κ' => (hc _).trans ((h2 nf' _).trans ?_)⟩
      cases r <;> rfl
def setKy (k : AV) : List ME → Nat → List ME
  | [], _ => []
  | .mk _ v b :: es, 0 => .mk k v b :: es
  | e :: es, i + 1 => e :: setKy k es i
theorem entK_true {q : QF} (hq : Det q) {k : AV} : ∀ {es : List ME} {nf : R} {κ : List ME → AV → Nat → R}, entK q k es nf κ = true →
    ∃ r, Hit q k es r ∧ ∀ nf' κ', entK q k es nf' κ' = match r with | none => nf' | some i => κ' (setKy k es i) (vat es i) (bat es i)
  | [], nf, κ, e => ⟨none, rfl, fun _ _ => rfl⟩
  | .mk k' v' b :: es, nf, κ, e => by
    have e : q k k' (fun c => br c (κ (.mk k v' b :: es) v' b) (entK q k es nf fun r v b' => κ (.mk k' v' b :: r) v b')) = true := e
    obtain ⟨c, hc⟩ := hq _ _ _ e
    rw [hc] at e
    cases c with
    | true => exact ⟨some 0, ⟨true, hc, .inl ⟨rfl, rfl⟩⟩, fun nf' κ' => (hc _).trans rfl⟩
    | false =>
      obtain ⟨r, h1, h2⟩ := entK_true hq (show entK q k es nf _ = true from e)
      refine ⟨r.map (· + 1), ⟨false, hc, .inr ⟨rfl, r, h1, rfl⟩⟩, fun nf' κ' => (hc _).trans ((h2 nf' _).trans ?_)⟩
      cases r <;> rfl
theorem delK_true {q : QF} (hq : Det q) {k : AV} : ∀ {es : List ME} {κ : List ME → R}, delK q k es κ = true →
    ∃ r, Hit q k es r ∧ ∀ κ', delK q k es κ' = match r with | none => κ' es | some i => κ' (es.eraseIdx i)
  | [], κ, e => ⟨none, rfl, fun _ => rfl⟩
  | .mk k' v' b :: es, κ, e => by
    have e : q k k' (fun c => br c (κ es) (delK q k es fun r => κ (.mk k' v' b :: r))) = true := e
    obtain ⟨c, hc⟩ := hq _ _ _ e
    rw [hc] at e
    cases c with
    | true => exact ⟨some 0, ⟨true, hc, .inl ⟨rfl, rfl⟩⟩, fun κ' => (hc _).trans rfl⟩
    | false =>
      obtain ⟨r, h1, h2⟩ := delK_true hq (show delK q k es _ = true from e)
      refine ⟨r.map (· + 1), ⟨false, hc, .inr ⟨rfl, r, h1, rfl⟩⟩, fun κ' => (hc _).trans ((h2 _).trans ?_)⟩
      cases r <;> rfl

section
variable {P : Program} {o : Oper} {x y : XF} {X Y : Operand}
/-- the key that was found is the model's -/
theorem find_hit {kt : TypeId} {g : Bool} {ks : List Nat} (hf : flatT P kt = some (g, ks)) {k : AV} {es : List ME} {r : Option Nat} (h : Hit (eqT g ks) k es r) {θ : Th} {u : Value} (hu : VR θ k u) (hes : ∀ e ∈ es, meOk θ e) (w : World) :
    (Instr.findKey kt u (es.map (meV θ))).run P w = .ok (r.map fun i => (i, toV θ (vat es i))) w ∧ ∀ i, r = some i → ∃ e, es[i]? = some e ∧ Instr.sameBits 10000 (meV θ e).key u = true := by
  have det : ∀ k', (∃ c, ∀ κ, eqT g ks k k' κ = κ c) → Ok θ k' → ∃ c, (∀ κ, eqT g ks k k' κ = κ c) ∧ (∀ w, (Op.equal kt u (toV θ k')).run P w = .ok c w) ∧ (c = true → Instr.sameBits 10000 (toV θ k') u = true) ∧
      ∀ d, P.underlying kt = some d → Instr.sameNow d u (toV θ k') = (if g then none else some c) := by
    rintro k' ⟨c, hc⟩ hok
    have e : eqT g ks k k' (fun c' => decide (c' = c)) = true := by rw [hc]; simp
    obtain ⟨c', h1, h2⟩ := eqT_ok hf e
    obtain ⟨j1, j2, _, j4⟩ := h2 θ u (toV θ k') hu ⟨hok, rfl⟩
    have : c' = c := by
      rw [h1] at e; simpa using e
    subst this
    exact ⟨c', h1, j1, j2, j4⟩
  obtain ⟨d, hd⟩ : ∃ d, P.underlying kt = some d := by
    rcases flatT_some hf with ⟨_, c, _, hc⟩ | ⟨_, _, ⟨fs, hu, _⟩ | ⟨n, el, c, hu, _⟩⟩
    · obtain ⟨d, hd, _⟩ := flatC_some hc; exact ⟨d, hd⟩
    · exact ⟨_, hu⟩
    · exact ⟨_, hu⟩
  have ask : ∀ (es : List ME) (r : Option Nat), Hit (eqT g ks) k es r → (∀ e ∈ es, meOk θ e) → ∀ i, (Instr.findAsking kt u (es.map (meV θ)) i).run P w = .ok (r.map fun j => (i + j, toV θ (vat es j))) w := by
    intro es
    induction es with
    | nil => intro r h _ i; rw [show r = none from h]; rfl
    | cons e es ih =>
      intro r h hes i
      obtain ⟨k', v, b⟩ := e
      obtain ⟨c, hc, hr⟩ := h
      obtain ⟨c', h1, h2, _, _⟩ := det k' ⟨c, hc⟩ (hes _ (List.mem_cons_self ..)).1
      have : c' = c := by have := (h1 fun x => decide (x = c)).symm.trans (hc fun x => decide (x = c)); simpa using this
      subst this
      simp only [List.map_cons, meV, Instr.findAsking, Sem.run_bind, h2, Result.andThen]
      rcases hr with ⟨rfl, rfl⟩ | ⟨rfl, r', h3, rfl⟩
      · rfl
      · have := ih r' h3 (fun e he => hes e (List.mem_cons_of_mem _ he)) (i + 1)
        simp only [Bool.false_eq_true, if_false]
        rw [this]
        cases r' with
        | none => rfl
        | some j =>
          show Result.ok (some (i + 1 + j, _)) w = Result.ok (some (i + (j + 1), _)) w
          rw [show i + 1 + j = i + (j + 1) by omega]; rfl
  have now : g = false → ∀ (es : List ME) (r : Option Nat), Hit (eqT g ks) k es r → (∀ e ∈ es, meOk θ e) → ∀ i, Instr.findNow d u (es.map (meV θ)) i = some (r.map fun j => (i + j, toV θ (vat es j))) := by
    intro hg es
    induction es with
    | nil => intro r h _ i; rw [show r = none from h]; rfl
    | cons e es ih =>
      intro r h hes i
      obtain ⟨k', v, b⟩ := e
      obtain ⟨c, hc, hr⟩ := h
      obtain ⟨c', h1, h2, _, h4⟩ := det k' ⟨c, hc⟩ (hes _ (List.mem_cons_self ..)).1
      have : c' = c := by have := (h1 fun x => decide (x = c)).symm.trans (hc fun x => decide (x = c)); simpa using this
      subst this
      have h4 := h4 d hd
      rw [hg] at h4
      simp only [Bool.false_eq_true, if_false] at h4
      simp only [List.map_cons, meV, Instr.findNow, h4]
      rcases hr with ⟨rfl, rfl⟩ | ⟨rfl, r', h3, rfl⟩
      · rfl
      · have := ih r' h3 (fun e he => hes e (List.mem_cons_of_mem _ he)) (i + 1)
        show Instr.findNow d u (es.map (meV θ)) (i + 1) = _
        rw [this]
        cases r' with
        | none => rfl
        | some j =>
          show some (some (i + 1 + j, _)) = some (some (i + (j + 1), _))
          rw [show i + 1 + j = i + (j + 1) by omega]; rfl
  refine ⟨?_, ?_⟩
  · simp only [Instr.findKey, Sem.run_bind, run_underlying hd, Result.andThen]
    cases hg : g with
    | false =>
      have := now hg es r h hes 0
      rw [this]
      simp only [Nat.zero_add, Sem.run_pure]
    | true =>
      cases es with
      | nil => rw [show r = none from h]; rfl
      | cons e es' =>
        obtain ⟨k', v, b⟩ := e
        have hh := h
        obtain ⟨c, hc, _⟩ := hh
        obtain ⟨c', h1, h2, _, h4⟩ := det k' ⟨c, hc⟩ (hes _ (List.mem_cons_self ..)).1
        have h4 := h4 d hd
        rw [hg] at h4
        have hn : Instr.findNow d u ((ME.mk k' v b :: es').map (meV θ)) 0 = none := by
          simp only [List.map_cons, meV, Instr.findNow, h4, if_true]
        rw [hn]
        have := ask _ r h hes 0
        simp only [Nat.zero_add] at this
        exact this
  · clear ask now
    intro i hi
    subst hi
    have go : ∀ (es : List ME) (i : Nat), Hit (eqT g ks) k es (some i) → (∀ e ∈ es, meOk θ e) → ∃ e, es[i]? = some e ∧ Instr.sameBits 10000 (meV θ e).key u = true := by
      intro es
      induction es with
      | nil => intro i h _; cases h
      | cons e es ih =>
        intro i h hes
        obtain ⟨k', v, b⟩ := e
        obtain ⟨c, hc, hr⟩ := h
        obtain ⟨c', h1, _, h3, _⟩ := det k' ⟨c, hc⟩ (hes _ (List.mem_cons_self ..)).1
        have : c' = c := by have := (h1 fun x => decide (x = c)).symm.trans (hc fun x => decide (x = c)); simpa using this
        subst this
        rcases hr with ⟨hct, hr⟩ | ⟨_, r', h4, hr⟩
        · injection hr with hr; subst hr
          exact ⟨_, rfl, h3 hct⟩
        · cases r' with
          | none => cases hr
          | some j =>
            injection hr with hr; subst hr
            obtain ⟨e, q1, q2⟩ := ih j h4 (fun e he => hes e (List.mem_cons_of_mem _ he))
            exact ⟨e, by simpa using q1, q2⟩
    exact go es i h hes
theorem eqT_det {t : TypeId} {g : Bool} {ks : List Nat} (h : flatT P t = some (g, ks)) : Det (eqT g ks) := fun _ _ _ e => let ⟨c, h1, _⟩ := eqT_ok h e; ⟨c, h1⟩

/-! ### Structs compared -/
theorem p_eqs {neg g : Bool} {ks : List Nat} {t t2 : TypeId} (hx : XOk x X) (hy : XOk y Y) (hf : EqOk P t g ks) (hg : ∃ d, P.underlying t = some d ∧ ∀ k, d ≠ .int k) (hg2 : g = true) (ho : o.op = .binOp (if neg then .neq else .eql) t X Y t2) : PureOk P o (oEqs neg (eqT g ks) x y) := by
  intro en h nx κ e
  obtain ⟨v, hv, hr⟩ := hx en
  obtain ⟨v2, hv2, hr2⟩ := hy en
  simp only [oEqs, hv, hv2] at e
  obtain ⟨c, h1, h2⟩ := hf e
  subst hg2
  obtain ⟨l, rfl, e1⟩ := asAg_true (show asAg _ v = true from e)
  obtain ⟨l2, rfl, e2⟩ := asAg_true e1
  refine ⟨.b (if neg then !c else c), fun h' nx' κ' => ?_, fun θ ac w hE => ⟨_, vr_b θ _, ?_⟩⟩
  · simp only [oEqs, hv, hv2, h1]
    rw [kB_eq, negc_eq]
  · obtain ⟨j1, j3⟩ := h2 θ _ _ (hr θ ac hE) (hr2 θ ac hE)
    refine bin_run ho rfl rfl (j3 _ _ _ w) ?_
    have q1 := (hr θ ac hE).ag.1
    have q2 := (hr2 θ ac hE).ag.1
    have j1 := j1 w
    rw [q1, q2] at j1 ⊢
    cases neg <;> simp [binOp, j1]

/-! ### Operations that read -/
def ReadOk (P : Program) (o : Oper) (f : OpF) : Prop := ∀ en h nx κ, f en h nx κ = true →
  ∃ v, (∀ h', Ext h h' → ∀ nx' κ', f en h' nx' κ' = κ' v h' nx') ∧ ∀ θ (a : Act) w w0 pd nx0, ER θ en a.tmps → HR P w0 pd θ h nx0 w → ∃ u, VR θ v u ∧ (execOp a.eval o).run P w = .ok (.value u) w
theorem PureOk.read {f : OpF} (hf : PureOk P o f) : ReadOk P o f := fun en h nx κ e =>
  let ⟨v, h1, h2⟩ := hf en h nx κ e
  ⟨v, fun h' _ nx' κ' => h1 h' nx' κ', fun θ a w _ _ _ hE _ => h2 θ a w hE⟩
theorem run_loadVar_agg {w : World} {t : TypeId} {k : Nat} (hg : aggT P t = some true) (hk : sizeT P t = some k) {b o : Nat} {vs : List Value} (hl : vs.length = k)
    (hc : ∀ j v, vs[j]? = some v → w.cell? ⟨b, o + j, none⟩ = some v) : (loadVar t ⟨b, o, none⟩).run P w = .ok (.agg vs.toArray) w := by
  subst hl
  obtain ⟨d, hd, hag⟩ := aggT_some (w := w) hg
  simp only [loadVar, Sem.run_bind, hag, Result.andThen, if_true, run_size hk]
  rw [run_loadCells_list (P := P) w ⟨b, o, none⟩ vs (fun j v hj => by rw [Addr.add_lit]; exact hc j v hj)]
  rfl
theorem run_loadVar_one {w : World} {t : TypeId} (hg : aggT P t = some false) {p : Addr} {v : Value} (hc : w.cell? p = some v) : (loadVar t p).run P w = .ok v w := by
  obtain ⟨d, hd, hag⟩ := aggT_some (w := w) hg
  simp only [loadVar, Sem.run_bind, hag, Result.andThen]
  simp [hc]
/-- a continuation that says what came -/
noncomputable def is1 (v : AV) : K := fun v' _ _ => @decide (v' = v) (Classical.propDecidable _)
theorem r_ld {t : TypeId} {n : Nat} (hx : XOk x X) (hg : aggT P t = some true) (hn : sizeT P t = some n) (ho : o.op = .load t X) : ReadOk P o (oLd x n) := by
  intro en h nx κ e
  obtain ⟨v, hv, hr⟩ := hx en
  simp only [oLd, hv] at e
  obtain ⟨b, off, rfl, e1⟩ := asP_true e
  have hdet : ∃ vs, ∀ h', Ext h h' → ∀ κ', rdK b off n h' κ' = κ' vs := by
    obtain ⟨a, ha, e2⟩ := get_true e1
    have ext : ∀ h', Ext h h' → ∀ κ', rdK b off n h' κ' = rdK b off n h κ' := fun h' hx κ' => by
      unfold rdK
      rw [get_is ha, get_is (hx b a ha)]
    cases a with
    | sm l =>
      simp only [dropL_eq, takeK_eq, List.length_drop] at e2
      split at e2
      · rename_i hn
        refine ⟨(l.drop off).take n, fun h' hx κ' => ?_⟩
        rw [ext h' hx]
        unfold rdK
        rw [get_is ha]
        simp only [dropL_eq, takeK_eq, List.length_drop]
        rw [if_pos hn]
      · cases e2
    | st t0 l =>
      simp only [dropL_eq, takeK_eq, List.length_drop] at e2
      split at e2
      · rename_i hn
        refine ⟨(l.drop off).take n, fun h' hx κ' => ?_⟩
        rw [ext h' hx]
        unfold rdK
        rw [get_is ha]
        simp only [dropL_eq, takeK_eq, List.length_drop]
        rw [if_pos hn]
      · cases e2
    | bt t0 l => cases e2
    | ce N es z zl d t top sh =>
      obtain ⟨hle, e3⟩ := br_t e2
      obtain ⟨vs, k1, k2, k3⟩ := cellsT_true e3
      refine ⟨vs, fun h' hx κ' => ?_⟩
      rw [ext h' hx]
      unfold rdK
      rw [get_is ha]
      show br (Nat.ble (off + n) N) _ false = _
      rw [show Nat.ble (off + n) N = true from hle]
      exact k3 κ'
    | mp es c => cases e2
    | it m s1 s2 s3 => cases e2
    | lp a b c d e f => cases e2
    | df b => cases e2
    | dead => cases e2
  obtain ⟨vs, hdet⟩ := hdet
  refine ⟨.ag vs, fun h' hx nx' κ' => ?_, fun θ ac w w0 pd nx0 hE hR => ?_⟩
  · simp only [oLd, hv]
    exact hdet h' hx _
  · obtain ⟨hpx, hhas⟩ := (hr θ ac hE).p
    obtain ⟨vs', k1, k2, _, k4, k5, k6⟩ := rd_ok hR hhas e1
    have hvs : vs' = vs := by
      have h1 := k2 h (Ext.refl h) (fun l => @decide (l = vs) (Classical.propDecidable _))
      rw [hdet h (Ext.refl h)] at h1
      simpa using h1.symm
    subst hvs
    refine ⟨.agg (toVs θ vs').toArray, ⟨⟨k4, k5⟩, rfl⟩, ?_⟩
    have hl := run_loadVar_agg (w := w) hg hn (vs := toVs θ vs') (by simp [k1]) k6
    simp [execOp, ho, hpx, Instr.loadAt, Instr.sureAddr, hl]
theorem rd_det {b off n : Nat} {h : H} {κ : List AV → R} (e1 : rdK b off n h κ = true) : ∃ vs, ∀ h', Ext h h' → ∀ κ', rdK b off n h' κ' = κ' vs := by
  obtain ⟨a, ha, e2⟩ := get_true e1
  have ext : ∀ h', Ext h h' → ∀ κ', rdK b off n h' κ' = rdK b off n h κ' := fun h' hx κ' => by
    unfold rdK
    rw [get_is ha, get_is (hx b a ha)]
  cases a with
  | sm l =>
    simp only [dropL_eq, takeK_eq, List.length_drop] at e2
    split at e2
    · rename_i hn
      refine ⟨(l.drop off).take n, fun h' hx κ' => ?_⟩
      rw [ext h' hx]
      unfold rdK
      rw [get_is ha]
      simp only [dropL_eq, takeK_eq, List.length_drop]
      rw [if_pos hn]
    · cases e2
  | st t0 l =>
    simp only [dropL_eq, takeK_eq, List.length_drop] at e2
    split at e2
    · rename_i hn
      refine ⟨(l.drop off).take n, fun h' hx κ' => ?_⟩
      rw [ext h' hx]
      unfold rdK
      rw [get_is ha]
      simp only [dropL_eq, takeK_eq, List.length_drop]
      rw [if_pos hn]
    · cases e2
  | bt t0 l => cases e2
  | ce N es z zl d t top sh =>
    obtain ⟨hle, e3⟩ := br_t e2
    obtain ⟨vs, k1, k2, k3⟩ := cellsT_true e3
    refine ⟨vs, fun h' hx κ' => ?_⟩
    rw [ext h' hx]
    unfold rdK
    rw [get_is ha]
    show br (Nat.ble (off + n) N) _ false = _
    rw [show Nat.ble (off + n) N = true from hle]
    exact k3 κ'
  | mp es c => cases e2
  | it m s1 s2 s3 => cases e2
  | lp a b c d e f => cases e2
  | df b => cases e2
  | dead => cases e2
theorem rd_same {w0 w : World} {pd : List (Nat × AO)} {θ : Th} {nx b off n : Nat} {h : H} {κ : List AV → R} {vs : List AV} (hR : HR P w0 pd θ h nx w) (hh : θ.has b) (e : rdK b off n h κ = true) (hdet : ∀ h', Ext h h' → ∀ κ', rdK b off n h' κ' = κ' vs) :
    vs.length = n ∧ Oks θ vs ∧ ∀ j v, (toVs θ vs)[j]? = some v → w.cell? ⟨θ.blk b, θ.bas b + off + j, none⟩ = some v := by
  obtain ⟨vs', k1, k2, _, k4, k5, k6⟩ := rd_ok hR hh e
  have hvs : vs' = vs := by
    have h1 := k2 h (Ext.refl h) (fun l => @decide (l = vs) (Classical.propDecidable _))
    rw [hdet h (Ext.refl h)] at h1
    simpa using h1.symm
  subst hvs
  exact ⟨k1, k4, k6⟩
theorem natsK_true {k : Nat} : ∀ {vs : List AV} {κ : List Nat → R}, natsK k vs κ = true → ∃ l, (∀ κ', natsK k vs κ' = κ' l) ∧ κ l = true ∧ l.length = vs.length ∧
    ∀ θ, Oks θ vs → ∀ (i : Nat) (v : AV) (N : Nat), vs[i]? = some v → l[i]? = some N → Lim (khi k) N ∧ toV θ v = .int (kindOf k) (ln θ.lane N : Nat)
  | [], κ, e => ⟨[], fun _ => rfl, e, rfl, fun θ _ i v N hv _ => by simp at hv⟩
  | v :: vs, κ, e => by
    have step : ∀ κ', natsK k (v :: vs) κ' = lnK k v fun n => natsK k vs fun l => κ' (n :: l) := fun _ => rfl
    rw [step] at e
    obtain ⟨N, a1, e1, _, _, a4⟩ := lnK_true e
    obtain ⟨l, b1, b2, b3, b4⟩ := natsK_true e1
    refine ⟨N :: l, fun κ' => by rw [step, a1, b1], b2, by simp [b3], fun θ ho i u M hu hM => ?_⟩
    cases i with
    | zero =>
      simp at hu hM
      subst hu hM
      exact a4 θ _ ⟨ho.1, rfl⟩
    | succ i => exact b4 θ ho.2 i u M (by simpa using hu) (by simpa using hM)
def foldL (m : Nat) : List Nat → List Nat
  | x :: y :: r => Nat.xor x (Nat.land (Nat.xor x y) m) :: foldL m r
  | _ => []
theorem foldK_eq (m : Nat) : ∀ (l : List Nat) (κ : List Nat → R), foldK m l κ = κ (foldL m l)
  | [], _ => rfl
  | [_], _ => rfl
  | x :: y :: r, κ => by
    show fnat _ (fun z => foldK m r fun l => κ (z :: l)) = _
    rw [fnat_eq, foldK_eq m r]
    rfl
theorem foldL_get (m : Nat) : ∀ (l : List Nat) (i : Nat), (foldL m l)[i]? = match l[2 * i]?, l[2 * i + 1]? with | some x, some y => some (x ^^^ ((x ^^^ y) &&& m)) | _, _ => none
  | [], i => by simp [foldL]
  | [x], i => by
    cases i with
    | zero => simp [foldL]
    | succ i => simp [foldL]
  | x :: y :: r, 0 => rfl
  | x :: y :: r, i + 1 => by
    have h1 : 2 * (i + 1) = (2 * i + 1) + 1 := by omega
    rw [foldL, List.getElem?_cons_succ, foldL_get m r i, h1]
    rfl
/-- the one of two that a bit tells -/
theorem mux_lane {x y m j N b : Nat} (hj : j < 256) (hb : b < 64) (hx : ln j x < 2 ^ 64) (hy : ln j y < 2 ^ 64) (hm : m = bitM N b) :
    ln j (x ^^^ ((x ^^^ y) &&& m)) = if ln j N / 2 ^ b % 2 = 0 then ln j x else ln j y := by
  have h1 : ln j (Nat.land (Nat.shiftRight N b) LO) = ln j N / 2 ^ b % 2 := by
    have := ln_cutshr (N := N) (s := b) (b := 1) hj (by omega)
    rw [LO_one] at this
    rw [land_is, shr_is, this]
  have hmm : ln j m = (ln j N / 2 ^ b % 2) * 18446744073709551615 := by
    subst hm
    unfold bitM
    rw [← h1]
    refine ln_mul fun i hi => ?_
    have h2 : ln i (Nat.land (Nat.shiftRight N b) LO) < 2 := by
      have := ln_cutshr (N := N) (s := b) (b := 1) (j := i) (by omega) (by omega)
      rw [LO_one] at this
      rw [land_is, shr_is, this]; exact Nat.mod_lt _ (by decide)
    exact Nat.lt_of_le_of_lt (Nat.mul_le_mul_right _ (Nat.le_of_lt_succ h2)) (by decide)
  rw [ln_xor, ln_and, ln_xor, hmm]
  rcases Nat.mod_two_eq_zero_or_one (ln j N / 2 ^ b) with h0 | h0
  · rw [h0, if_pos rfl, Nat.zero_mul, Nat.and_zero, Nat.xor_zero]
  · rw [h0, if_neg (by decide), Nat.one_mul]
    have h3 : ln j x ^^^ ln j y < 2 ^ 64 := Nat.xor_lt_two_pow hx hy
    have h4 : (ln j x ^^^ ln j y) &&& 18446744073709551615 = (ln j x ^^^ ln j y) % 2 ^ 64 := Nat.and_two_pow_sub_one_eq_mod _ 64
    rw [h4, Nat.mod_eq_of_lt h3, ← Nat.xor_assoc, Nat.xor_self, Nat.zero_xor]
theorem fold_step {l : List Nat} {N b j : Nat} (hj : j < 256) (hb : b < 64) (hl : ∀ i x : Nat, l[i]? = some x → ln j x < 2 ^ 64) {i x : Nat} (h : (foldL (bitM N b) l)[i]? = some x) :
    ∃ y, l[2 * i + ln j N / 2 ^ b % 2]? = some y ∧ ln j x = ln j y ∧ ln j x < 2 ^ 64 := by
  rw [foldL_get] at h
  split at h
  · rename_i x0 y0 h1 h2
    injection h with h
    have e := mux_lane hj hb (hl _ _ h1) (hl _ _ h2) (rfl : bitM N b = bitM N b)
    rw [h] at e
    rcases Nat.mod_two_eq_zero_or_one (ln j N / 2 ^ b) with h0 | h0
    · rw [h0, if_pos rfl] at e
      exact ⟨x0, by rw [h0]; exact h1, e, by rw [e]; exact hl _ _ h1⟩
    · rw [h0, if_neg (by decide)] at e
      exact ⟨y0, by rw [h0]; exact h2, e, by rw [e]; exact hl _ _ h2⟩
  · cases h
theorem muxK_true {N : Nat} {l : List Nat} {κ : Nat → R} (e : muxK N l κ = true) : ∃ M, (∀ κ', muxK N l κ' = κ' M) ∧ κ M = true ∧
    ∀ j, j < 256 → (∀ i x : Nat, l[i]? = some x → ln j x < 2 ^ 64) → ∃ y : Nat, l[ln j N % 16]? = some y ∧ ln j M = ln j y := by
  have step : ∀ κ', muxK N l κ' = headK κ' (foldL (bitM N 3) (foldL (bitM N 2) (foldL (bitM N 1) (foldL (bitM N 0) l)))) := by
    intro κ'
    unfold muxK
    simp only [fnat_eq, foldK_eq]
  rw [step] at e
  cases hh : foldL (bitM N 3) (foldL (bitM N 2) (foldL (bitM N 1) (foldL (bitM N 0) l))) with
  | nil => rw [hh] at e; cases e
  | cons M r =>
    rw [hh] at e
    refine ⟨M, fun κ' => by rw [step, hh]; rfl, e, fun j hj hl => ?_⟩
    have l1 : ∀ i x : Nat, (foldL (bitM N 0) l)[i]? = some x → ln j x < 2 ^ 64 := fun i x hx => by obtain ⟨_, _, _, h⟩ := fold_step hj (by decide) hl hx; exact h
    have l2 : ∀ i x : Nat, (foldL (bitM N 1) (foldL (bitM N 0) l))[i]? = some x → ln j x < 2 ^ 64 := fun i x hx => by obtain ⟨_, _, _, h⟩ := fold_step hj (by decide) l1 hx; exact h
    have l3 : ∀ i x : Nat, (foldL (bitM N 2) (foldL (bitM N 1) (foldL (bitM N 0) l)))[i]? = some x → ln j x < 2 ^ 64 := fun i x hx => by obtain ⟨_, _, _, h⟩ := fold_step hj (by decide) l2 hx; exact h
    obtain ⟨y3, g3, q3, _⟩ := fold_step (b := 3) (i := 0) (x := M) hj (by decide) l3 (by rw [hh]; rfl)
    obtain ⟨y2, g2, q2, _⟩ := fold_step (b := 2) hj (by decide) l2 g3
    obtain ⟨y1, g1, q1, _⟩ := fold_step (b := 1) hj (by decide) l1 g2
    obtain ⟨y0, g0, q0, _⟩ := fold_step (b := 0) hj (by decide) hl g1
    refine ⟨y0, ?_, by rw [q3, q2, q1, q0]⟩
    rw [← g0]
    congr 1
    omega
theorem r_ld1 {t : TypeId} (hx : XOk x X) (hg : aggT P t = some false) (ho : o.op = .load t X) : ReadOk P o (oLd1 x) := by
  intro en h nx κ e
  obtain ⟨v, hv, hr⟩ := hx en
  by_cases hq : ∃ b off N, v = .q b off N
  · obtain ⟨b, off, N, rfl⟩ := hq
    simp only [oLd1, hv] at e
    have e : rdK b off 16 h (fun vs => muxV N vs fun v => κ v h nx) = true := e
    obtain ⟨vs, hdet⟩ := rd_det e
    have e2 := e
    rw [hdet h (Ext.refl h)] at e2
    cases vs with
    | nil => cases e2
    | cons v0 r =>
      cases v0 <;> first | (cases e2; done) | skip
      rename_i k n
      obtain ⟨b1, e3⟩ := br_t e2
      have b1' : k < 8 := by simpa [Nat.blt_eq] using b1
      obtain ⟨l, n1, e4, n3, n4⟩ := natsK_true e3
      obtain ⟨M, m1, _, m3⟩ := muxK_true e4
      refine ⟨.l k M, fun h' hx nx' κ' => ?_, fun θ ac w w0 pd nx0 hE hR => ?_⟩
      · simp only [oLd1, hv]
        refine (hdet h' hx _).trans ?_
        show br (Nat.blt k 8) (natsK k (.i k n :: r) fun l => muxK N l fun M => κ' (.l k M) h' nx') false = _
        rw [b1, br_tt, n1, m1]
      · obtain ⟨⟨hhas, h16⟩, hpx⟩ := hr θ ac hE
        obtain ⟨k1, k4, k6⟩ := rd_same hR hhas e hdet
        have hall : ∀ j, j < 256 → ∀ i x : Nat, l[i]? = some x → ln j x < 2 ^ 64 := by
          intro j hj i x hx
          have hi : i < (AV.i k n :: r).length := by rw [← n3]; exact (List.getElem?_eq_some_iff.1 hx).1
          exact (n4 θ k4 i _ x (List.getElem?_eq_getElem hi) hx).1.all64 j hj
        have hlim : Lim (khi k) M := by
          intro j hj
          obtain ⟨y, y1, y2⟩ := m3 j hj (hall j hj)
          have hi : ln j N % 16 < (AV.i k n :: r).length := by rw [← n3]; exact (List.getElem?_eq_some_iff.1 y1).1
          rw [y2]
          exact (n4 θ k4 _ _ y (List.getElem?_eq_getElem hi) y1).1 j hj
        obtain ⟨y, y1, y2⟩ := m3 θ.lane θ.lane_lt (hall _ θ.lane_lt)
        rw [Nat.mod_eq_of_lt (h16 _ θ.lane_lt)] at y1
        have hi : ln θ.lane N < (AV.i k n :: r).length := by rw [← n3]; exact (List.getElem?_eq_some_iff.1 y1).1
        have hy := (n4 θ k4 _ _ y (List.getElem?_eq_getElem hi) y1).2
        have hcell := k6 (ln θ.lane N) (toV θ (AV.i k n :: r)[ln θ.lane N]) (by rw [toVs_get, List.getElem?_eq_getElem hi]; rfl)
        rw [hy, ← y2] at hcell
        refine ⟨_, vr_l θ b1' hlim, ?_⟩
        have hl := run_loadVar_one (w := w) hg hcell
        rw [Nat.add_assoc] at hl
        have hpx : ac.eval X = .pointer (some ⟨θ.blk b, θ.bas b + (off + ln θ.lane N), none⟩) := hpx
        simp [execOp, ho, hpx, Instr.loadAt, Instr.sureAddr, hl]
  have hsame : ∀ h nx κ, oLd1 x en h nx κ = asP (fun o off => rd1 o off h fun v => κ v h nx) v := by
    intro h nx κ
    simp only [oLd1, hv]
    cases v <;> first | rfl | exact absurd ⟨_, _, _, rfl⟩ hq
  rw [hsame] at e
  obtain ⟨b, off, rfl, e1⟩ := asP_true e
  have hdet : ∃ v, ∀ h', Ext h h' → ∀ κ', rd1 b off h' κ' = κ' v := by
    obtain ⟨a, ha, e2⟩ := get_true e1
    have ext : ∀ h', Ext h h' → ∀ κ', rd1 b off h' κ' = rd1 b off h κ' := fun h' hx κ' => by
      unfold rd1
      rw [get_is ha, get_is (hx b a ha)]
    cases a with
    | sm l =>
      simp only [nthK_eq] at e2
      cases hl : l[off]? with
      | none => rw [hl] at e2; cases e2
      | some v =>
        refine ⟨v, fun h' hx κ' => ?_⟩
        rw [ext h' hx]
        unfold rd1
        rw [get_is ha]
        simp only [nthK_eq, hl]
    | st t0 l =>
      simp only [nthK_eq] at e2
      cases hl : l[off]? with
      | none => rw [hl] at e2; cases e2
      | some v =>
        refine ⟨v, fun h' hx κ' => ?_⟩
        rw [ext h' hx]
        unfold rd1
        rw [get_is ha]
        simp only [nthK_eq, hl]
    | bt t0 l => cases e2
    | ce N es z zl d t top sh =>
      obtain ⟨hlt, e3⟩ := br_t e2
      rw [cellK_eq] at e3
      cases hc : cellO z zl d t off with
      | none => rw [hc] at e3; cases e3
      | some v =>
        refine ⟨v, fun h' hx κ' => ?_⟩
        rw [ext h' hx]
        unfold rd1
        rw [get_is ha]
        show br (Nat.blt off N) (cellK z zl d t κ' off) false = _
        rw [hlt, cellK_eq, hc]
        rfl
    | mp es c => cases e2
    | it m s1 s2 s3 => cases e2
    | lp a b c d e f => cases e2
    | df b => cases e2
    | dead => cases e2
  obtain ⟨c, hdet⟩ := hdet
  refine ⟨c, fun h' hx nx' κ' => ?_, fun θ ac w w0 pd nx0 hE hR => ?_⟩
  · rw [hsame]
    exact hdet h' hx _
  · obtain ⟨hpx, hhas⟩ := (hr θ ac hE).p
    obtain ⟨c', k1, _, k3, _, k5⟩ := rd1_ok hR hhas e1
    have hc : c' = c := by
      have h1 := k1 h (Ext.refl h) (fun l => @decide (l = c) (Classical.propDecidable _))
      rw [hdet h (Ext.refl h)] at h1
      simpa using h1.symm
    subst hc
    refine ⟨toV θ c', ⟨k3, rfl⟩, ?_⟩
    have hl := run_loadVar_one (w := w) hg k5
    simp [execOp, ho, hpx, Instr.loadAt, Instr.sureAddr, hl]
theorem asMp_true {κ : List ME → Nat → R} {a : AO} (e : asMp κ a = true) : ∃ es c, a = .mp es c ∧ κ es c = true := by
  cases a <;> first | exact ⟨_, _, rfl, e⟩ | cases e
theorem run_getMap {w : World} {r : Nat} {es : Array MapEntry} {clock : Nat} (hb : w.heap[r]? = some (.map es clock)) : (getObj r).run P w = .ok (.map es clock) w := by
  simp [getObj, Sem.run, hb]
theorem r_lens {t : TypeId} {c : Call} (hx : XOk x X) (hu : P.underlying t = some .string) (hc : c.callee = .builtin .len) (ha : c.args.toList = [X]) (ht : c.argTypes.toList = [t]) (ho : o.op = .call c) : ReadOk P o (oLens x) := by
  refine PureOk.read fun en h nx κ e => ?_
  obtain ⟨v, hv, hr⟩ := hx en
  by_cases hxi : ∃ n k' r m, v = .xi n k' r m
  · obtain ⟨n, k', r, m, rfl⟩ := hxi
    simp only [oLens, hv] at e
    obtain ⟨b1, e⟩ := br_t e
    have b1' := Nat.eq_of_beq_eq_true b1
    subst b1'
    refine ⟨.xi n 9 r m, fun h' nx' κ' => by simp only [oLens, hv]; rfl, fun θ ac w hE => ?_⟩
    obtain ⟨hok, hX⟩ := hr θ ac hE
    obtain ⟨_, s, k1, k2, k3, _, _⟩ := xi_str hok
    refine ⟨.int .i64 s.size, ⟨k3, k2.symm⟩, ?_⟩
    rw [k1] at hX
    obtain ⟨ca, cargs, ct⟩ := c
    have ha' : cargs = #[X] := by cases cargs; simp_all
    have ht' : ct = #[t] := by cases ct; simp_all
    simp only at hc
    subst ha' ht' hc
    simp [execOp, ho, resolve, invoke, builtin, Builtin.len_, run_underlying hu, hX, goInt]
  have hsame : ∀ h nx κ, oLens x en h nx κ = asS (fun l => fnat (lenN Nat l) fun n => κ (.i 3 (.ofNat n)) h nx) v := by
    intro h nx κ
    simp only [oLens, hv]
    cases v <;> first | rfl | exact absurd ⟨_, _, _, _, rfl⟩ hxi
  rw [hsame] at e
  obtain ⟨l, rfl, e1⟩ := asS_true e
  refine ⟨.i 3 (.ofNat l.length), fun h' nx' κ' => ?_, fun θ ac w hE => ⟨_, vr_i θ _ _, ?_⟩⟩
  · rw [hsame]
    show fnat (lenN Nat l) (fun n => κ' (.i 3 (.ofNat n)) h' nx') = _
    rw [fnat_eq, lenN_eq]
  · obtain ⟨ca, cargs, ct⟩ := c
    have ha' : cargs = #[X] := by cases cargs; simp_all
    have ht' : ct = #[t] := by cases ct; simp_all
    simp only at hc
    subst ha' ht' hc
    simp [execOp, ho, resolve, invoke, builtin, Builtin.len_, run_underlying hu, (hr θ ac hE).s.1, goInt, bytes_size, kindOf]
theorem r_lenl {t el : TypeId} {c : Call} (hx : XOk x X) (hu : P.underlying t = some (.slice el)) (hc : c.callee = .builtin .len) (ha : c.args.toList = [X]) (ht : c.argTypes.toList = [t]) (ho : o.op = .call c) : ReadOk P o (oLenl x) := by
  refine PureOk.read fun en h nx κ e => ?_
  obtain ⟨v, hv, hr⟩ := hx en
  simp only [oLenl, hv] at e
  obtain ⟨ca, cargs, ct⟩ := c
  have ha' : cargs = #[X] := by cases cargs; simp_all
  have ht' : ct = #[t] := by cases ct; simp_all
  simp only at hc
  subst ha' ht' hc
  cases v <;> first | (cases e; done) | skip
  · rename_i b off len cap
    refine ⟨.i 3 (.ofNat len), fun h' nx' κ' => by simp only [oLenl, hv], fun θ ac w hE => ⟨_, vr_i θ _ _, ?_⟩⟩
    obtain ⟨_, cc, hx'⟩ := (hr θ ac hE).sl
    simp [execOp, ho, resolve, invoke, builtin, Builtin.len_, run_underlying hu, hx', goInt, kindOf]
  · refine ⟨.i 3 (.ofNat 0), fun h' nx' κ' => by simp only [oLenl, hv], fun θ ac w hE => ⟨_, vr_i θ _ _, ?_⟩⟩
    have hx' : ac.eval X = .slice none 0 0 := (hr θ ac hE).2
    simp [execOp, ho, resolve, invoke, builtin, Builtin.len_, run_underlying hu, hx', goInt, kindOf]
  · rename_i n k r m
    obtain ⟨b1, e1⟩ := br_t (show br (Nat.beq k 12) _ false = true from e)
    have b1' := Nat.eq_of_beq_eq_true b1
    subst b1'
    refine ⟨.i 3 (.ofNat 0), fun h' nx' κ' => by simp only [oLenl, hv]; rfl, fun θ ac w hE => ⟨_, vr_i θ _ _, ?_⟩⟩
    have hx' : ac.eval X = tailV θ n r m := (hr θ ac hE).2
    simp [execOp, ho, resolve, invoke, builtin, Builtin.len_, run_underlying hu, hx', tailV, goInt, kindOf]
theorem r_lenm {t kt el : TypeId} {c : Call} (hx : XOk x X) (hu : P.underlying t = some (.map kt el)) (hc : c.callee = .builtin .len) (ha : c.args.toList = [X]) (ht : c.argTypes.toList = [t]) (ho : o.op = .call c) : ReadOk P o (oLenm x) := by
  intro en h nx κ e
  obtain ⟨v, hv, hr⟩ := hx en
  simp only [oLenm, hv] at e
  obtain ⟨ca, cargs, ct⟩ := c
  have ha' : cargs = #[X] := by cases cargs; simp_all
  have ht' : ct = #[t] := by cases ct; simp_all
  simp only at hc
  subst ha' ht' hc
  cases v <;> first | (cases e; done) | skip
  · rename_i b
    obtain ⟨a, hb, e1⟩ := get_true e
    obtain ⟨es, cl, rfl, e2⟩ := asMp_true e1
    refine ⟨.i 3 (.ofNat es.length), fun h' hx nx' κ' => ?_, fun θ ac w w0 pd nx0 hE hR => ⟨_, vr_i θ _ _, ?_⟩⟩
    · simp only [oLenm, hv, get_is (hx b _ hb)]
      show fnat (lenN ME es) (fun n => κ' (.i 3 (.ofNat n)) h' nx') = _
      rw [fnat_eq, lenN_eq]
    · obtain ⟨hx', hh⟩ := (hr θ ac hE).m
      have hm := (hR.obj_ hh hb).1
      simp [execOp, ho, resolve, invoke, builtin, Builtin.len_, run_underlying hu, hx', goInt, kindOf, run_getMap hm]
  · refine ⟨.i 3 (.ofNat 0), fun h' hx nx' κ' => by simp only [oLenm, hv], fun θ ac w w0 pd nx0 hE hR => ⟨_, vr_i θ _ _, ?_⟩⟩
    have hx' : ac.eval X = .map none := (hr θ ac hE).2
    simp [execOp, ho, resolve, invoke, builtin, Builtin.len_, run_underlying hu, hx', goInt, kindOf]
theorem vat_ok {θ : Th} {es : List ME} {i : Nat} (hi : i < es.length) (h : ∀ e ∈ es, meOk θ e) : Ok θ (vat es i) := by
  unfold vat
  rw [List.getElem?_eq_getElem hi]
  have := h _ (List.getElem_mem hi)
  cases he : es[i] with
  | mk k v b => rw [he] at this; exact this.2
theorem r_lkp {t kt el : TypeId} {g ok : Bool} {ks : List Nat} {z : AV} (hx : XOk x X) (hy : XOk y Y) (hu : P.underlying t = some (.map kt el)) (hf : flatT P kt = some (g, ks)) (hz : zeroV P el = some z)
    (ho : o.op = .lookup t X Y ok) : ReadOk P o (oLkp g ks x y ok z) := by
  intro en h nx κ e
  obtain ⟨v, hv, hr⟩ := hx en
  obtain ⟨v2, hv2, hr2⟩ := hy en
  simp only [oLkp, hv, hv2] at e
  obtain ⟨e1, hky, hck⟩ := kyT_ok hf e
  obtain ⟨zi, zv, z1, z2, z3⟩ := zeroV_some hz
  cases v <;> first | (cases e1; done) | skip
  · rename_i b
    obtain ⟨a, hb, e2⟩ := get_true e1
    obtain ⟨es, cl, rfl, e3⟩ := asMp_true e2
    obtain ⟨r, h1, h2⟩ := fndK_true (eqT_det hf) e3
    refine ⟨(match r with | none => if ok then .tu [z, .b false] else z | some i => if ok then .tu [vat es i, .b true] else vat es i : AV), fun h' hx nx' κ' => ?_, fun θ ac w w0 pd nx0 hE hR => ?_⟩
    · simp only [oLkp, hv, hv2, hky, get_is (hx b _ hb)]
      show fndK (eqT g ks) v2 es (br ok (κ' (.tu [z, .b false]) h' nx') (κ' z h' nx')) (fun v => br ok (κ' (.tu [v, .b true]) h' nx') (κ' v h' nx')) = _
      rw [h2]
      cases r <;> cases ok <;> rfl
    · obtain ⟨hx', hh⟩ := (hr θ ac hE).m
      obtain ⟨hm, hes⟩ := hR.obj_ hh hb
      have hfk := (find_hit hf h1 (hr2 θ ac hE) hes w).1
      have hck := hck θ _ (hr2 θ ac hE)
      have hz' : (zeroValue el).run P w = .ok zv w := by simp [zeroValue, typeInfo, z1, z2]
      cases r with
      | none =>
        refine ⟨if ok then .tuple #[zv, .bool false] else zv, ?_, ?_⟩
        · cases ok
          · exact z3 θ
          · exact ⟨⟨(z3 θ).1, trivial, trivial⟩, by rw [(z3 θ).2]; rfl⟩
        · simp only [execOp, ho, Instr.lookup, Sem.run_bind, run_underlying hu, Result.andThen, hx', run_getMap hm, Sem.run_pure, hck, List.toList_toArray, hfk, Option.map_none, hz']
      | some i =>
        have hi := h1.lt i rfl
        refine ⟨if ok then .tuple #[toV θ (vat es i), .bool true] else toV θ (vat es i), ?_, ?_⟩
        · cases ok
          · exact ⟨vat_ok hi hes, rfl⟩
          · exact ⟨⟨vat_ok hi hes, trivial, trivial⟩, rfl⟩
        · simp only [execOp, ho, Instr.lookup, Sem.run_bind, run_underlying hu, Result.andThen, hx', run_getMap hm, Sem.run_pure, hck, List.toList_toArray, hfk, Option.map_some]
  · refine ⟨if ok then .tu [z, .b false] else z, fun h' hx nx' κ' => ?_, fun θ ac w w0 pd nx0 hE hR => ?_⟩
    · simp only [oLkp, hv, hv2, hky]
      cases ok <;> rfl
    · have hx' : ac.eval X = .map none := (hr θ ac hE).2
      have hck := hck θ _ (hr2 θ ac hE)
      have hz' : (zeroValue el).run P w = .ok zv w := by simp [zeroValue, typeInfo, z1, z2]
      have hfk : (Instr.findKey kt (ac.eval Y) []).run P w = .ok none w := by
        have := (find_hit (es := []) hf (r := none) rfl (hr2 θ ac hE) (by simp) w).1
        simpa using this
      refine ⟨if ok then .tuple #[zv, .bool false] else zv, ?_, ?_⟩
      · cases ok
        · exact z3 θ
        · exact ⟨⟨(z3 θ).1, trivial, trivial⟩, by rw [(z3 θ).2]; rfl⟩
      · simp only [execOp, ho, Instr.lookup, Sem.run_bind, run_underlying hu, Result.andThen, hx', Sem.run_pure, hck, hfk, hz']
theorem bytesK_true : ∀ {vs : List AV} {κ : List Nat → R}, bytesK vs κ = true → ∃ l, (∀ κ', bytesK vs κ' = κ' l) ∧ κ l = true ∧ vs = l.map (fun m => .i 4 (.ofNat m)) ∧ ∀ x ∈ l, x < 256
  | [], κ, e => ⟨[], fun _ => rfl, e, rfl, by simp⟩
  | v :: vs, κ, e => by
    have e : asK 4 (fun n => @Int.rec (fun _ => R) (fun m => br (Nat.blt m 256) (bytesK vs fun l => κ (m :: l)) false) (fun _ => false) n) v = true := e
    obtain ⟨n, rfl, e1⟩ := asK_true e
    cases n with
    | negSucc m => cases e1
    | ofNat m =>
      obtain ⟨hm, e2⟩ := br_t (show br (Nat.blt m 256) _ false = true from e1)
      obtain ⟨l, h1, h2, h3, h4⟩ := bytesK_true e2
      refine ⟨m :: l, fun κ' => ?_, h2, by rw [h3]; rfl, fun x hx => ?_⟩
      · show asK 4 (fun n => @Int.rec (fun _ => R) (fun m => br (Nat.blt m 256) (bytesK vs fun l => κ' (m :: l)) false) (fun _ => false) n) (.i 4 (.ofNat m)) = _
        rw [asK_i]
        show br (Nat.blt m 256) (bytesK vs fun l => κ' (m :: l)) false = _
        rw [hm]
        exact h1 _
      · rcases List.mem_cons.1 hx with rfl | hx
        · simpa [Nat.blt_eq] using hm
        · exact h4 x hx
theorem foldl_push (l : List UInt8) : ∀ r : ByteArray, (l.foldl (fun r x => r.push x) r) = ⟨r.data ++ l.toArray⟩ := by
  induction l with
  | nil => intro r; simp
  | cons x l ih => intro r; rw [List.foldl_cons, ih]; simp [ByteArray.push]
/-- a byte's number -/
def byN (θ : Th) : AV → Int
  | .i _ n => n
  | .l _ N => (ln θ.lane N : Nat)
  | _ => 0
theorem allBy_ok {θ : Th} : ∀ {vs : List AV}, allBy vs = true → Oks θ vs → (∀ v ∈ vs, byOk v) ∧ toVs θ vs = (vs.map (byN θ)).map (Value.int .u8) ∧ (vs.map (byN θ)).map (fun n => UInt8.ofNat n.toNat) = vs.map (byV θ)
  | [], _, _ => ⟨by simp, rfl, rfl⟩
  | v :: vs, e, ho => by
    have e : (@Bool.rec (fun _ => Bool) false (allBy vs) (isBy v)) = true := e
    cases hb : isBy v with
    | false => rw [hb] at e; cases e
    | true =>
      rw [hb] at e
      obtain ⟨k1, k2, k3⟩ := allBy_ok (θ := θ) e ho.2
      have hv : byOk v ∧ toV θ v = .int .u8 (byN θ v) ∧ UInt8.ofNat (byN θ v).toNat = byV θ v := by
        cases v <;> first | (cases hb; done) | skip
        · rename_i k n
          have hb : (@Bool.rec (fun _ => Bool) false (@Int.rec (fun _ => Bool) (fun n => Nat.blt n 256) (fun _ => false) n) (Nat.beq k 4)) = true := hb
          cases hk : Nat.beq k 4 with
          | false => rw [hk] at hb; cases hb
          | true =>
            rw [hk] at hb
            have hk := Nat.eq_of_beq_eq_true hk
            subst hk
            cases n with
            | negSucc n => cases hb
            | ofNat n =>
              have hb : Nat.blt n 256 = true := hb
              exact ⟨.inl ⟨n, rfl, by simpa [Nat.blt_eq] using hb⟩, rfl, rfl⟩
        · rename_i k N
          have hk := Nat.eq_of_beq_eq_true (show Nat.beq k 4 = true from hb)
          subst hk
          have h1 : VR θ (.l 4 N) (toV θ (.l 4 N)) := ⟨ho.1, rfl⟩
          obtain ⟨q1, q2⟩ := h1.l (by decide)
          exact ⟨.inr ⟨N, rfl, q1⟩, rfl, rfl⟩
      refine ⟨fun u hu => ?_, by simp only [toVs, List.map_cons, hv.2.1, k2], by simp only [List.map_cons, hv.2.2, k3]⟩
      rcases List.mem_cons.1 hu with rfl | hu
      · exact hv.1
      · exact k1 u hu
theorem r_b2s {s d el : TypeId} (hx : XOk x X) (hs : P.underlying s = some (.slice el)) (he : P.underlying el = some (.int .u8)) (hd : P.underlying d = some .string) (ho : o.op = .convert s d X) : ReadOk P o (oB2s x) := by
  intro en h nx κ e
  obtain ⟨v, hv, hr⟩ := hx en
  simp only [oB2s, hv] at e
  have conv : ∀ (u : Value) (w : World), (∃ A l c, u = .slice A l c) → (convert s d u).run P w = (Conv.bytesToString u).run P w := by
    rintro u w ⟨A, l, c, rfl⟩
    simp only [convert, Sem.run_bind, run_underlying hs, run_underlying hd, run_underlying he, Result.andThen]
  cases v <;> first | (cases e; done) | skip
  · rename_i b off len cap
    have e : rdK b off len h (fun vs => br (anyL vs) (br (allBy vs) (κ (.t vs) h nx) false) (bytesK vs fun l => κ (.s l) h nx)) = true := e
    obtain ⟨vs, hvs⟩ := rd_det e
    have e2 := e
    rw [hvs h (Ext.refl h)] at e2
    have fold : ∀ (l : List Int) (r : ByteArray), (l.foldl (fun r x => r.push (UInt8.ofNat x.toNat)) r) = ⟨r.data ++ (l.map fun x => UInt8.ofNat x.toNat).toArray⟩ := by
      intro l r
      have := foldl_push (l.map fun x => UInt8.ofNat x.toNat) r
      rw [List.foldl_map] at this
      exact this
    have run : ∀ (θ : Th) (ac : Act) w (l : List Int), ER θ en ac.tmps → toVs θ vs = l.map (Value.int .u8) → vs.length = len → (∀ j v, (toVs θ vs)[j]? = some v → w.cell? ⟨θ.blk b, θ.bas b + off + j, none⟩ = some v) →
        (execOp ac.eval o).run P w = .ok (.value (.string ⟨(l.map fun x => UInt8.ofNat x.toNat).toArray⟩)) w := by
      intro θ ac w l hE hcells k1 k6
      obtain ⟨hh, c, hx'⟩ := (hr θ ac hE).sl
      have hl := run_loadCells_list (P := P) w ⟨θ.blk b, θ.bas b + off, none⟩ (toVs θ vs) (fun j v hj => by rw [Addr.add_lit]; exact k6 j v hj)
      rw [toVs_length, k1, hcells] at hl
      have hrun : (Conv.bytesToString (.slice (some ⟨θ.blk b, θ.bas b + off, none⟩) len c)).run P w = .ok (.string ⟨(l.map fun x => UInt8.ofNat x.toNat).toArray⟩) w := by
        rw [run_bytesToString w ⟨θ.blk b, θ.bas b + off, none⟩ len c l hl]
        congr 2
        rw [fold]
        simp
      simp [execOp, ho, hx', conv _ _ ⟨_, _, _, rfl⟩, hrun]
    rcases br_true e2 with ⟨g1, e3⟩ | ⟨g1, e3⟩
    · obtain ⟨g2, e4⟩ := br_t e3
      refine ⟨.t vs, fun h' hx nx' κ' => ?_, fun θ ac w w0 pd nx0 hE hR => ?_⟩
      · simp only [oB2s, hv]
        rw [hvs h' hx, g1, g2]
        rfl
      · obtain ⟨k1, k4, k6⟩ := rd_same hR (hr θ ac hE).sl.1 e hvs
        obtain ⟨q1, q2, q3⟩ := allBy_ok (θ := θ) g2 k4
        refine ⟨.string (txV θ vs), ⟨q1, rfl⟩, ?_⟩
        have := run θ ac w (vs.map (byN θ)) hE q2 k1 k6
        rw [q3] at this
        exact this
    · obtain ⟨l, h1, _, h3, h4⟩ := bytesK_true e3
      refine ⟨.s l, fun h' hx nx' κ' => ?_, fun θ ac w w0 pd nx0 hE hR => ?_⟩
      · simp only [oB2s, hv]
        rw [hvs h' hx, g1]
        exact h1 _
      · obtain ⟨k1, k4, k6⟩ := rd_same hR (hr θ ac hE).sl.1 e hvs
        refine ⟨.string (bytesOf l), ⟨h4, rfl⟩, ?_⟩
        have hcells : toVs θ vs = (l.map Int.ofNat).map (Value.int .u8) := by
          rw [toVs_map, h3, List.map_map, List.map_map]; rfl
        have := run θ ac w (l.map Int.ofNat) hE hcells k1 k6
        rw [List.map_map] at this
        exact this
  · refine ⟨.s [], fun h' hx nx' κ' => by simp only [oB2s, hv], fun θ ac w w0 pd nx0 hE hR => ⟨.string .empty, ⟨(fun x hx => nomatch hx), rfl⟩, ?_⟩⟩
    have hx' : ac.eval X = .slice none 0 0 := (hr θ ac hE).2
    simp [execOp, ho, hx', conv _ _ ⟨_, _, _, rfl⟩, Conv.bytesToString]
end
end Go.AM
namespace Go.AM
open Go

/-- what is to be laid still -/
theorem HR.pended {P : Program} {w0 w : World} {pd : List (Nat × AO)} {θ : Th} {h : H} {nx : Nat} (hr : HR P w0 pd θ h nx w) (hn : nx < 2097152) (a : AO) : HR P w0 ((nx, a) :: pd) θ (setO h nx a) (nx + 1) w := by
  have hnx : ¬ θ.has nx := fun hx => Nat.lt_irrefl _ (hr.own nx hx).1
  have hob : ∀ o, θ.has o → obj (setO h nx a) o = obj h o := fun o ho => obj_set_ne h a hn (hr.lt32 ho) (fun e => hnx (e ▸ ho))
  have hpd : ∀ o b, (o, b) ∈ pd → o ≠ nx := fun o b hb e => by have := (hr.pend o b hb).2.1; omega
  refine ⟨by omega, fun o ho => ?_, fun o o' b b' hne ho ho' hb hb' => ?_, hr.size, hr.kept, hr.plain, fun o b hb => ?_, ?_, hr.fresh.set (by omega) (by omega) hn, hr.glo⟩
  · obtain ⟨a1, a2, a3, b, a4, a5, a6⟩ := hr.own o ho
    exact ⟨by omega, a2, a3, b, by rw [hob o ho]; exact a4, a5, a6⟩
  · rw [hob o ho] at hb
    rw [hob o' ho'] at hb'
    exact hr.apart o o' b b' hne ho ho' hb hb'
  · rcases List.mem_cons.1 hb with hb | hb
    · injection hb with h1 h2; subst h1 h2
      exact ⟨hnx, by omega, obj_set _ _ _⟩
    · obtain ⟨p1, p2, p3⟩ := hr.pend o b hb
      exact ⟨p1, by omega, by rw [obj_set_ne h a hn (Nat.lt_of_lt_of_le p2 hr.lim) (hpd o b hb)]; exact p3⟩
  · simp only [List.map_cons, List.nodup_cons]
    refine ⟨fun hm => ?_, hr.nodup⟩
    obtain ⟨⟨o, b⟩, hb, he⟩ := List.mem_map.1 hm
    exact hpd o b hb he
def clip (o : Nat) : Nat := if o < 2097152 then o else 1835008 + o % 262144
theorem clip_lt (o : Nat) : clip o < 2097152 := by unfold clip; split <;> omega
theorem obj_clip (h : H) (o : Nat) : obj h o = obj h (clip o) := by
  unfold clip
  split
  · rfl
  · rename_i ho
    show getL (Option AO) 6 (o % 8 ^ 6) (ch (o / 8 ^ 6) (h : N8 (L (Option AO) 6))) = getL (Option AO) 6 ((1835008 + o % 262144) % 8 ^ 6) (ch ((1835008 + o % 262144) / 8 ^ 6) (h : N8 (L (Option AO) 6)))
    have e1 : (1835008 + o % 262144) % 8 ^ 6 = o % 8 ^ 6 := by omega
    have e2 : (1835008 + o % 262144) / 8 ^ 6 = 7 := by omega
    obtain ⟨k, e3⟩ : ∃ k, o / 8 ^ 6 = k + 7 := ⟨o / 8 ^ 6 - 7, by omega⟩
    rw [e1, e2, e3]
    have : ∀ t : N8 (L (Option AO) 6), ch (k + 7) t = ch 7 t := by intro t; cases t; rfl
    exact congrArg _ (this _)
theorem HR.ext_new {P : Program} {w0 w : World} {pd : List (Nat × AO)} {θ : Th} {h : H} {nx : Nat} (hr : HR P w0 pd θ h nx w) (hn : nx < 2097152) (a : AO) : Ext h (setO h nx a) := by
  intro o b hb
  rw [obj_clip] at hb ⊢
  have hlt := hr.fresh _ _ (clip_lt o) hb
  rw [obj_set_ne h a hn (clip_lt o) (by omega)]
  exact hb
/-- it is laid, in a new block -/
theorem HR.real {P : Program} {w0 w w' : World} {pd : List (Nat × AO)} {θ : Th} {h : H} {nx : Nat} (hr : HR P w0 pd θ h nx w) {o : Nat} {a : AO} (hp : (o, a) ∈ pd) {ob : Obj} (hh : w'.heap = w.heap.push ob)
    (hpl : w'.os = w.os ∧ w'.tape = w.tape ∧ w'.output = w.output) {bs sz es : Nat} (ha : OR P (θ.put o w.heap.size bs sz es) w' o a) (hsh : a.sh = []) :
    HR P w0 (pd.filter fun q => q.1 != o) (θ.put o w.heap.size bs sz es) h nx w' ∧ θ.le (θ.put o w.heap.size bs sz es) := by
  obtain ⟨hno, holt, hobj⟩ := hr.pend o a hp
  have hle := Th.le_put hno w.heap.size bs sz es
  have hold : ∀ b, b < w.heap.size → w'.heap[b]? = w.heap[b]? := fun b hb => by rw [hh, Array.getElem?_push_lt hb, Array.getElem?_eq_getElem hb]
  refine ⟨⟨hr.lim, ?_, ?_, ?_, ?_, ?_, ?_, ?_, hr.fresh, hr.glo⟩, hle⟩
  · intro p hpp
    by_cases e : p = o
    · subst e
      exact ⟨holt, .inl (by rw [Th.put_blk]; exact hr.size), by rw [Th.put_blk, hh]; simp, a, hobj, ha, fun x hx => by rw [hsh] at hx; cases hx⟩
    · have ho' : θ.has p := hpp.resolve_left e
      obtain ⟨a1, a2, a3, b, a4, a5, a6⟩ := hr.own p ho'
      exact ⟨a1, by rw [hle.blk p ho']; exact a2, by rw [hle.blk p ho', hh]; simp; omega, b, a4, a5.mono hle ho' (hold _ a3), fun x hx => hle.has x (a6 x hx)⟩
  · intro p p' b b' hne h1 h2 hb hb' hw hl heq
    by_cases e : p = o
    · subst e
      have h' : θ.has p' := h2.resolve_left (fun e => hne e.symm)
      rw [Th.put_blk, hle.blk p' h'] at heq
      have := (hr.own p' h').2.2.1
      omega
    · have q1 : θ.has p := h1.resolve_left e
      by_cases e' : p' = o
      · subst e'
        rw [Th.put_blk, hle.blk p q1] at heq
        have := (hr.own p q1).2.2.1
        omega
      · have q2 : θ.has p' := h2.resolve_left e'
        rw [hle.blk p q1, hle.blk p' q2] at heq
        have := hr.apart p p' b b' hne q1 q2 hb hb' hw hl heq
        refine ⟨this.1, ?_⟩
        have hx : ∀ (c : AO) (p : Nat), θ.has p → c.ext (θ.put o w.heap.size bs sz es) p = c.ext θ p := fun c p hp => by cases c <;> simp only [AO.ext, hle.bas p hp]
        rw [hx b' p' q2, hx b p q1]; exact this.2
  · rw [hh]; simp; have := hr.size; omega
  · intro b hb hi; rw [hold b (Nat.lt_of_lt_of_le hb hr.size)]; exact hr.kept b hb hi
  · exact ⟨hpl.1.trans hr.plain.1, hpl.2.1.trans hr.plain.2.1, hpl.2.2.trans hr.plain.2.2⟩
  · intro p b hb
    obtain ⟨hb1, hb2⟩ := List.mem_filter.1 hb
    obtain ⟨p1, p2, p3⟩ := hr.pend p b hb1
    refine ⟨fun hx => hx.elim (fun e => ?_) p1, p2, p3⟩
    simp [e] at hb2
  · exact (List.Sublist.map _ List.filter_sublist).nodup hr.nodup

/-- an operation that lays something new -/
def NewOk (P : Program) (o : Oper) (f : OpF) : Prop := ∀ en h nx κ, f en h nx κ = true →
  ∃ (a0 : AO) (v : Nat → AV), a0.sh = [] ∧ nx < 2097152 ∧ κ (v nx) (setO h nx a0) (nx + 1) = true ∧ (∀ h' nx' κ', nx' < 2097152 → f en h' nx' κ' = κ' (v nx') (setO h' nx' a0) (nx' + 1)) ∧
    ∀ w0 pd θ (a : Act) w h1 nx1 o', ER θ en a.tmps → HR P w0 pd θ h1 nx1 w → (o', a0) ∈ pd →
      ∃ u θ' w', θ.le θ' ∧ VR θ' (v o') u ∧ HR P w0 (pd.filter fun q => q.1 != o') θ' h1 nx1 w' ∧ (execOp a.eval o).run P w = .ok (.value u) w'
theorem newK_true {a : AO} {h : H} {nx : Nat} {κ : Nat → H → Nat → R} (e : newK a h nx κ = true) : nx < 2097152 ∧ κ nx (setO h nx a) (nx + 1) = true := by
  obtain ⟨h1, h2⟩ := br_t e
  refine ⟨by simpa [Nat.blt_eq] using h1, ?_⟩
  rw [put_eq, fnat_eq] at h2
  exact h2
theorem newK_eq {a : AO} {h : H} {nx : Nat} (hn : nx < 2097152) (κ : Nat → H → Nat → R) : newK a h nx κ = κ nx (setO h nx a) (nx + 1) := by
  unfold newK
  rw [show Nat.blt nx 2097152 = true by simpa [Nat.blt_eq] using hn]
  show put nx a h _ = _
  rw [put_eq, fnat_eq]
theorem deep_ge (n : Nat) : n ≤ 8 ^ deep n := by
  unfold deep
  cases h1 : Nat.ble n 8 with
  | true => have := Nat.le_of_ble_eq_true h1; show n ≤ 8 ^ 1; omega
  | false =>
    cases h2 : Nat.ble n 64 with
    | true => have := Nat.le_of_ble_eq_true h2; show n ≤ 8 ^ 2; omega
    | false =>
      cases h3 : Nat.ble n 512 with
      | true => have := Nat.le_of_ble_eq_true h3; show n ≤ 8 ^ 3; omega
      | false =>
        cases h4 : Nat.ble n 4096 with
        | true => have := Nat.le_of_ble_eq_true h4; show n ≤ 8 ^ 4; omega
        | false =>
          cases h5 : Nat.ble n 32768 with
          | true => have := Nat.le_of_ble_eq_true h5; show n ≤ 8 ^ 5; omega
          | false =>
            cases h6 : Nat.ble n 2097152 with
            | true => have := Nat.le_of_ble_eq_true h6; show n ≤ 8 ^ 7; omega
            | false =>
              show n ≤ 8 ^ n
              exact Nat.le_of_lt (Nat.lt_pow_self (by omega))
/-- an object of n cells, as it is laid -/
noncomputable def newO (l : List AV) (n : Nat) : AO := @Bool.rec (fun _ => AO) (.ce n 0 l n (deep n) (E (deep n)) true []) (.sm l) (Nat.ble n 16)
theorem newL_eq (l : List AV) (n : Nat) (h : H) (nx : Nat) (κ : Nat → H → Nat → R) : newL l n h nx κ = newK (newO l n) h nx κ := by
  unfold newL newO
  cases Nat.ble n 16 <;> rfl
theorem newO_sh (l : List AV) (n : Nat) : (newO l n).sh = [] := by unfold newO; cases Nat.ble n 16 <;> rfl
theorem cellO_E {z : List AV} {zl d i : Nat} : cellO z zl d (E d) i = z[i % zl]? := by
  unfold cellO E
  rw [getL_repL]
theorem OR_newO {P : Program} {θ : Th} {w : World} {o : Nat} {l : List AV} {ty : TypeId} (hb : w.heap[θ.blk o]? = some (.cells (toVs θ l).toArray ty (0, 0))) (hbas : θ.bas o = 0) (hl : Oks θ l) (h1 : l.all one = true) : OR P θ w o (newO l l.length) := by
  unfold newO
  cases hn : Nat.ble l.length 16 with
  | true => exact ⟨ty, hb, hbas, hl, h1⟩
  | false =>
    refine ⟨_, ty, (0, 0), hb, deep_ge _, fun i hi => ⟨l[i], ?_, Oks_iff.1 hl _ (List.getElem_mem hi), List.all_eq_true.1 h1 _ (List.getElem_mem hi), ?_⟩, .inl rfl, fun _ => ⟨hbas, by simp, fun _ => rfl⟩, fun h => absurd rfl h⟩
    · rw [cellO_E, Nat.mod_eq_of_lt hi]; exact List.getElem?_eq_getElem hi
    · rw [hbas, Nat.zero_add, List.getElem?_toArray, toVs_get, List.getElem?_eq_getElem hi]; rfl
section
variable {P : Program} {o : Oper} {x y : XF} {X Y : Operand}
theorem toVs_mono {θ θ' : Th} (h : θ.le θ') {l : List AV} (hl : Oks θ l) : toVs θ' l = toVs θ l ∧ Oks θ' l := monos h l hl
/-- a block of cells laid for an object -/
theorem lay_cells {w0 w w' : World} {pd : List (Nat × AO)} {θ : Th} {h : H} {nx : Nat} (hr : HR P w0 pd θ h nx w) {o' : Nat} {l : List AV} {ty : TypeId} (hp : (o', newO l l.length) ∈ pd) (hw : w' = w.alloc (.cells (toVs θ l).toArray ty)) (hl : Oks θ l) (h1 : l.all one = true) :
    HR P w0 (pd.filter fun q => q.1 != o') (θ.put o' w.heap.size 0 0 0) h nx w' ∧ θ.le (θ.put o' w.heap.size 0 0 0) := by
  subst hw
  have hno := (hr.pend o' _ hp).1
  have hle := Th.le_put hno w.heap.size 0 0 0
  refine hr.real hp (w' := w.alloc (.cells (toVs θ l).toArray ty)) (ob := .cells (toVs θ l).toArray ty) rfl ⟨rfl, rfl, rfl⟩ ?_ (newO_sh _ _)
  refine OR_newO (ty := ty) ?_ (by simp) (toVs_mono hle hl).2 h1
  rw [Th.put_blk, (toVs_mono hle hl).1]
  show (w.heap.push _)[w.heap.size]? = _
  simp
theorem n_al {el : TypeId} {z : List AV} (hz : zeroT P el = some z) (ho : o.op = .alloc el) : NewOk P o (oAl z z.length) := by
  intro en h nx κ e
  obtain ⟨ti, zv, i1, i2, i3, i4⟩ := zeroT_some hz
  have e : newL z z.length h nx (fun o h nx => κ (.p o 0) h nx) = true := e
  rw [newL_eq] at e
  obtain ⟨hn, e1⟩ := newK_true e
  refine ⟨newO z z.length, fun o => .p o 0, newO_sh _ _, hn, e1, fun h' nx' κ' hn' => ?_, fun w0 pd θ a w h1 nx1 o' hE hR hp => ?_⟩
  · show newL z z.length h' nx' _ = _
    rw [newL_eq, newK_eq hn']
  · obtain ⟨k1, k2⟩ := lay_cells hR hp (ty := el) rfl (i4 θ).1 i3
    refine ⟨.pointer (some ⟨w.heap.size, 0, none⟩), _, _, k2, ⟨Th.put_has .., by simp [toV]⟩, k1, ?_⟩
    simp [execOp, ho, Instr.alloc, zeroValue, typeInfo, i1, i2, newVar, newRow, (i4 θ).2]
theorem n_bx {el : TypeId} (hx : XOk x X) (ho : o.op = .box el X) : NewOk P o (oBx x) := by
  intro en h nx κ e
  obtain ⟨v, hv, hr⟩ := hx en
  simp only [oBx, hv] at e
  obtain ⟨hc, e1, hcr⟩ := cellsK_true e
  simp only [fnat_eq, lenN_eq, newL_eq] at e1
  obtain ⟨hn, e2⟩ := newK_true e1
  refine ⟨newO (cellsV v) (cellsV v).length, fun o => .p o 0, newO_sh _ _, hn, e2, fun h' nx' κ' hn' => ?_, fun w0 pd θ a w h1 nx1 o' hE hR hp => ?_⟩
  · simp only [oBx, hv, hc, fnat_eq, lenN_eq, newL_eq, newK_eq hn']
  · obtain ⟨q1, q2, q3⟩ := hcr (hr θ a hE)
    obtain ⟨k1, k2⟩ := lay_cells hR hp (ty := el) rfl q1 q2
    refine ⟨.pointer (some ⟨w.heap.size, 0, none⟩), _, _, k2, ⟨Th.put_has .., by simp [toV]⟩, k1, ?_⟩
    have hcs : (a.eval X).cells = (toVs θ (cellsV v)).toArray := by rw [← q3]
    simp [execOp, ho, Instr.box, newVar, newRow, hcs]
theorem rep_get {α : Type} {l : List α} : ∀ (n i : Nat), i < n * l.length → (rep n l)[i]? = l[i % l.length]?
  | 0, i, h => by simp at h
  | n + 1, i, h => by
    rw [rep]
    by_cases hi : i < l.length
    · rw [List.getElem?_append_left hi, Nat.mod_eq_of_lt hi]
    · rw [List.getElem?_append_right (by omega), rep_get n _ (by rw [Nat.succ_mul] at h; omega)]
      congr 1
      rw [← Nat.mod_eq_sub_mod (by omega)]
theorem rep_length {α : Type} (l : List α) : ∀ n, (rep n l).length = n * l.length
  | 0 => by simp [rep]
  | n + 1 => by rw [rep, List.length_append, rep_length l n, Nat.succ_mul]; omega
theorem rep_all {p : AV → Bool} {l : List AV} (h : l.all p = true) : ∀ n, (rep n l).all p = true
  | 0 => rfl
  | n + 1 => by rw [rep, List.all_append, h, rep_all h n]; rfl
theorem rep_oks {θ : Th} {l : List AV} (h : Oks θ l) : ∀ n, Oks θ (rep n l)
  | 0 => trivial
  | n + 1 => Oks_append.2 ⟨h, rep_oks h n⟩
/-- noughts of rows -/
theorem zeros_eq {θ : Th} {z : List AV} {zc : Array Value} (hz : zc = (toVs θ z).toArray) (n : Nat) : (Array.range (n * z.length)).map (fun i => zc[i % zc.size]!) = (toVs θ (rep n z)).toArray := by
  have hsz : zc.size = z.length := by rw [hz]; simp
  apply Array.ext_getElem?
  intro i
  by_cases hi : i < n * z.length
  · have hz0 : 0 < z.length := by rcases Nat.eq_zero_or_pos z.length with h | h; · rw [h] at hi; omega
                                  · exact h
    have hlt : i % z.length < z.length := Nat.mod_lt _ hz0
    rw [Array.getElem?_map, Array.getElem?_range, if_pos hi]
    simp only [Option.map_some, List.getElem?_toArray, toVs_get, rep_get n i hi, hsz]
    rw [List.getElem?_eq_getElem hlt]
    subst hz
    simp only [Option.map_some, Option.some.injEq]
    rw [getElem!_pos _ _ (by simpa using hlt)]
    simp [toVs_map]
  · rw [Array.getElem?_eq_none (by simp; omega), Array.getElem?_eq_none (by simp [rep_length]; omega)]
theorem n_bsl {t el : TypeId} {len s : Nat} {ps : Array (Nat × Operand)} {pts : List Pt} {z : List AV} (hu : P.underlying t = some (.slice el)) (hz : zeroT P el = some z) (hs : sizeT P el = some s) (hzs : z.length = s) (hb : len * s ≤ 2 ^ 24)
    (hp : parts (fun i => some (i * s, s)) ps.toList = some pts) (ho : o.op = .buildSlice t len ps) : NewOk P o (oBsl (rep len z) (len * s) len (dP pts)) := by
  intro en h nx κ e
  subst hzs
  obtain ⟨ti, zv, i1, i2, i3, i4⟩ := zeroT_some hz
  obtain ⟨l, k1, k2, k3⟩ := fill_ok (place' := fun i => some (i * z.length, z.length)) (fun i r hr => hr) hp e
  have hll : l.length = len * z.length := by rw [k2, rep_length]
  have e : newL l (len * z.length) h nx (fun o h nx => κ (.sl o 0 len (some len)) h nx) = true := by
    have := k1 fun l => newL l (len * z.length) h nx (fun o h nx => κ (.sl o 0 len (some len)) h nx)
    rw [← this]; exact e
  rw [newL_eq, ← hll] at e
  obtain ⟨hn, e1⟩ := newK_true e
  refine ⟨newO l l.length, fun o => .sl o 0 len (some len), newO_sh _ _, hn, e1, fun h' nx' κ' hn' => ?_, fun w0 pd θ a w h1 nx1 o' hE hR hp' => ?_⟩
  · refine (k1 _).trans ?_
    rw [newL_eq, ← hll, newK_eq hn']
  · obtain ⟨j1, j2, j3⟩ := k3 θ a hE (rep_oks (i4 θ).1 _) (rep_all i3 _)
    obtain ⟨q1, q2⟩ := lay_cells hR hp' (ty := el) rfl j1 j2
    refine ⟨.slice (some ⟨w.heap.size, 0, none⟩) len len, _, _, q2, ⟨Th.put_has .., by simp [toV]⟩, q1, ?_⟩
    have hps : (ps.map fun (i, x) => (i, a.eval x)).toList = ps.toList.map fun q => (q.1, a.eval q.2) := by simp
    have hn24 : ¬ (len * z.length > 2 ^ 24) := by omega
    have hz' : (zeroValue el).run P w = .ok zv w := by simp [zeroValue, typeInfo, i1, i2]
    by_cases h0 : len * z.length = 0
    · have hrow : (Array.range (len * z.length)).map (fun i => (#[] : Array Value)[i % (#[] : Array Value).size]!) = (toVs θ (rep len z)).toArray := by
        have : rep len z = [] := List.eq_nil_of_length_eq_zero (by rw [rep_length]; exact h0)
        rw [this, h0]; simp [toVs]
      simp only [execOp, ho, Instr.buildSlice, Sem.run_bind, run_underlying hu, Result.andThen, run_size hs, if_neg hn24, if_pos h0, Sem.run_pure, hps, hrow, j3, newRow, newObj]
      rfl
    · have hrow := zeros_eq (i4 θ).2 len
      simp only [execOp, ho, Instr.buildSlice, Sem.run_bind, run_underlying hu, Result.andThen, run_size hs, if_neg hn24, if_neg h0, Sem.run_pure, hz', hps, hrow, j3, newRow, newObj]
      rfl
theorem n_mks {t el : TypeId} {s b : Nat} {z : List AV} (hx : XOk x X) (hy : XOk y Y) (hu : P.underlying t = some (.slice el)) (hz : zeroT P el = some z) (hs : sizeT P el = some s) (hzs : z.length = s) (hs0 : 0 < s) (hb : bytesT P el = some b)
    (ho : o.op = .makeSlice t X Y) : NewOk P o (oMks x y s z b) := by
  intro en h nx κ e
  subst hzs
  obtain ⟨v, hv, hr⟩ := hx en
  obtain ⟨v2, hv2, hr2⟩ := hy en
  simp only [oMks, hv, hv2] at e
  obtain ⟨kl, l, rfl, e1⟩ := asN_true e
  obtain ⟨kc, c, rfl, e2⟩ := asN_true e1
  obtain ⟨h1, e3⟩ := br_t e2
  obtain ⟨h2, e4⟩ := br_t e3
  obtain ⟨h3, e5⟩ := br_t e4
  rw [fnat_eq] at e5
  obtain ⟨hn, e6⟩ := newK_true e5
  have h1' : l ≤ c := Nat.le_of_ble_eq_true h1
  have h2' : c ≤ 9223372036854775807 := Nat.le_of_ble_eq_true h2
  have h3' : b * c ≤ 281474976710656 := Nat.le_of_ble_eq_true h3
  obtain ⟨ti, zv, i1, i2, i3, i4⟩ := zeroT_some hz
  have hdo : ∀ h' nx' κ', nx' < 2097152 → oMks x y z.length z b en h' nx' κ' = κ' (.sl nx' 0 l (some c)) (setO h' nx' (.ce (c * z.length) 0 z z.length (deep (c * z.length)) (E (deep (c * z.length))) true [])) (nx' + 1) := by
    intro h' nx' κ' hn'
    simp only [oMks, hv, hv2]
    show br (Nat.ble l c) (br _ (br _ (fnat (Nat.mul c z.length) fun n => newK _ h' nx' fun o h nx => κ' (.sl o 0 l (some c)) h nx) false) false) false = _
    rw [h1, h2, h3, fnat_eq]
    show newK _ h' nx' (fun o h nx => κ' (.sl o 0 l (some c)) h nx) = _
    rw [newK_eq hn']
    rfl
  refine ⟨.ce (c * z.length) 0 z z.length (deep (c * z.length)) (E (deep (c * z.length))) true [], fun o => .sl o 0 l (some c), rfl, hn, e6, hdo, fun w0 pd θ a w hh nx1 o' hE hR hp => ?_⟩
  have hno := (hR.pend o' _ hp).1
  have hle := Th.le_put hno w.heap.size 0 0 0
  have hwr : ∀ n : Nat, n ≤ c → IntKind.i64.wrap (n : Int) = n := fun n hn => by
    have := wrap_nat (k := 3) (m := n) (by show n < 9223372036854775808; omega)
    exact this
  have hkd : kindOf kl = kindOf kl := rfl
  obtain ⟨q1, q2⟩ := hR.real hp (ob := .cells (toVs θ (rep c z)).toArray el) (w' := w.alloc (.cells (toVs θ (rep c z)).toArray el)) rfl ⟨rfl, rfl, rfl⟩ (bs := 0) (sz := 0) (es := 0) (by
    refine ⟨(toVs θ (rep c z)).toArray, el, (0, 0), ?_, deep_ge _, fun i hi => ?_, .inl rfl, fun _ => ⟨by simp, by simp [rep_length], fun _ => rfl⟩, fun h => absurd rfl h⟩
    · rw [Th.put_blk]
      show (w.heap.push _)[w.heap.size]? = _
      simp
    · have hm : i % z.length < z.length := Nat.mod_lt _ hs0
      refine ⟨z[i % z.length], ?_, (toVs_mono hle (i4 θ).1).2 |> fun h => Oks_iff.1 h _ (List.getElem_mem hm), List.all_eq_true.1 i3 _ (List.getElem_mem hm), ?_⟩
      · rw [cellO_E]; exact List.getElem?_eq_getElem hm
      · rw [Th.put_bas, Nat.zero_add, List.getElem?_toArray, toVs_get, rep_get c i hi, List.getElem?_eq_getElem hm]
        simp only [Option.map_some, Option.some.injEq]
        exact (mono hle _ (Oks_iff.1 (i4 θ).1 _ (List.getElem_mem hm))).1.symm) rfl
  refine ⟨.slice (some ⟨w.heap.size, 0, none⟩) l c, _, _, q2, ⟨Th.put_has .., by simp [toV]⟩, q1, ?_⟩
  have hX := (hr θ a hE).i
  have hY := (hr2 θ a hE).i
  obtain ⟨bi, hb1, hb2⟩ : ∃ i, P.info? el = some i ∧ i.bytes = b := by
    unfold bytesT at hb
    exact Option.map_eq_some_iff.1 hb
  have hti : bi = ti := by rw [i1] at hb1; injection hb1 with hb1; exact hb1.symm
  subst hti
  have hw1 := hwr l h1'
  have hw2 := hwr c (Nat.le_refl _)
  have t1 : ¬ ((c : Int) < 0) := by omega
  have t2 : ¬ ((bi.bytes : Int) * (c : Int) > 2 ^ 48) := by
    rw [hb2]
    rw [← Int.natCast_mul]
    have : (2 : Int) ^ 48 = 281474976710656 := by decide
    omega
  have t3 : ¬ ((l : Int) < 0) := by omega
  have t4 : ¬ ((l : Int) > (c : Int)) := by omega
  have hz' : (zeroValue el).run P w = .ok zv w := by simp [zeroValue, typeInfo, i1, i2]
  by_cases h0 : c * z.length = 0
  · have hrow : (Array.range (c * z.length)).map (fun i => (#[] : Array Value)[i % (#[] : Array Value).size]!) = (toVs θ (rep c z)).toArray := by
      have : rep c z = [] := List.eq_nil_of_length_eq_zero (by rw [rep_length]; exact h0)
      rw [this, h0]; simp [toVs]
    simp only [execOp, ho, Instr.makeSlice, Sem.run_bind, run_underlying hu, Result.andThen, hX, hY, asInt, asIntOf, Sem.run_pure, typeInfo, run_program, i1, Int.ofNat_eq_natCast, hw1, hw2, t1, t2, t3, t4, decide_false, Bool.or_false, Bool.false_or, Bool.false_eq_true, if_false, run_askRoom, Int.toNat_natCast, run_size hs, if_pos h0, hrow, newRow, newObj]
    rfl
  · have hrow := zeros_eq (i4 θ).2 c
    simp only [execOp, ho, Instr.makeSlice, Sem.run_bind, run_underlying hu, Result.andThen, hX, hY, asInt, asIntOf, Sem.run_pure, typeInfo, run_program, i1, Int.ofNat_eq_natCast, hw1, hw2, t1, t2, t3, t4, decide_false, Bool.or_false, Bool.false_or, Bool.false_eq_true, if_false, run_askRoom, Int.toNat_natCast, run_size hs, if_neg h0, hz', hrow, newRow, newObj]
    rfl
end
end Go.AM
