/-
  AM, 12: maps: keys found; operations that read. Conditions: none.
-/
import Derived.Test.YthdnombgdnpcbaaGreatAmJ
import Derived.Laws.BytesString
namespace Go.AM
open Go

/-! ### Keys found -/
def Hit (q : QF) (k : AV) : List ME → Option Nat → Prop
  | [], r => r = none
  | .mk k' _ _ :: es, r => ∃ c, (∀ κ, q k k' κ = κ c) ∧ ((c = true ∧ r = some 0) ∨ (c = false ∧ ∃ r', Hit q k es r' ∧ r = r'.map (· + 1)))
noncomputable def vat (es : List ME) (i : Nat) : AV := match es[i]? with | some (.mk _ v _) => v | none => undef
def bat (es : List ME) (i : Nat) : Nat := match es[i]? with | some (.mk _ _ b) => b | none => 0
def Det (q : QF) : Prop := ∀ x y κ, q x y κ = true → ∃ c, ∀ κ', q x y κ' = κ' c
theorem Hit.lt {q : QF} {k : AV} : ∀ {es : List ME} {r : Option Nat}, Hit q k es r → ∀ i, r = some i → i < es.length
  | [], r, h, i, hi => by rw [show r = none from h] at hi; cases hi
  | .mk k' _ _ :: es, r, h, i, hi => by
    obtain ⟨c, _, ⟨_, h2⟩ | ⟨_, r', h3, h4⟩⟩ := h
    · rw [h2] at hi; injection hi with hi; subst hi; simp
    · rw [h4] at hi
      obtain ⟨j, hj, rfl⟩ := Option.map_eq_some_iff.1 hi
      have := Hit.lt h3 j hj
      simp; omega
theorem fndK_true {q : QF} (hq : Det q) {k : AV} : ∀ {es : List ME} {nf : R} {κ : AV → R}, fndK q k es nf κ = true →
    ∃ r, Hit q k es r ∧ ∀ nf' κ', fndK q k es nf' κ' = match r with | none => nf' | some i => κ' (vat es i)
  | [], nf, κ, e => ⟨none, rfl, fun _ _ => rfl⟩
  | .mk k' v b :: es, nf, κ, e => by
    have e : q k k' (fun c => br c (κ v) (fndK q k es nf κ)) = true := e
    obtain ⟨c, hc⟩ := hq _ _ _ e
    rw [hc] at e
    cases c with
    | true => exact ⟨some 0, ⟨true, hc, .inl ⟨rfl, rfl⟩⟩, fun nf' κ' => (hc _).trans rfl⟩
    | false =>
      obtain ⟨r, h1, h2⟩ := fndK_true hq (show fndK q k es nf κ = true from e)
      refine ⟨r.map (· + 1), ⟨false, hc, .inr ⟨rfl, r, h1, rfl⟩⟩, fun nf' κ' => (hc _).trans ((h2 nf' κ').trans ?_)⟩
      cases r <;> rfl
def setE (k v : AV) : List ME → Nat → List ME
  | [], _ => []
  | .mk _ _ b :: es, 0 => .mk k v b :: es
  | e :: es, i + 1 => e :: setE k v es i
theorem updK_true {q : QF} (hq : Det q) {k v : AV} : ∀ {es : List ME} {nf : R} {κ : List ME → R}, updK q k v es nf κ = true →
    ∃ r, Hit q k es r ∧ ∀ nf' κ', updK q k v es nf' κ' = match r with | none => nf' | some i => κ' (setE k v es i)
  | [], nf, κ, e => ⟨none, rfl, fun _ _ => rfl⟩
  | .mk k' v' b :: es, nf, κ, e => by
    have e : q k k' (fun c => br c (κ (.mk k v b :: es)) (updK q k v es nf fun r => κ (.mk k' v' b :: r))) = true := e
    obtain ⟨c, hc⟩ := hq _ _ _ e
    rw [hc] at e
    cases c with
    | true => exact ⟨some 0, ⟨true, hc, .inl ⟨rfl, rfl⟩⟩, fun nf' κ' => (hc _).trans rfl⟩
    | false =>
      obtain ⟨r, h1, h2⟩ := updK_true hq (show updK q k v es nf _ = true from e)
      refine ⟨r.map (· + 1), ⟨false, hc, .inr ⟨rfl, r, h1, rfl⟩⟩, fun nf' κ' => (hc _).trans ((h2 nf' _).trans ?_)⟩
      cases r <;> rfl
def setKy (k : AV) : List ME → Nat → List ME
  | [], _ => []
  | .mk _ v b :: es, 0 => .mk k v b :: es
  | e :: es, i + 1 => e :: setKy k es i
theorem entK_true {q : QF} (hq : Det q) {k : AV} : ∀ {es : List ME} {nf : R} {κ : List ME → AV → Nat → R}, entK q k es nf κ = true →
    ∃ r, Hit q k es r ∧ ∀ nf' κ', entK q k es nf' κ' = match r with | none => nf' | some i => κ' (setKy k es i) (vat es i) (bat es i)
  | [], nf, κ, e => ⟨none, rfl, fun _ _ => rfl⟩
  | .mk k' v' b :: es, nf, κ, e => by
    have e : q k k' (fun c => br c (κ (.mk k v' b :: es) v' b) (entK q k es nf fun r v b' => κ (.mk k' v' b :: r) v b')) = true := e
    obtain ⟨c, hc⟩ := hq _ _ _ e
    rw [hc] at e
    cases c with
    | true => exact ⟨some 0, ⟨true, hc, .inl ⟨rfl, rfl⟩⟩, fun nf' κ' => (hc _).trans rfl⟩
    | false =>
      obtain ⟨r, h1, h2⟩ := entK_true hq (show entK q k es nf _ = true from e)
      refine ⟨r.map (· + 1), ⟨false, hc, .inr ⟨rfl, r, h1, rfl⟩⟩, fun nf' κ' => (hc _).trans ((h2 nf' _).trans ?_)⟩
      cases r <;> rfl
theorem delK_true {q : QF} (hq : Det q) {k : AV} : ∀ {es : List ME} {κ : List ME → R}, delK q k es κ = true →
    ∃ r, Hit q k es r ∧ ∀ κ', delK q k es κ' = match r with | none => κ' es | some i => κ' (es.eraseIdx i)
  | [], κ, e => ⟨none, rfl, fun _ => rfl⟩
  | .mk k' v' b :: es, κ, e => by
    have e : q k k' (fun c => br c (κ es) (delK q k es fun r => κ (.mk k' v' b :: r))) = true := e
    obtain ⟨c, hc⟩ := hq _ _ _ e
    rw [hc] at e
    cases c with
    | true => exact ⟨some 0, ⟨true, hc, .inl ⟨rfl, rfl⟩⟩, fun κ' => (hc _).trans rfl⟩
    | false =>
      obtain ⟨r, h1, h2⟩ := delK_true hq (show delK q k es _ = true from e)
      refine ⟨r.map (· + 1), ⟨false, hc, .inr ⟨rfl, r, h1, rfl⟩⟩, fun κ' => (hc _).trans ((h2 _).trans ?_)⟩
      cases r <;> rfl

section
variable {P : Program} {o : Oper} {x y : XF} {X Y : Operand}
/-- the key that was found is the model's -/
theorem find_hit {kt : TypeId} {g : Bool} {ks : List Nat} (hf : flatT P kt = some (g, ks)) {k : AV} {es : List ME} {r : Option Nat} (h : Hit (eqT g ks) k es r) {θ : Th} {u : Value} (hu : VR θ k u) (hes : ∀ e ∈ es, meOk θ e) (w : World) :
    (Instr.findKey kt u (es.map (meV θ))).run P w = .ok (r.map fun i => (i, toV θ (vat es i))) w ∧ ∀ i, r = some i → ∃ e, es[i]? = some e ∧ Instr.sameBits 10000 (meV θ e).key u = true := by
  have det : ∀ k', (∃ c, ∀ κ, eqT g ks k k' κ = κ c) → Ok θ k' → ∃ c, (∀ κ, eqT g ks k k' κ = κ c) ∧ (∀ w, (Op.equal kt u (toV θ k')).run P w = .ok c w) ∧ (c = true → Instr.sameBits 10000 (toV θ k') u = true) ∧
      ∀ d, P.underlying kt = some d → Instr.sameNow d u (toV θ k') = (if g then none else some c) := by
    rintro k' ⟨c, hc⟩ hok
    have e : eqT g ks k k' (fun c' => decide (c' = c)) = true := by rw [hc]; simp
    obtain ⟨c', h1, h2⟩ := eqT_ok hf e
    obtain ⟨j1, j2, _, j4⟩ := h2 θ u (toV θ k') hu ⟨hok, rfl⟩
    have : c' = c := by
      rw [h1] at e; simpa using e
    subst this
    exact ⟨c', h1, j1, j2, j4⟩
  obtain ⟨d, hd⟩ : ∃ d, P.underlying kt = some d := by
    rcases flatT_some hf with ⟨_, c, _, hc⟩ | ⟨_, _, ⟨fs, hu, _⟩ | ⟨n, el, c, hu, _⟩⟩
    · obtain ⟨d, hd, _⟩ := flatC_some hc; exact ⟨d, hd⟩
    · exact ⟨_, hu⟩
    · exact ⟨_, hu⟩
  have ask : ∀ (es : List ME) (r : Option Nat), Hit (eqT g ks) k es r → (∀ e ∈ es, meOk θ e) → ∀ i, (Instr.findAsking kt u (es.map (meV θ)) i).run P w = .ok (r.map fun j => (i + j, toV θ (vat es j))) w := by
    intro es
    induction es with
    | nil => intro r h _ i; rw [show r = none from h]; rfl
    | cons e es ih =>
      intro r h hes i
      obtain ⟨k', v, b⟩ := e
      obtain ⟨c, hc, hr⟩ := h
      obtain ⟨c', h1, h2, _, _⟩ := det k' ⟨c, hc⟩ (hes _ (List.mem_cons_self ..)).1
      have : c' = c := by have := (h1 fun x => decide (x = c)).symm.trans (hc fun x => decide (x = c)); simpa using this
      subst this
      simp only [List.map_cons, meV, Instr.findAsking, Sem.run_bind, h2, Result.andThen]
      rcases hr with ⟨rfl, rfl⟩ | ⟨rfl, r', h3, rfl⟩
      · rfl
      · have := ih r' h3 (fun e he => hes e (List.mem_cons_of_mem _ he)) (i + 1)
        simp only [Bool.false_eq_true, if_false]
        rw [this]
        cases r' with
        | none => rfl
        | some j =>
          show Result.ok (some (i + 1 + j, _)) w = Result.ok (some (i + (j + 1), _)) w
          rw [show i + 1 + j = i + (j + 1) by omega]; rfl
  have now : g = false → ∀ (es : List ME) (r : Option Nat), Hit (eqT g ks) k es r → (∀ e ∈ es, meOk θ e) → ∀ i, Instr.findNow d u (es.map (meV θ)) i = some (r.map fun j => (i + j, toV θ (vat es j))) := by
    intro hg es
    induction es with
    | nil => intro r h _ i; rw [show r = none from h]; rfl
    | cons e es ih =>
      intro r h hes i
      obtain ⟨k', v, b⟩ := e
      obtain ⟨c, hc, hr⟩ := h
      obtain ⟨c', h1, h2, _, h4⟩ := det k' ⟨c, hc⟩ (hes _ (List.mem_cons_self ..)).1
      have : c' = c := by have := (h1 fun x => decide (x = c)).symm.trans (hc fun x => decide (x = c)); simpa using this
      subst this
      have h4 := h4 d hd
      rw [hg] at h4
      simp only [Bool.false_eq_true, if_false] at h4
      simp only [List.map_cons, meV, Instr.findNow, h4]
      rcases hr with ⟨rfl, rfl⟩ | ⟨rfl, r', h3, rfl⟩
      · rfl
      · have := ih r' h3 (fun e he => hes e (List.mem_cons_of_mem _ he)) (i + 1)
        show Instr.findNow d u (es.map (meV θ)) (i + 1) = _
        rw [this]
        cases r' with
        | none => rfl
        | some j =>
          show some (some (i + 1 + j, _)) = some (some (i + (j + 1), _))
          rw [show i + 1 + j = i + (j + 1) by omega]; rfl
  refine ⟨?_, ?_⟩
  · simp only [Instr.findKey, Sem.run_bind, run_underlying hd, Result.andThen]
    cases hg : g with
    | false =>
      have := now hg es r h hes 0
      rw [this]
      simp only [Nat.zero_add, Sem.run_pure]
    | true =>
      cases es with
      | nil => rw [show r = none from h]; rfl
      | cons e es' =>
        obtain ⟨k', v, b⟩ := e
        have hh := h
        obtain ⟨c, hc, _⟩ := hh
        obtain ⟨c', h1, h2, _, h4⟩ := det k' ⟨c, hc⟩ (hes _ (List.mem_cons_self ..)).1
        have h4 := h4 d hd
        rw [hg] at h4
        have hn : Instr.findNow d u ((ME.mk k' v b :: es').map (meV θ)) 0 = none := by
          simp only [List.map_cons, meV, Instr.findNow, h4, if_true]
        rw [hn]
        have := ask _ r h hes 0
        simp only [Nat.zero_add] at this
        exact this
  · clear ask now
    intro i hi
    subst hi
    have go : ∀ (es : List ME) (i : Nat), Hit (eqT g ks) k es (some i) → (∀ e ∈ es, meOk θ e) → ∃ e, es[i]? = some e ∧ Instr.sameBits 10000 (meV θ e).key u = true := by
      intro es
      induction es with
      | nil => intro i h _; cases h
      | cons e es ih =>
        intro i h hes
        obtain ⟨k', v, b⟩ := e
        obtain ⟨c, hc, hr⟩ := h
        obtain ⟨c', h1, _, h3, _⟩ := det k' ⟨c, hc⟩ (hes _ (List.mem_cons_self ..)).1
        have : c' = c := by have := (h1 fun x => decide (x = c)).symm.trans (hc fun x => decide (x = c)); simpa using this
        subst this
        rcases hr with ⟨hct, hr⟩ | ⟨_, r', h4, hr⟩
        · injection hr with hr; subst hr
          exact ⟨_, rfl, h3 hct⟩
        · cases r' with
          | none => cases hr
          | some j =>
            injection hr with hr; subst hr
            obtain ⟨e, q1, q2⟩ := ih j h4 (fun e he => hes e (List.mem_cons_of_mem _ he))
            exact ⟨e, by simpa using q1, q2⟩
    exact go es i h hes
theorem eqT_det {t : TypeId} {g : Bool} {ks : List Nat} (h : flatT P t = some (g, ks)) : Det (eqT g ks) := fun _ _ _ e => let ⟨c, h1, _⟩ := eqT_ok h e; ⟨c, h1⟩

/-! ### Structs compared -/
theorem p_eqs {neg g : Bool} {ks : List Nat} {t t2 : TypeId} (hx : XOk x X) (hy : XOk y Y) (hf : flatT P t = some (g, ks)) (hg : ∃ d, P.underlying t = some d ∧ ∀ k, d ≠ .int k) (hg2 : g = true) (ho : o.op = .binOp (if neg then .neq else .eql) t X Y t2) : PureOk P o (oEqs neg (eqT g ks) x y) := by
  intro en h nx κ e
  obtain ⟨v, hv, hr⟩ := hx en
  obtain ⟨v2, hv2, hr2⟩ := hy en
  simp only [oEqs, hv, hv2] at e
  obtain ⟨c, h1, h2⟩ := eqT_ok hf e
  subst hg2
  obtain ⟨l, rfl, e1⟩ := asAg_true (show asAg _ v = true from e)
  obtain ⟨l2, rfl, e2⟩ := asAg_true e1
  refine ⟨.b (if neg then !c else c), fun h' nx' κ' => ?_, fun θ ac w hE => ⟨_, vr_b θ _, ?_⟩⟩
  · simp only [oEqs, hv, hv2, h1]
    rw [kB_eq, negc_eq]
  · obtain ⟨j1, _, j3, _⟩ := h2 θ _ _ (hr θ ac hE) (hr2 θ ac hE)
    refine bin_run ho rfl rfl (j3 _ _ _ w) ?_
    have q1 := (hr θ ac hE).ag.1
    have q2 := (hr2 θ ac hE).ag.1
    have j1 := j1 w
    rw [q1, q2] at j1 ⊢
    cases neg <;> simp [binOp, j1]

/-! ### Operations that read -/
def ReadOk (P : Program) (o : Oper) (f : OpF) : Prop := ∀ en h nx κ, f en h nx κ = true →
  ∃ v, (∀ h', Ext h h' → ∀ nx' κ', f en h' nx' κ' = κ' v h' nx') ∧ ∀ θ (a : Act) w w0 pd nx0, ER θ en a.tmps → HR P w0 pd θ h nx0 w → ∃ u, VR θ v u ∧ (execOp a.eval o).run P w = .ok (.value u) w
theorem PureOk.read {f : OpF} (hf : PureOk P o f) : ReadOk P o f := fun en h nx κ e =>
  let ⟨v, h1, h2⟩ := hf en h nx κ e
  ⟨v, fun h' _ nx' κ' => h1 h' nx' κ', fun θ a w _ _ _ hE _ => h2 θ a w hE⟩
theorem run_loadVar_agg {w : World} {t : TypeId} {k : Nat} (hg : aggT P t = some true) (hk : sizeT P t = some k) {b o : Nat} {vs : List Value} (hl : vs.length = k)
    (hc : ∀ j v, vs[j]? = some v → w.cell? ⟨b, o + j, none⟩ = some v) : (loadVar t ⟨b, o, none⟩).run P w = .ok (.agg vs.toArray) w := by
  subst hl
  obtain ⟨d, hd, hag⟩ := aggT_some (w := w) hg
  simp only [loadVar, Sem.run_bind, hag, Result.andThen, if_true, run_size hk]
  rw [run_loadCells_list (P := P) w ⟨b, o, none⟩ vs (fun j v hj => by rw [Addr.add_lit]; exact hc j v hj)]
  rfl
theorem run_loadVar_one {w : World} {t : TypeId} (hg : aggT P t = some false) {p : Addr} {v : Value} (hc : w.cell? p = some v) : (loadVar t p).run P w = .ok v w := by
  obtain ⟨d, hd, hag⟩ := aggT_some (w := w) hg
  simp only [loadVar, Sem.run_bind, hag, Result.andThen]
  simp [hc]
/-- a continuation that says what came -/
noncomputable def is1 (v : AV) : K := fun v' _ _ => @decide (v' = v) (Classical.propDecidable _)
theorem r_ld {t : TypeId} {n : Nat} (hx : XOk x X) (hg : aggT P t = some true) (hn : sizeT P t = some n) (ho : o.op = .load t X) : ReadOk P o (oLd x n) := by
  intro en h nx κ e
  obtain ⟨v, hv, hr⟩ := hx en
  simp only [oLd, hv] at e
  obtain ⟨b, off, rfl, e1⟩ := asP_true e
  have hdet : ∃ vs, ∀ h', Ext h h' → ∀ κ', rdK b off n h' κ' = κ' vs := by
    obtain ⟨a, ha, e2⟩ := get_true e1
    have ext : ∀ h', Ext h h' → ∀ κ', rdK b off n h' κ' = rdK b off n h κ' := fun h' hx κ' => by
      unfold rdK
      rw [get_is ha, get_is (hx b a ha)]
    cases a with
    | sm l =>
      simp only [dropL_eq, takeK_eq, List.length_drop] at e2
      split at e2
      · rename_i hn
        refine ⟨(l.drop off).take n, fun h' hx κ' => ?_⟩
        rw [ext h' hx]
        unfold rdK
        rw [get_is ha]
        simp only [dropL_eq, takeK_eq, List.length_drop]
        rw [if_pos hn]
      · cases e2
    | ce N es z zl d t top sh =>
      obtain ⟨hle, e3⟩ := br_t e2
      obtain ⟨vs, k1, k2, k3⟩ := cellsT_true e3
      refine ⟨vs, fun h' hx κ' => ?_⟩
      rw [ext h' hx]
      unfold rdK
      rw [get_is ha]
      show br (Nat.ble (off + n) N) _ false = _
      rw [show Nat.ble (off + n) N = true from hle]
      exact k3 κ'
    | mp es c => cases e2
    | it m s1 s2 s3 => cases e2
    | lp a b c d e f => cases e2
    | df b => cases e2
    | dead => cases e2
  obtain ⟨vs, hdet⟩ := hdet
  refine ⟨.ag vs, fun h' hx nx' κ' => ?_, fun θ ac w w0 pd nx0 hE hR => ?_⟩
  · simp only [oLd, hv]
    exact hdet h' hx _
  · obtain ⟨hpx, hhas⟩ := (hr θ ac hE).p
    obtain ⟨vs', k1, k2, _, k4, k5, k6⟩ := rd_ok hR hhas e1
    have hvs : vs' = vs := by
      have h1 := k2 h (Ext.refl h) (fun l => @decide (l = vs) (Classical.propDecidable _))
      rw [hdet h (Ext.refl h)] at h1
      simpa using h1.symm
    subst hvs
    refine ⟨.agg (toVs θ vs').toArray, ⟨⟨k4, k5⟩, rfl⟩, ?_⟩
    have hl := run_loadVar_agg (w := w) hg hn (vs := toVs θ vs') (by simp [k1]) k6
    simp [execOp, ho, hpx, Instr.loadAt, Instr.sureAddr, hl]
theorem r_ld1 {t : TypeId} (hx : XOk x X) (hg : aggT P t = some false) (ho : o.op = .load t X) : ReadOk P o (oLd1 x) := by
  intro en h nx κ e
  obtain ⟨v, hv, hr⟩ := hx en
  simp only [oLd1, hv] at e
  obtain ⟨b, off, rfl, e1⟩ := asP_true e
  have hdet : ∃ v, ∀ h', Ext h h' → ∀ κ', rd1 b off h' κ' = κ' v := by
    obtain ⟨a, ha, e2⟩ := get_true e1
    have ext : ∀ h', Ext h h' → ∀ κ', rd1 b off h' κ' = rd1 b off h κ' := fun h' hx κ' => by
      unfold rd1
      rw [get_is ha, get_is (hx b a ha)]
    cases a with
    | sm l =>
      simp only [nthK_eq] at e2
      cases hl : l[off]? with
      | none => rw [hl] at e2; cases e2
      | some v =>
        refine ⟨v, fun h' hx κ' => ?_⟩
        rw [ext h' hx]
        unfold rd1
        rw [get_is ha]
        simp only [nthK_eq, hl]
    | ce N es z zl d t top sh =>
      obtain ⟨hlt, e3⟩ := br_t e2
      rw [cellK_eq] at e3
      cases hc : cellO z zl d t off with
      | none => rw [hc] at e3; cases e3
      | some v =>
        refine ⟨v, fun h' hx κ' => ?_⟩
        rw [ext h' hx]
        unfold rd1
        rw [get_is ha]
        show br (Nat.blt off N) (cellK z zl d t κ' off) false = _
        rw [hlt, cellK_eq, hc]
        rfl
    | mp es c => cases e2
    | it m s1 s2 s3 => cases e2
    | lp a b c d e f => cases e2
    | df b => cases e2
    | dead => cases e2
  obtain ⟨c, hdet⟩ := hdet
  refine ⟨c, fun h' hx nx' κ' => ?_, fun θ ac w w0 pd nx0 hE hR => ?_⟩
  · simp only [oLd1, hv]
    exact hdet h' hx _
  · obtain ⟨hpx, hhas⟩ := (hr θ ac hE).p
    obtain ⟨c', k1, _, k3, _, k5⟩ := rd1_ok hR hhas e1
    have hc : c' = c := by
      have h1 := k1 h (Ext.refl h) (fun l => @decide (l = c) (Classical.propDecidable _))
      rw [hdet h (Ext.refl h)] at h1
      simpa using h1.symm
    subst hc
    refine ⟨toV θ c', ⟨k3, rfl⟩, ?_⟩
    have hl := run_loadVar_one (w := w) hg k5
    simp [execOp, ho, hpx, Instr.loadAt, Instr.sureAddr, hl]
theorem asMp_true {κ : List ME → Nat → R} {a : AO} (e : asMp κ a = true) : ∃ es c, a = .mp es c ∧ κ es c = true := by
  cases a <;> first | exact ⟨_, _, rfl, e⟩ | cases e
theorem run_getMap {w : World} {r : Nat} {es : Array MapEntry} {clock : Nat} (hb : w.heap[r]? = some (.map es clock)) : (getObj r).run P w = .ok (.map es clock) w := by
  simp [getObj, Sem.run, hb]
theorem r_lens {t : TypeId} {c : Call} (hx : XOk x X) (hu : P.underlying t = some .string) (hc : c.callee = .builtin .len) (ha : c.args.toList = [X]) (ht : c.argTypes.toList = [t]) (ho : o.op = .call c) : ReadOk P o (oLens x) := by
  refine PureOk.read fun en h nx κ e => ?_
  obtain ⟨v, hv, hr⟩ := hx en
  by_cases hxi : ∃ n k' r m, v = .xi n k' r m
  · obtain ⟨n, k', r, m, rfl⟩ := hxi
    simp only [oLens, hv] at e
    obtain ⟨b1, e⟩ := br_t e
    have b1' := Nat.eq_of_beq_eq_true b1
    subst b1'
    refine ⟨.xi n 9 r m, fun h' nx' κ' => by simp only [oLens, hv]; rfl, fun θ ac w hE => ?_⟩
    obtain ⟨hok, hX⟩ := hr θ ac hE
    obtain ⟨_, s, k1, k2, k3, _, _⟩ := xi_str hok
    refine ⟨.int .i64 s.size, ⟨k3, k2.symm⟩, ?_⟩
    rw [k1] at hX
    obtain ⟨ca, cargs, ct⟩ := c
    have ha' : cargs = #[X] := by cases cargs; simp_all
    have ht' : ct = #[t] := by cases ct; simp_all
    simp only at hc
    subst ha' ht' hc
    simp [execOp, ho, resolve, invoke, builtin, Builtin.len_, run_underlying hu, hX, goInt]
  have hsame : ∀ h nx κ, oLens x en h nx κ = asS (fun l => fnat (lenN Nat l) fun n => κ (.i 3 (.ofNat n)) h nx) v := by
    intro h nx κ
    simp only [oLens, hv]
    cases v <;> first | rfl | exact absurd ⟨_, _, _, _, rfl⟩ hxi
  rw [hsame] at e
  obtain ⟨l, rfl, e1⟩ := asS_true e
  refine ⟨.i 3 (.ofNat l.length), fun h' nx' κ' => ?_, fun θ ac w hE => ⟨_, vr_i θ _ _, ?_⟩⟩
  · rw [hsame]
    show fnat (lenN Nat l) (fun n => κ' (.i 3 (.ofNat n)) h' nx') = _
    rw [fnat_eq, lenN_eq]
  · obtain ⟨ca, cargs, ct⟩ := c
    have ha' : cargs = #[X] := by cases cargs; simp_all
    have ht' : ct = #[t] := by cases ct; simp_all
    simp only at hc
    subst ha' ht' hc
    simp [execOp, ho, resolve, invoke, builtin, Builtin.len_, run_underlying hu, (hr θ ac hE).s.1, goInt, bytes_size, kindOf]
theorem r_lenl {t el : TypeId} {c : Call} (hx : XOk x X) (hu : P.underlying t = some (.slice el)) (hc : c.callee = .builtin .len) (ha : c.args.toList = [X]) (ht : c.argTypes.toList = [t]) (ho : o.op = .call c) : ReadOk P o (oLenl x) := by
  refine PureOk.read fun en h nx κ e => ?_
  obtain ⟨v, hv, hr⟩ := hx en
  simp only [oLenl, hv] at e
  obtain ⟨ca, cargs, ct⟩ := c
  have ha' : cargs = #[X] := by cases cargs; simp_all
  have ht' : ct = #[t] := by cases ct; simp_all
  simp only at hc
  subst ha' ht' hc
  cases v <;> first | (cases e; done) | skip
  · rename_i b off len cap
    refine ⟨.i 3 (.ofNat len), fun h' nx' κ' => by simp only [oLenl, hv], fun θ ac w hE => ⟨_, vr_i θ _ _, ?_⟩⟩
    obtain ⟨_, cc, hx'⟩ := (hr θ ac hE).sl
    simp [execOp, ho, resolve, invoke, builtin, Builtin.len_, run_underlying hu, hx', goInt, kindOf]
  · refine ⟨.i 3 (.ofNat 0), fun h' nx' κ' => by simp only [oLenl, hv], fun θ ac w hE => ⟨_, vr_i θ _ _, ?_⟩⟩
    have hx' : ac.eval X = .slice none 0 0 := (hr θ ac hE).2
    simp [execOp, ho, resolve, invoke, builtin, Builtin.len_, run_underlying hu, hx', goInt, kindOf]
  · rename_i n k r m
    obtain ⟨b1, e1⟩ := br_t (show br (Nat.beq k 12) _ false = true from e)
    have b1' := Nat.eq_of_beq_eq_true b1
    subst b1'
    refine ⟨.i 3 (.ofNat 0), fun h' nx' κ' => by simp only [oLenl, hv]; rfl, fun θ ac w hE => ⟨_, vr_i θ _ _, ?_⟩⟩
    have hx' : ac.eval X = tailV θ n r m := (hr θ ac hE).2
    simp [execOp, ho, resolve, invoke, builtin, Builtin.len_, run_underlying hu, hx', tailV, goInt, kindOf]
theorem r_lenm {t kt el : TypeId} {c : Call} (hx : XOk x X) (hu : P.underlying t = some (.map kt el)) (hc : c.callee = .builtin .len) (ha : c.args.toList = [X]) (ht : c.argTypes.toList = [t]) (ho : o.op = .call c) : ReadOk P o (oLenm x) := by
  intro en h nx κ e
  obtain ⟨v, hv, hr⟩ := hx en
  simp only [oLenm, hv] at e
  obtain ⟨ca, cargs, ct⟩ := c
  have ha' : cargs = #[X] := by cases cargs; simp_all
  have ht' : ct = #[t] := by cases ct; simp_all
  simp only at hc
  subst ha' ht' hc
  cases v <;> first | (cases e; done) | skip
  · rename_i b
    obtain ⟨a, hb, e1⟩ := get_true e
    obtain ⟨es, cl, rfl, e2⟩ := asMp_true e1
    refine ⟨.i 3 (.ofNat es.length), fun h' hx nx' κ' => ?_, fun θ ac w w0 pd nx0 hE hR => ⟨_, vr_i θ _ _, ?_⟩⟩
    · simp only [oLenm, hv, get_is (hx b _ hb)]
      show fnat (lenN ME es) (fun n => κ' (.i 3 (.ofNat n)) h' nx') = _
      rw [fnat_eq, lenN_eq]
    · obtain ⟨hx', hh⟩ := (hr θ ac hE).m
      have hm := (hR.obj_ hh hb).1
      simp [execOp, ho, resolve, invoke, builtin, Builtin.len_, run_underlying hu, hx', goInt, kindOf, run_getMap hm]
  · refine ⟨.i 3 (.ofNat 0), fun h' hx nx' κ' => by simp only [oLenm, hv], fun θ ac w w0 pd nx0 hE hR => ⟨_, vr_i θ _ _, ?_⟩⟩
    have hx' : ac.eval X = .map none := (hr θ ac hE).2
    simp [execOp, ho, resolve, invoke, builtin, Builtin.len_, run_underlying hu, hx', goInt, kindOf]
theorem vat_ok {θ : Th} {es : List ME} {i : Nat} (hi : i < es.length) (h : ∀ e ∈ es, meOk θ e) : Ok θ (vat es i) := by
  unfold vat
  rw [List.getElem?_eq_getElem hi]
  have := h _ (List.getElem_mem hi)
  cases he : es[i] with
  | mk k v b => rw [he] at this; exact this.2
theorem r_lkp {t kt el : TypeId} {g ok : Bool} {ks : List Nat} {z : AV} (hx : XOk x X) (hy : XOk y Y) (hu : P.underlying t = some (.map kt el)) (hf : flatT P kt = some (g, ks)) (hz : zeroV P el = some z)
    (ho : o.op = .lookup t X Y ok) : ReadOk P o (oLkp g ks x y ok z) := by
  intro en h nx κ e
  obtain ⟨v, hv, hr⟩ := hx en
  obtain ⟨v2, hv2, hr2⟩ := hy en
  simp only [oLkp, hv, hv2] at e
  obtain ⟨e1, hky, hck⟩ := kyT_ok hf e
  obtain ⟨zi, zv, z1, z2, z3⟩ := zeroV_some hz
  cases v <;> first | (cases e1; done) | skip
  · rename_i b
    obtain ⟨a, hb, e2⟩ := get_true e1
    obtain ⟨es, cl, rfl, e3⟩ := asMp_true e2
    obtain ⟨r, h1, h2⟩ := fndK_true (eqT_det hf) e3
    refine ⟨(match r with | none => if ok then .tu [z, .b false] else z | some i => if ok then .tu [vat es i, .b true] else vat es i : AV), fun h' hx nx' κ' => ?_, fun θ ac w w0 pd nx0 hE hR => ?_⟩
    · simp only [oLkp, hv, hv2, hky, get_is (hx b _ hb)]
      show fndK (eqT g ks) v2 es (br ok (κ' (.tu [z, .b false]) h' nx') (κ' z h' nx')) (fun v => br ok (κ' (.tu [v, .b true]) h' nx') (κ' v h' nx')) = _
      rw [h2]
      cases r <;> cases ok <;> rfl
    · obtain ⟨hx', hh⟩ := (hr θ ac hE).m
      obtain ⟨hm, hes⟩ := hR.obj_ hh hb
      have hfk := (find_hit hf h1 (hr2 θ ac hE) hes w).1
      have hck := hck θ _ (hr2 θ ac hE)
      have hz' : (zeroValue el).run P w = .ok zv w := by simp [zeroValue, typeInfo, z1, z2]
      cases r with
      | none =>
        refine ⟨if ok then .tuple #[zv, .bool false] else zv, ?_, ?_⟩
        · cases ok
          · exact z3 θ
          · exact ⟨⟨(z3 θ).1, trivial, trivial⟩, by rw [(z3 θ).2]; rfl⟩
        · simp only [execOp, ho, Instr.lookup, Sem.run_bind, run_underlying hu, Result.andThen, hx', run_getMap hm, Sem.run_pure, hck, List.toList_toArray, hfk, Option.map_none, hz']
      | some i =>
        have hi := h1.lt i rfl
        refine ⟨if ok then .tuple #[toV θ (vat es i), .bool true] else toV θ (vat es i), ?_, ?_⟩
        · cases ok
          · exact ⟨vat_ok hi hes, rfl⟩
          · exact ⟨⟨vat_ok hi hes, trivial, trivial⟩, rfl⟩
        · simp only [execOp, ho, Instr.lookup, Sem.run_bind, run_underlying hu, Result.andThen, hx', run_getMap hm, Sem.run_pure, hck, List.toList_toArray, hfk, Option.map_some]
  · refine ⟨if ok then .tu [z, .b false] else z, fun h' hx nx' κ' => ?_, fun θ ac w w0 pd nx0 hE hR => ?_⟩
    · simp only [oLkp, hv, hv2, hky]
      cases ok <;> rfl
    · have hx' : ac.eval X = .map none := (hr θ ac hE).2
      have hck := hck θ _ (hr2 θ ac hE)
      have hz' : (zeroValue el).run P w = .ok zv w := by simp [zeroValue, typeInfo, z1, z2]
      have hfk : (Instr.findKey kt (ac.eval Y) []).run P w = .ok none w := by
        have := (find_hit (es := []) hf (r := none) rfl (hr2 θ ac hE) (by simp) w).1
        simpa using this
      refine ⟨if ok then .tuple #[zv, .bool false] else zv, ?_, ?_⟩
      · cases ok
        · exact z3 θ
        · exact ⟨⟨(z3 θ).1, trivial, trivial⟩, by rw [(z3 θ).2]; rfl⟩
      · simp only [execOp, ho, Instr.lookup, Sem.run_bind, run_underlying hu, Result.andThen, hx', Sem.run_pure, hck, hfk, hz']
theorem bytesK_true : ∀ {vs : List AV} {κ : List Nat → R}, bytesK vs κ = true → ∃ l, (∀ κ', bytesK vs κ' = κ' l) ∧ κ l = true ∧ vs = l.map (fun m => .i 4 (.ofNat m)) ∧ ∀ x ∈ l, x < 256
  | [], κ, e => ⟨[], fun _ => rfl, e, rfl, by simp⟩
  | v :: vs, κ, e => by
    have e : asK 4 (fun n => @Int.rec (fun _ => R) (fun m => br (Nat.blt m 256) (bytesK vs fun l => κ (m :: l)) false) (fun _ => false) n) v = true := e
    obtain ⟨n, rfl, e1⟩ := asK_true e
    cases n with
    | negSucc m => cases e1
    | ofNat m =>
      obtain ⟨hm, e2⟩ := br_t (show br (Nat.blt m 256) _ false = true from e1)
      obtain ⟨l, h1, h2, h3, h4⟩ := bytesK_true e2
      refine ⟨m :: l, fun κ' => ?_, h2, by rw [h3]; rfl, fun x hx => ?_⟩
      · show asK 4 (fun n => @Int.rec (fun _ => R) (fun m => br (Nat.blt m 256) (bytesK vs fun l => κ' (m :: l)) false) (fun _ => false) n) (.i 4 (.ofNat m)) = _
        rw [asK_i]
        show br (Nat.blt m 256) (bytesK vs fun l => κ' (m :: l)) false = _
        rw [hm]
        exact h1 _
      · rcases List.mem_cons.1 hx with rfl | hx
        · simpa [Nat.blt_eq] using hm
        · exact h4 x hx
theorem foldl_push (l : List UInt8) : ∀ r : ByteArray, (l.foldl (fun r x => r.push x) r) = ⟨r.data ++ l.toArray⟩ := by
  induction l with
  | nil => intro r; simp
  | cons x l ih => intro r; rw [List.foldl_cons, ih]; simp [ByteArray.push]
theorem r_b2s {s d el : TypeId} (hx : XOk x X) (hs : P.underlying s = some (.slice el)) (he : P.underlying el = some (.int .u8)) (hd : P.underlying d = some .string) (ho : o.op = .convert s d X) : ReadOk P o (oB2s x) := by
  intro en h nx κ e
  obtain ⟨v, hv, hr⟩ := hx en
  simp only [oB2s, hv] at e
  have conv : ∀ (u : Value) (w : World), (∃ A l c, u = .slice A l c) → (convert s d u).run P w = (Conv.bytesToString u).run P w := by
    rintro u w ⟨A, l, c, rfl⟩
    simp only [convert, Sem.run_bind, run_underlying hs, run_underlying hd, run_underlying he, Result.andThen]
  cases v <;> first | (cases e; done) | skip
  · rename_i b off len cap
    have hdet : ∃ l, ∀ h', Ext h h' → ∀ nx' κ', oB2s x en h' nx' κ' = κ' (.s l) h' nx' := by
      obtain ⟨a, ha, e2⟩ := get_true e
      have ext : ∀ h', Ext h h' → ∀ κ', rdK b off len h' κ' = rdK b off len h κ' := fun h' hx κ' => by
        unfold rdK
        rw [get_is ha, get_is (hx b a ha)]
      have go : ∃ vs, ∀ κ', rdK b off len h κ' = κ' vs := by
        cases a with
        | sm l =>
          simp only [dropL_eq, takeK_eq, List.length_drop] at e2
          split at e2
          · rename_i hn
            refine ⟨(l.drop off).take len, fun κ' => ?_⟩
            unfold rdK
            rw [get_is ha]
            simp only [dropL_eq, takeK_eq, List.length_drop]
            rw [if_pos hn]
          · cases e2
        | ce N es z zl d t top sh =>
          obtain ⟨hle, e3⟩ := br_t e2
          obtain ⟨vs, k1, k2, k3⟩ := cellsT_true e3
          refine ⟨vs, fun κ' => ?_⟩
          unfold rdK
          rw [get_is ha]
          show br (Nat.ble (off + len) N) _ false = _
          rw [show Nat.ble (off + len) N = true from hle]
          exact k3 κ'
        | mp es c => cases e2
        | it m s1 s2 s3 => cases e2
        | lp a b c d e f => cases e2
        | df b => cases e2
        | dead => cases e2
      obtain ⟨vs, hvs⟩ := go
      have e : rdK b off len h (fun vs => bytesK vs fun l => κ (.s l) h nx) = true := e
      rw [hvs] at e
      obtain ⟨l, h1, _⟩ := bytesK_true e
      refine ⟨l, fun h' hx nx' κ' => ?_⟩
      simp only [oB2s, hv]
      rw [ext h' hx, hvs, h1]
    obtain ⟨l, hdet⟩ := hdet
    refine ⟨.s l, fun h' hx nx' κ' => hdet h' hx nx' κ', fun θ ac w w0 pd nx0 hE hR => ?_⟩
    obtain ⟨hh, c, hx'⟩ := (hr θ ac hE).sl
    obtain ⟨vs, k1, k2, k3, k4, k5, k6⟩ := rd_ok hR hh e
    obtain ⟨l', j1, _, j3, j4⟩ := bytesK_true k3
    have hll : l' = l := by
      have h1 := hdet h (Ext.refl h) nx (is1 (.s l'))
      simp only [oB2s, hv] at h1
      rw [k2 h (Ext.refl h), j1] at h1
      have h2 : is1 (.s l') (.s l') h nx = true := by simp [is1]
      rw [h2] at h1
      have h3 : (AV.s l) = .s l' := by simpa [is1] using h1.symm
      injection h3 with h3; exact h3.symm
    subst hll
    refine ⟨.string (bytesOf l'), ⟨j4, rfl⟩, ?_⟩
    have hrun : (Conv.bytesToString (.slice (some ⟨θ.blk b, θ.bas b + off, none⟩) len c)).run P w = .ok (.string (bytesOf l')) w := by
      have hcells : toVs θ vs = (l'.map Int.ofNat).map (Value.int .u8) := by
        rw [toVs_map, j3, List.map_map, List.map_map]; rfl
      have hl := run_loadCells_list (P := P) w ⟨θ.blk b, θ.bas b + off, none⟩ (toVs θ vs) (fun j v hj => by rw [Addr.add_lit]; exact k6 j v hj)
      rw [toVs_length, k1, hcells] at hl
      rw [run_bytesToString w ⟨θ.blk b, θ.bas b + off, none⟩ len c (l'.map Int.ofNat) hl]
      congr 2
      have := foldl_push (l'.map UInt8.ofNat) ByteArray.empty
      rw [List.foldl_map] at this ⊢
      have e2 : ∀ (l : List Nat) (r : ByteArray), (l.foldl (fun r x => r.push (UInt8.ofNat (Int.ofNat x).toNat)) r) = (l.foldl (fun r x => r.push (UInt8.ofNat x)) r) := fun l r => rfl
      rw [e2, this]
      simp [bytesOf]
    simp [execOp, ho, hx', conv _ _ ⟨_, _, _, rfl⟩, hrun]
  · refine ⟨.s [], fun h' hx nx' κ' => by simp only [oB2s, hv], fun θ ac w w0 pd nx0 hE hR => ⟨.string .empty, ⟨(fun x hx => nomatch hx), rfl⟩, ?_⟩⟩
    have hx' : ac.eval X = .slice none 0 0 := (hr θ ac hE).2
    simp [execOp, ho, hx', conv _ _ ⟨_, _, _, rfl⟩, Conv.bytesToString]
end
end Go.AM
