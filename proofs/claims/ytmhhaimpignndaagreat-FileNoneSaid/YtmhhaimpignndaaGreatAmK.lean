/-
  AM, 12: maps: keys found; operations that read. Conditions: none.
-/
import Derived.Test.YtmhhaimpignndaaGreatAmJ
import Derived.Laws.BytesString
namespace Go.AM
open Go

/-! ### Keys found -/
def Hit (q : QF) (k : AV) : List ME → Option Nat → Prop
  | [], r => r = none
  | .mk k' _ _ :: es, r => ∃ c, (∀ κ, q k k' κ = κ c) ∧ ((c = true ∧ r = some 0) ∨ (c = false ∧ ∃ r', Hit q k es r' ∧ r = r'.map (· + 1)))
noncomputable def vat (es : List ME) (i : Nat) : AV := match es[i]? with | some (.mk _ v _) => v | none => undef
def bat (es : List ME) (i : Nat) : Nat := match es[i]? with | some (.mk _ _ b) => b | none => 0
def Det (q : QF) : Prop := ∀ x y κ, q x y κ = true → ∃ c, ∀ κ', q x y κ' = κ' c
theorem Hit.lt {q : QF} {k : AV} : ∀ {es : List ME} {r : Option Nat}, Hit q k es r → ∀ i, r = some i → i < es.length
  | [], r, h, i, hi => by rw [show r = none from h] at hi; cases hi
  | .mk k' _ _ :: es, r, h, i, hi => by
    obtain ⟨c, _, ⟨_, h2⟩ | ⟨_, r', h3, h4⟩⟩ := h
    · rw [h2] at hi; injection hi with hi; subst hi; simp
    · rw [h4] at hi
      obtain ⟨j, hj, rfl⟩ := Option.map_eq_some_iff.1 hi
      have := Hit.lt h3 j hj
      simp; omega
theorem fndK_true {q : QF} (hq : Det q) {k : AV} : ∀ {es : List ME} {nf : R} {κ : AV → R}, fndK q k es nf κ = true →
    ∃ r, Hit q k es r ∧ ∀ nf' κ', fndK q k es nf' κ' = match r with | none => nf' | some i => κ' (vat es i)
  | [], nf, κ, e => ⟨none, rfl, fun _ _ => rfl⟩
  | .mk k' v b :: es, nf, κ, e => by
    have e : q k k' (fun c => br c (κ v) (fndK q k es nf κ)) = true := e
    obtain ⟨c, hc⟩ := hq _ _ _ e
    rw [hc] at e
    cases c with
    | true => exact ⟨some 0, ⟨true, hc, .inl ⟨rfl, rfl⟩⟩, fun nf' κ' => (hc _).trans rfl⟩
    | false =>
      obtain ⟨r, h1, h2⟩ := fndK_true hq (show fndK q k es nf κ = true from e)
      refine ⟨r.map (· + 1), ⟨false, hc, .inr ⟨rfl, r, h1, rfl⟩⟩, fun nf' κ' => (hc _).trans ((h2 nf' κ').trans ?_)⟩
      cases r <;> rfl
def setE (k v : AV) : List ME → Nat → List ME
  | [], _ => []
  | .mk _ _ b :: es, 0 => .mk k v b :: es
  | e :: es, i + 1 => e :: setE k v es i
theorem updK_true {q : QF} (hq : Det q) {k v : AV} : ∀ {es : List ME} {nf : R} {κ : List ME → R}, updK q k v es nf κ = true →
    ∃ r, Hit q k es r ∧ ∀ nf' κ', updK q k v es nf' κ' = match r with | none => nf' | some i => κ' (setE k v es i)
  | [], nf, κ, e => ⟨none, rfl, fun _ _ => rfl⟩
  | .mk k' v' b :: es, nf, κ, e => by
    have e : q k k' (fun c => br c (κ (.mk k v b :: es)) (updK q k v es nf fun r => κ (.mk k' v' b :: r))) = true := e
    obtain ⟨c, hc⟩ := hq _ _ _ e
    rw [hc] at e
    cases c with
    | true => exact ⟨some 0, ⟨true, hc, .inl ⟨rfl, rfl⟩⟩, fun nf' κ' => (hc _).trans rfl⟩
    | false =>
      obtain ⟨r, h1, h2⟩ := updK_true hq (show updK q k v es nf _ = true from e)
      refine ⟨r.map (· + 1), ⟨false, hc, .inr ⟨rfl, r, h1, rfl⟩⟩, fun nf' κ' => (hc _).trans ((h2 nf' _).trans ?_)⟩
      cases r <;> rfl
def setKy (k : AV) : List ME → Nat → List ME
  | [], _ => []
  | .mk _ v b :: es, 0 => .mk k v b :: es
  | e :: es, i + 1 => e :: setKy k es i
theorem entK_true {q : QF} (hq : Det q) {k : AV} : ∀ {es : List ME} {nf : R} {κ : List ME → AV → Nat → R}, entK q k es nf κ = true →
    ∃ r, Hit q k es r ∧ ∀ nf' κ', entK q k es nf' κ' = match r with | none => nf' | some i => κ' (setKy k es i) (vat es i) (bat es i)
  | [], nf, κ, e => ⟨none, rfl, fun _ _ => rfl⟩
  | .mk k' v' b :: es, nf, κ, e => by
    have e : q k k' (fun c => br c (κ (.mk k v' b :: es) v' b) (entK q k es nf fun r v b' => κ (.mk k' v' b :: r) v b')) = true := e
    obtain ⟨c, hc⟩ := hq _ _ _ e
    rw [hc] at e
    cases c with
    | true => exact ⟨some 0, ⟨true, hc, .inl ⟨rfl, rfl⟩⟩, fun nf' κ' => (hc _).trans rfl⟩
    | false =>
      obtain ⟨r, h1, h2⟩ := entK_true hq (show entK q k es nf _ = true from e)
      refine ⟨r.map (· + 1), ⟨false, hc, .inr ⟨rfl, r, h1, rfl⟩⟩, fun nf' κ' => (hc _).trans ((h2 nf' _).trans ?_)⟩
      cases r <;> rfl
theorem delK_true {q : QF} (hq : Det q) {k : AV} : ∀ {es : List ME} {κ : List ME → R}, delK q k es κ = true →
    ∃ r, Hit q k es r ∧ ∀ κ', delK q k es κ' = match r with | none => κ' es | some i => κ' (es.eraseIdx i)
  | [], κ, e => ⟨none, rfl, fun _ => rfl⟩
  | .mk k' v' b :: es, κ, e => by
    have e : q k k' (fun c => br c (κ es) (delK q k es fun r => κ (.mk k' v' b :: r))) = true := e
    obtain ⟨c, hc⟩ := hq _ _ _ e
    rw [hc] at e
    cases c with
    | true => exact ⟨some 0, ⟨true, hc, .inl ⟨rfl, rfl⟩⟩, fun κ' => (hc _).trans rfl⟩
    | false =>
      obtain ⟨r, h1, h2⟩ := delK_true hq (show delK q k es _ = true from e)
      refine ⟨r.map (· + 1), ⟨false, hc, .inr ⟨rfl, r, h1, rfl⟩⟩, fun κ' => (hc _).trans ((h2 _).trans ?_)⟩
      cases r <;> rfl

section
variable {P : Program} {o : Oper} {x y : XF} {X Y : Operand}
/-- the key that was found is the model's -/
theorem find_hit {kt : TypeId} {g : Bool} {ks : List Nat} (hf : flatT P kt = some (g, ks)) {k : AV} {es : List ME} {r : Option Nat} (h : Hit (eqT g ks) k es r) {θ : Th} {u : Value} (hu : VR θ k u) (hes : ∀ e ∈ es, meOk θ e) (w : World) :
    (Instr.findKey kt u (es.map (meV θ))).run P w = .ok (r.map fun i => (i, toV θ (vat es i))) w ∧ ∀ i, r = some i → ∃ e, es[i]? = some e ∧ Instr.sameBits 10000 (meV θ e).key u = true := by
  have det : ∀ k', (∃ c, ∀ κ, eqT g ks k k' κ = κ c) → Ok θ k' → ∃ c, (∀ κ, eqT g ks k k' κ = κ c) ∧ (∀ w, (Op.equal kt u (toV θ k')).run P w = .ok c w) ∧ (c = true → Instr.sameBits 10000 (toV θ k') u = true) ∧
      ∀ d, P.underlying kt = some d → Instr.sameNow d u (toV θ k') = (if g then none else some c) := by
    rintro k' ⟨c, hc⟩ hok
    have e : eqT g ks k k' (fun c' => decide (c' = c)) = true := by rw [hc]; simp
    obtain ⟨c', h1, h2⟩ := eqT_ok hf e
    obtain ⟨j1, j2, _, j4⟩ := h2 θ u (toV θ k') hu ⟨hok, rfl⟩
    have : c' = c := by
      rw [h1] at e; simpa using e
    subst this
    exact ⟨c', h1, j1, j2, j4⟩
  obtain ⟨d, hd⟩ : ∃ d, P.underlying kt = some d := by
    rcases flatT_some hf with ⟨_, c, _, hc⟩ | ⟨_, _, ⟨fs, hu, _⟩ | ⟨n, el, c, hu, _⟩⟩
    · obtain ⟨d, hd, _⟩ := flatC_some hc; exact ⟨d, hd⟩
    · exact ⟨_, hu⟩
    · exact ⟨_, hu⟩
  have ask : ∀ (es : List ME) (r : Option Nat), Hit (eqT g ks) k es r → (∀ e ∈ es, meOk θ e) → ∀ i, (Instr.findAsking kt u (es.map (meV θ)) i).run P w = .ok (r.map fun j => (i + j, toV θ (vat es j))) w := by
    intro es
    induction es with
    | nil => intro r h _ i; rw [show r = none from h]; rfl
    | cons e es ih =>
      intro r h hes i
      obtain ⟨k', v, b⟩ := e
      obtain ⟨c, hc, hr⟩ := h
      obtain ⟨c', h1, h2, _, _⟩ := det k' ⟨c, hc⟩ (hes _ (List.mem_cons_self ..)).1
      have : c' = c := by have := (h1 fun x => decide (x = c)).symm.trans (hc fun x => decide (x = c)); simpa using this
      subst this
      simp only [List.map_cons, meV, Instr.findAsking, Sem.run_bind, h2, Result.andThen]
      rcases hr with ⟨rfl, rfl⟩ | ⟨rfl, r', h3, rfl⟩
      · rfl
      · have := ih r' h3 (fun e he => hes e (List.mem_cons_of_mem _ he)) (i + 1)
        simp only [Bool.false_eq_true, if_false]
        rw [this]
        cases r' with
        | none => rfl
        | some j =>
          show Result.ok (some (i + 1 + j, _)) w = Result.ok (some (i + (j + 1), _)) w
          rw [show i + 1 + j = i + (j + 1) by omega]; rfl
  have now : g = false → ∀ (es : List ME) (r : Option Nat), Hit (eqT g ks) k es r → (∀ e ∈ es, meOk θ e) → ∀ i, Instr.findNow d u (es.map (meV θ)) i = some (r.map fun j => (i + j, toV θ (vat es j))) := by
    intro hg es
    induction es with
    | nil => intro r h _ i; rw [show r = none from h]; rfl
    | cons e es ih =>
      intro r h hes i
      obtain ⟨k', v, b⟩ := e
      obtain ⟨c, hc, hr⟩ := h
      obtain ⟨c', h1, h2, _, h4⟩ := det k' ⟨c, hc⟩ (hes _ (List.mem_cons_self ..)).1
      have : c' = c := by have := (h1 fun x => decide (x = c)).symm.trans (hc fun x => decide (x = c)); simpa using this
      subst this
      have h4 := h4 d hd
      rw [hg] at h4
      simp only [Bool.false_eq_true, if_false] at h4
      simp only [List.map_cons, meV, Instr.findNow, h4]
      rcases hr with ⟨rfl, rfl⟩ | ⟨rfl, r', h3, rfl⟩
      · rfl
      · have := ih r' h3 (fun e he => hes e (List.mem_cons_of_mem _ he)) (i + 1)
        show Instr.findNow d u (es.map (meV θ)) (i + 1) = _
        rw [this]
        cases r' with
        | none => rfl
        | some j =>
          show some (some (i + 1 + j, _)) = some (some (i + (j + 1), _))
          rw [show i + 1 + j = i + (j + 1) by omega]; rfl
  refine ⟨?_, ?_⟩
  · simp only [Instr.findKey, Sem.run_bind, run_underlying hd, Result.andThen]
    cases hg : g with
    | false =>
      have := now hg es r h hes 0
      rw [this]
      simp only [Nat.zero_add, Sem.run_pure]
    | true =>
      cases es with
      | nil => rw [show r = none from h]; rfl
      | cons e es' =>
        obtain ⟨k', v, b⟩ := e
        have hh := h
        obtain ⟨c, hc, _⟩ := hh
        obtain ⟨c', h1, h2, _, h4⟩ := det k' ⟨c, hc⟩ (hes _ (List.mem_cons_self ..)).1
        have h4 := h4 d hd
        rw [hg] at h4
        have hn : Instr.findNow d u ((ME.mk k' v b :: es').map (meV θ)) 0 = none := by
          simp only [List.map_cons, meV, Instr.findNow, h4, if_true]
        rw [hn]
        have := ask _ r h hes 0
        simp only [Nat.zero_add] at this
        exact this
  · clear ask now
    intro i hi
    subst hi
    have go : ∀ (es : List ME) (i : Nat), Hit (eqT g ks) k es (some i) → (∀ e ∈ es, meOk θ e) → ∃ e, es[i]? = some e ∧ Instr.sameBits 10000 (meV θ e).key u = true := by
      intro es
      induction es with
      | nil => intro i h _; cases h
      | cons e es ih =>
        intro i h hes
        obtain ⟨k', v, b⟩ := e
        obtain ⟨c, hc, hr⟩ := h
        obtain ⟨c', h1, _, h3, _⟩ := det k' ⟨c, hc⟩ (hes _ (List.mem_cons_self ..)).1
        have : c' = c := by have := (h1 fun x => decide (x = c)).symm.trans (hc fun x => decide (x = c)); simpa using this
        subst this
        rcases hr with ⟨hct, hr⟩ | ⟨_, r', h4, hr⟩
        · injection hr with hr; subst hr
          exact ⟨_, rfl, h3 hct⟩
        · cases r' with
          | none => cases hr
          | some j =>
            injection hr with hr; subst hr
            obtain ⟨e, q1, q2⟩ := ih j h4 (fun e he => hes e (List.mem_cons_of_mem _ he))
            exact ⟨e, by simpa using q1, q2⟩
    exact go es i h hes
theorem eqT_det {t : TypeId} {g : Bool} {ks : List Nat} (h : flatT P t = some (g, ks)) : Det (eqT g ks) := fun _ _ _ e => let ⟨c, h1, _⟩ := eqT_ok h e; ⟨c, h1⟩

/-! ### Structs compared -/
theorem p_eqs {neg g : Bool} {ks : List Nat} {t t2 : TypeId} (hx : XOk x X) (hy : XOk y Y) (hf : flatT P t = some (g, ks)) (hg : ∃ d, P.underlying t = some d ∧ ∀ k, d ≠ .int k) (hg2 : g = true) (ho : o.op = .binOp (if neg then .neq else .eql) t X Y t2) : PureOk P o (oEqs neg (eqT g ks) x y) := by
  intro en h nx κ e
  obtain ⟨v, hv, hr⟩ := hx en
  obtain ⟨v2, hv2, hr2⟩ := hy en
  simp only [oEqs, hv, hv2] at e
  obtain ⟨c, h1, h2⟩ := eqT_ok hf e
  subst hg2
  obtain ⟨l, rfl, e1⟩ := asAg_true (show asAg _ v = true from e)
  obtain ⟨l2, rfl, e2⟩ := asAg_true e1
  refine ⟨.b (if neg then !c else c), fun h' nx' κ' => ?_, fun θ ac w hE => ⟨_, vr_b θ _, ?_⟩⟩
  · simp only [oEqs, hv, hv2, h1]
    rw [kB_eq, negc_eq]
  · obtain ⟨j1, _, j3, _⟩ := h2 θ _ _ (hr θ ac hE) (hr2 θ ac hE)
    refine bin_run ho rfl rfl (j3 _ _ _ w) ?_
    have q1 := (hr θ ac hE).ag.1
    have q2 := (hr2 θ ac hE).ag.1
    have j1 := j1 w
    rw [q1, q2] at j1 ⊢
    cases neg <;> simp [binOp, j1]

/-! ### Operations that read -/
def ReadOk (P : Program) (o : Oper) (f : OpF) : Prop := ∀ en h nx κ, f en h nx κ = true →
  ∃ v, (∀ h', Ext h h' → ∀ nx' κ', f en h' nx' κ' = κ' v h' nx') ∧ ∀ θ (a : Act) w w0 pd nx0, ER θ en a.tmps → HR P w0 pd θ h nx0 w → ∃ u, VR θ v u ∧ (execOp a.eval o).run P w = .ok (.value u) w
theorem PureOk.read {f : OpF} (hf : PureOk P o f) : ReadOk P o f := fun en h nx κ e =>
  let ⟨v, h1, h2⟩ := hf en h nx κ e
  ⟨v, fun h' _ nx' κ' => h1 h' nx' κ', fun θ a w _ _ _ hE _ => h2 θ a w hE⟩
theorem run_loadVar_agg {w : World} {t : TypeId} {k : Nat} (hg : aggT P t = some true) (hk : sizeT P t = some k) {b o : Nat} {vs : List Value} (hl : vs.length = k)
    (hc : ∀ j v, vs[j]? = some v → w.cell? ⟨b, o + j, none⟩ = some v) : (loadVar t ⟨b, o, none⟩).run P w = .ok (.agg vs.toArray) w := by
  subst hl
  obtain ⟨d, hd, hag⟩ := aggT_some (w := w) hg
  simp only [loadVar, Sem.run_bind, hag, Result.andThen, if_true, run_size hk]
  rw [run_loadCells_list (P := P) w ⟨b, o, none⟩ vs (fun j v hj => by rw [Addr.add_lit]; exact hc j v hj)]
  rfl
theorem run_loadVar_one {w : World} {t : TypeId} (hg : aggT P t = some false) {p : Addr} {v : Value} (hc : w.cell? p = some v) : (loadVar t p).run P w = .ok v w := by
  obtain ⟨d, hd, hag⟩ := aggT_some (w := w) hg
  simp only [loadVar, Sem.run_bind, hag, Result.andThen]
  simp [hc]
/-- a continuation that says what came -/
noncomputable def is1 (v : AV) : K := fun v' _ _ => @decide (v' = v) (Classical.propDecidable _)
theorem r_ld {t : TypeId} {n : Nat} (hx : XOk x X) (hg : aggT P t = some true) (hn : sizeT P t = some n) (ho : o.op = .load t X) : ReadOk P o (oLd x n) := by
  intro en h nx κ e
  obtain ⟨v, hv, hr⟩ := hx en
  simp only [oLd, hv] at e
  obtain ⟨b, off, rfl, e1⟩ := asP_true e
  have hdet : ∃ vs, ∀ h', Ext h h' → ∀ κ', rdK b off n h' κ' = κ' vs := by
    obtain ⟨a, ha, e2⟩ := get_true e1
    have ext : ∀ h', Ext h h' → ∀ κ', rdK b off n h' κ' = rdK b off n h κ' := fun h' hx κ' => by
      unfold rdK
      rw [get_is ha, get_is (hx b a ha)]
    cases a with
    | sm l =>
      simp only [dropL_eq, takeK_eq, List.length_drop] at e2
      split at e2
      · rename_i hn
        refine ⟨(l.drop off).take n, fun h' hx κ' => ?_⟩
        rw [ext h' hx]
        unfold rdK
        rw [get_is ha]
        simp only [dropL_eq, takeK_eq, List.length_drop]
        rw [if_pos hn]
      · cases e2
    | ce N es z zl d t top sh =>
      obtain ⟨hle, e3⟩ := br_t e2
      obtain ⟨vs, k1, k2, k3⟩ := cellsT_true e3
      refine ⟨vs, fun h' hx κ' => ?_⟩
      rw [ext h' hx]
      unfold rdK
      rw [get_is ha]
      show br (Nat.ble (off + n) N) _ false = _
      rw [show Nat.ble (off + n) N = true from hle]
      exact k3 κ'
    | mp es c => cases e2
    | it m s1 s2 s3 => cases e2
    | lp a b c d e f => cases e2
    | df b => cases e2
    | dead => cases e2
  obtain ⟨vs, hdet⟩ := hdet
  refine ⟨.ag vs, fun h' hx nx' κ' => ?_, fun θ ac w w0 pd nx0 hE hR => ?_⟩
  · simp only [oLd, hv]
    exact hdet h' hx _
  · obtain ⟨hpx, hhas⟩ := (hr θ ac hE).p
    obtain ⟨vs', k1, k2, _, k4, k5, k6⟩ := rd_ok hR hhas e1
    have hvs : vs' = vs := by
      have h1 := k2 h (Ext.refl h) (fun l => @decide (l = vs) (Classical.propDecidable _))
      rw [hdet h (Ext.refl h)] at h1
      simpa using h1.symm
    subst hvs
    refine ⟨.agg (toVs θ vs').toArray, ⟨⟨k4, k5⟩, rfl⟩, ?_⟩
    have hl := run_loadVar_agg (w := w) hg hn (vs := toVs θ vs') (by simp [k1]) k6
    simp [execOp, ho, hpx, Instr.loadAt, Instr.sureAddr, hl]
theorem rd_det {b off n : Nat} {h : H} {κ : List AV → R} (e1 : rdK b off n h κ = true) : ∃ vs, ∀ h', Ext h h' → ∀ κ', rdK b off n h' κ' = κ' vs := by
  obtain ⟨a, ha, e2⟩ := get_true e1
  have ext : ∀ h', Ext h h' → ∀ κ', rdK b off n h' κ' = rdK b off n h κ' := fun h' hx κ' => by
    unfold rdK
    rw [get_is ha, get_is (hx b a ha)]
  cases a with
  | sm l =>
    simp only [dropL_eq, takeK_eq, List.length_drop] at e2
    split at e2
    · rename_i hn
      refine ⟨(l.drop off).take n, fun h' hx κ' => ?_⟩
      rw [ext h' hx]
      unfold rdK
      rw [get_is ha]
      simp only [dropL_eq, takeK_eq, List.length_drop]
      rw [if_pos hn]
    · cases e2
  | ce N es z zl d t top sh =>
    obtain ⟨hle, e3⟩ := br_t e2
    obtain ⟨vs, k1, k2, k3⟩ := cellsT_true e3
    refine ⟨vs, fun h' hx κ' => ?_⟩
    rw [ext h' hx]
    unfold rdK
    rw [get_is ha]
    show br (Nat.ble (off + n) N) _ false = _
    rw [show Nat.ble (off + n) N = true from hle]
    exact k3 κ'
  | mp es c => cases e2
  | it m s1 s2 s3 => cases e2
  | lp a b c d e f => cases e2
  | df b => cases e2
  | dead => cases e2
theorem rd_same {w0 w : World} {pd : List (Nat × AO)} {θ : Th} {nx b off n : Nat} {h : H} {κ : List AV → R} {vs : List AV} (hR : HR P w0 pd θ h nx w) (hh : θ.has b) (e : rdK b off n h κ = true) (hdet : ∀ h', Ext h h' → ∀ κ', rdK b off n h' κ' = κ' vs) :
    vs.length = n ∧ Oks θ vs ∧ ∀ j v, (toVs θ vs)[j]? = some v → w.cell? ⟨θ.blk b, θ.bas b + off + j, none⟩ = some v := by
  obtain ⟨vs', k1, k2, _, k4, k5, k6⟩ := rd_ok hR hh e
  have hvs : vs' = vs := by
    have h1 := k2 h (Ext.refl h) (fun l => @decide (l = vs) (Classical.propDecidable _))
    rw [hdet h (Ext.refl h)] at h1
    simpa using h1.symm
  subst hvs
  exact ⟨k1, k4, k6⟩
theorem natsK_true {k : Nat} : ∀ {vs : List AV} {κ : List Nat → R}, natsK k vs κ = true → ∃ l, (∀ κ', natsK k vs κ' = κ' l) ∧ κ l = true ∧ l.length = vs.length ∧
    ∀ θ, Oks θ vs → ∀ (i : Nat) (v : AV) (N : Nat), vs[i]? = some v → l[i]? = some N → Lim (khi k) N ∧ toV θ v = .int (kindOf k) (ln θ.lane N : Nat)
  | [], κ, e => ⟨[], fun _ => rfl, e, rfl, fun θ _ i v N hv _ => by simp at hv⟩
  | v :: vs, κ, e => by
    have step : ∀ κ', natsK k (v :: vs) κ' = lnK k v fun n => natsK k vs fun l => κ' (n :: l) := fun _ => rfl
    rw [step] at e
    obtain ⟨N, a1, e1, _, _, a4⟩ := lnK_true e
    obtain ⟨l, b1, b2, b3, b4⟩ := natsK_true e1
    refine ⟨N :: l, fun κ' => by rw [step, a1, b1], b2, by simp [b3], fun θ ho i u M hu hM => ?_⟩
    cases i with
    | zero =>
      simp at hu hM
      subst hu hM
      exact a4 θ _ ⟨ho.1, rfl⟩
    | succ i => exact b4 θ ho.2 i u M (by simpa using hu) (by simpa using hM)
def foldL (m : Nat) : List Nat → List Nat
  | x :: y :: r => Nat.xor x (Nat.land (Nat.xor x y) m) :: foldL m r
  | _ => []
theorem foldK_eq (m : Nat) : ∀ (l : List Nat) (κ : List Nat → R), foldK m l κ = κ (foldL m l)
  | [], _ => rfl
  | [_], _ => rfl
  | x :: y :: r, κ => by
    show fnat _ (fun z => foldK m r fun l => κ (z :: l)) = _
    rw [fnat_eq, foldK_eq m r]
    rfl
theorem foldL_get (m : Nat) : ∀ (l : List Nat) (i : Nat), (foldL m l)[i]? = match l[2 * i]?, l[2 * i + 1]? with | some x, some y => some (x ^^^ ((x ^^^ y) &&& m)) | _, _ => none
  | [], i => by simp [foldL]
  | [x], i => by
    cases i with
    | zero => simp [foldL]
    | succ i => simp [foldL]
  | x :: y :: r, 0 => rfl
  | x :: y :: r, i + 1 => by
    have h1 : 2 * (i + 1) = (2 * i + 1) + 1 := by omega
    rw [foldL, List.getElem?_cons_succ, foldL_get m r i, h1]
    rfl
/-- the one of two that a bit tells -/
theorem mux_lane {x y m j N b : Nat} (hj : j < 256) (hb : b < 64) (hx : ln j x < 2 ^ 64) (hy : ln j y < 2 ^ 64) (hm : m = bitM N b) :
    ln j (x ^^^ ((x ^^^ y) &&& m)) = if ln j N / 2 ^ b % 2 = 0 then ln j x else ln j y := by
  have h1 : ln j (Nat.land (Nat.shiftRight N b) LO) = ln j N / 2 ^ b % 2 := by
    have := ln_cutshr (N := N) (s := b) (b := 1) hj (by omega)
    rw [LO_one] at this
    rw [land_is, shr_is, this]
  have hmm : ln j m = (ln j N / 2 ^ b % 2) * 18446744073709551615 := by
    subst hm
    unfold bitM
    rw [← h1]
    refine ln_mul fun i hi => ?_
    have h2 : ln i (Nat.land (Nat.shiftRight N b) LO) < 2 := by
      have := ln_cutshr (N := N) (s := b) (b := 1) (j := i) (by omega) (by omega)
      rw [LO_one] at this
      rw [land_is, shr_is, this]; exact Nat.mod_lt _ (by decide)
    exact Nat.lt_of_le_of_lt (Nat.mul_le_mul_right _ (Nat.le_of_lt_succ h2)) (by decide)
  rw [ln_xor, ln_and, ln_xor, hmm]
  rcases Nat.mod_two_eq_zero_or_one (ln j N / 2 ^ b) with h0 | h0
  · rw [h0, if_pos rfl, Nat.zero_mul, Nat.and_zero, Nat.xor_zero]
  · rw [h0, if_neg (by decide), Nat.one_mul]
    have h3 : ln j x ^^^ ln j y < 2 ^ 64 := Nat.xor_lt_two_pow hx hy
    have h4 : (ln j x ^^^ ln j y) &&& 18446744073709551615 = (ln j x ^^^ ln j y) % 2 ^ 64 := Nat.and_two_pow_sub_one_eq_mod _ 64
    rw [h4, Nat.mod_eq_of_lt h3, ← Nat.xor_assoc, Nat.xor_self, Nat.zero_xor]
theorem fold_step {l : List Nat} {N b j : Nat} (hj : j < 256) (hb : b < 64) (hl : ∀ i x : Nat, l[i]? = some x → ln j x < 2 ^ 64) {i x : Nat} (h : (foldL (bitM N b) l)[i]? = some x) :
    ∃ y, l[2 * i + ln j N / 2 ^ b % 2]? = some y ∧ ln j x = ln j y ∧ ln j x < 2 ^ 64 := by
  rw [foldL_get] at h
  split at h
  · rename_i x0 y0 h1 h2
    injection h with h
    have e := mux_lane hj hb (hl _ _ h1) (hl _ _ h2) (rfl : bitM N b = bitM N b)
    rw [h] at e
    rcases Nat.mod_two_eq_zero_or_one (ln j N / 2 ^ b) with h0 | h0
    · rw [h0, if_pos rfl] at e
      exact ⟨x0, by rw [h0]; exact h1, e, by rw [e]; exact hl _ _ h1⟩
    · rw [h0, if_neg (by decide)] at e
      exact ⟨y0, by rw [h0]; exact h2, e, by rw [e]; exact hl _ _ h2⟩
  · cases h
theorem muxK_true {N : Nat} {l : List Nat} {κ : Nat → R} (e : muxK N l κ = true) : ∃ M, (∀ κ', muxK N l κ' = κ' M) ∧ κ M = true ∧
    ∀ j, j < 256 → (∀ i x : Nat, l[i]? = some x → ln j x < 2 ^ 64) → ∃ y : Nat, l[ln j N % 16]? = some y ∧ ln j M = ln j y := by
  have step : ∀ κ', muxK N l κ' = headK κ' (foldL (bitM N 3) (foldL (bitM N 2) (foldL (bitM N 1) (foldL (bitM N 0) l)))) := by
    intro κ'
    unfold muxK
    simp only [fnat_eq, foldK_eq]
  rw [step] at e
  cases hh : foldL (bitM N 3) (foldL (bitM N 2) (foldL (bitM N 1) (foldL (bitM N 0) l))) with
  | nil => rw [hh] at e; cases e
  | cons M r =>
    rw [hh] at e
    refine ⟨M, fun κ' => by rw [step, hh]; rfl, e, fun j hj hl => ?_⟩
    have l1 : ∀ i x : Nat, (foldL (bitM N 0) l)[i]? = some x → ln j x < 2 ^ 64 := fun i x hx => by obtain ⟨_, _, _, h⟩ := fold_step hj (by decide) hl hx; exact h
    have l2 : ∀ i x : Nat, (foldL (bitM N 1) (foldL (bitM N 0) l))[i]? = some x → ln j x < 2 ^ 64 := fun i x hx => by obtain ⟨_, _, _, h⟩ := fold_step hj (by decide) l1 hx; exact h
    have l3 : ∀ i x : Nat, (foldL (bitM N 2) (foldL (bitM N 1) (foldL (bitM N 0) l)))[i]? = some x → ln j x < 2 ^ 64 := fun i x hx => by obtain ⟨_, _, _, h⟩ := fold_step hj (by decide) l2 hx; exact h
    obtain ⟨y3, g3, q3, _⟩ := fold_step (b := 3) (i := 0) (x := M) hj (by decide) l3 (by rw [hh]; rfl)
    obtain ⟨y2, g2, q2, _⟩ := fold_step (b := 2) hj (by decide) l2 g3
    obtain ⟨y1, g1, q1, _⟩ := fold_step (b := 1) hj (by decide) l1 g2
    obtain ⟨y0, g0, q0, _⟩ := fold_step (b := 0) hj (by decide) hl g1
    refine ⟨y0, ?_, by rw [q3, q2, q1, q0]⟩
    rw [← g0]
    congr 1
    omega
theorem r_ld1 {t : TypeId} (hx : XOk x X) (hg : aggT P t = some false) (ho : o.op = .load t X) : ReadOk P o (oLd1 x) := by
  intro en h nx κ e
  obtain ⟨v, hv, hr⟩ := hx en
  by_cases hq : ∃ b off N, v = .q b off N
  · obtain ⟨b, off, N, rfl⟩ := hq
    simp only [oLd1, hv] at e
    have e : rdK b off 16 h (fun vs => muxV N vs fun v => κ v h nx) = true := e
    obtain ⟨vs, hdet⟩ := rd_det e
    have e2 := e
    rw [hdet h (Ext.refl h)] at e2
    cases vs with
    | nil => cases e2
    | cons v0 r =>
      cases v0 <;> first | (cases e2; done) | skip
      rename_i k n
      obtain ⟨b1, e3⟩ := br_t e2
      have b1' : k < 8 := by simpa [Nat.blt_eq] using b1
      obtain ⟨l, n1, e4, n3, n4⟩ := natsK_true e3
      obtain ⟨M, m1, _, m3⟩ := muxK_true e4
      refine ⟨.l k M, fun h' hx nx' κ' => ?_, fun θ ac w w0 pd nx0 hE hR => ?_⟩
      · simp only [oLd1, hv]
        refine (hdet h' hx _).trans ?_
        show br (Nat.blt k 8) (natsK k (.i k n :: r) fun l => muxK N l fun M => κ' (.l k M) h' nx') false = _
        rw [b1, br_tt, n1, m1]
      · obtain ⟨⟨hhas, h16⟩, hpx⟩ := hr θ ac hE
        obtain ⟨k1, k4, k6⟩ := rd_same hR hhas e hdet
        have hall : ∀ j, j < 256 → ∀ i x : Nat, l[i]? = some x → ln j x < 2 ^ 64 := by
          intro j hj i x hx
          have hi : i < (AV.i k n :: r).length := by rw [← n3]; exact (List.getElem?_eq_some_iff.1 hx).1
          exact (n4 θ k4 i _ x (List.getElem?_eq_getElem hi) hx).1.all64 j hj
        have hlim : Lim (khi k) M := by
          intro j hj
          obtain ⟨y, y1, y2⟩ := m3 j hj (hall j hj)
          have hi : ln j N % 16 < (AV.i k n :: r).length := by rw [← n3]; exact (List.getElem?_eq_some_iff.1 y1).1
          rw [y2]
          exact (n4 θ k4 _ _ y (List.getElem?_eq_getElem hi) y1).1 j hj
        obtain ⟨y, y1, y2⟩ := m3 θ.lane θ.lane_lt (hall _ θ.lane_lt)
        rw [Nat.mod_eq_of_lt (h16 _ θ.lane_lt)] at y1
        have hi : ln θ.lane N < (AV.i k n :: r).length := by rw [← n3]; exact (List.getElem?_eq_some_iff.1 y1).1
        have hy := (n4 θ k4 _ _ y (List.getElem?_eq_getElem hi) y1).2
        have hcell := k6 (ln θ.lane N) (toV θ (AV.i k n :: r)[ln θ.lane N]) (by rw [toVs_get, List.getElem?_eq_getElem hi]; rfl)
        rw [hy, ← y2] at hcell
        refine ⟨_, vr_l θ b1' hlim, ?_⟩
        have hl := run_loadVar_one (w := w) hg hcell
        rw [Nat.add_assoc] at hl
        have hpx : ac.eval X = .pointer (some ⟨θ.blk b, θ.bas b + (off + ln θ.lane N), none⟩) := hpx
        simp [execOp, ho, hpx, Instr.loadAt, Instr.sureAddr, hl]
  have hsame : ∀ h nx κ, oLd1 x en h nx κ = asP (fun o off => rd1 o off h fun v => κ v h nx) v := by
    intro h nx κ
    simp only [oLd1, hv]
    cases v <;> first | rfl | exact absurd ⟨_, _, _, rfl⟩ hq
  rw [hsame] at e
  obtain ⟨b, off, rfl, e1⟩ := asP_true e
  have hdet : ∃ v, ∀ h', Ext h h' → ∀ κ', rd1 b off h' κ' = κ' v := by
    obtain ⟨a, ha, e2⟩ := get_true e1
    have ext : ∀ h', Ext h h' → ∀ κ', rd1 b off h' κ' = rd1 b off h κ' := fun h' hx κ' => by
      unfold rd1
      rw [get_is ha, get_is (hx b a ha)]
    cases a with
    | sm l =>
      simp only [nthK_eq] at e2
      cases hl : l[off]? with
      | none => rw [hl] at e2; cases e2
      | some v =>
        refine ⟨v, fun h' hx κ' => ?_⟩
        rw [ext h' hx]
        unfold rd1
        rw [get_is ha]
        simp only [nthK_eq, hl]
    | ce N es z zl d t top sh =>
      obtain ⟨hlt, e3⟩ := br_t e2
      rw [cellK_eq] at e3
      cases hc : cellO z zl d t off with
      | none => rw [hc] at e3; cases e3
      | some v =>
        refine ⟨v, fun h' hx κ' => ?_⟩
        rw [ext h' hx]
        unfold rd1
        rw [get_is ha]
        show br (Nat.blt off N) (cellK z zl d t κ' off) false = _
        rw [hlt, cellK_eq, hc]
        rfl
    | mp es c => cases e2
    | it m s1 s2 s3 => cases e2
    | lp a b c d e f => cases e2
    | df b => cases e2
    | dead => cases e2
  obtain ⟨c, hdet⟩ := hdet
  refine ⟨c, fun h' hx nx' κ' => ?_, fun θ ac w w0 pd nx0 hE hR => ?_⟩
  · rw [hsame]
    exact hdet h' hx _
  · obtain ⟨hpx, hhas⟩ := (hr θ ac hE).p
    obtain ⟨c', k1, _, k3, _, k5⟩ := rd1_ok hR hhas e1
    have hc : c' = c := by
      have h1 := k1 h (Ext.refl h) (fun l => @decide (l = c) (Classical.propDecidable _))
      rw [hdet h (Ext.refl h)] at h1
      simpa using h1.symm
    subst hc
    refine ⟨toV θ c', ⟨k3, rfl⟩, ?_⟩
    have hl := run_loadVar_one (w := w) hg k5
    simp [execOp, ho, hpx, Instr.loadAt, Instr.sureAddr, hl]
theorem asMp_true {κ : List ME → Nat → R} {a : AO} (e : asMp κ a = true) : ∃ es c, a = .mp es c ∧ κ es c = true := by
  cases a <;> first | exact ⟨_, _, rfl, e⟩ | cases e
theorem run_getMap {w : World} {r : Nat} {es : Array MapEntry} {clock : Nat} (hb : w.heap[r]? = some (.map es clock)) : (getObj r).run P w = .ok (.map es clock) w := by
  simp [getObj, Sem.run, hb]
theorem r_lens {t : TypeId} {c : Call} (hx : XOk x X) (hu : P.underlying t = some .string) (hc : c.callee = .builtin .len) (ha : c.args.toList = [X]) (ht : c.argTypes.toList = [t]) (ho : o.op = .call c) : ReadOk P o (oLens x) := by
  refine PureOk.read fun en h nx κ e => ?_
  obtain ⟨v, hv, hr⟩ := hx en
  by_cases hxi : ∃ n k' r m, v = .xi n k' r m
  · obtain ⟨n, k', r, m, rfl⟩ := hxi
    simp only [oLens, hv] at e
    obtain ⟨b1, e⟩ := br_t e
    have b1' := Nat.eq_of_beq_eq_true b1
    subst b1'
    refine ⟨.xi n 9 r m, fun h' nx' κ' => by simp only [oLens, hv]; rfl, fun θ ac w hE => ?_⟩
    obtain ⟨hok, hX⟩ := hr θ ac hE
    obtain ⟨_, s, k1, k2, k3, _, _⟩ := xi_str hok
    refine ⟨.int .i64 s.size, ⟨k3, k2.symm⟩, ?_⟩
    rw [k1] at hX
    obtain ⟨ca, cargs, ct⟩ := c
    have ha' : cargs = #[X] := by cases cargs; simp_all
    have ht' : ct = #[t] := by cases ct; simp_all
    simp only at hc
    subst ha' ht' hc
    simp [execOp, ho, resolve, invoke, builtin, Builtin.len_, run_underlying hu, hX, goInt]
  have hsame : ∀ h nx κ, oLens x en h nx κ = asS (fun l => fnat (lenN Nat l) fun n => κ (.i 3 (.ofNat n)) h nx) v := by
    intro h nx κ
    simp only [oLens, hv]
    cases v <;> first | rfl | exact absurd ⟨_, _, _, _, rfl⟩ hxi
  rw [hsame] at e
  obtain ⟨l, rfl, e1⟩ := asS_true e
  refine ⟨.i 3 (.ofNat l.length), fun h' nx' κ' => ?_, fun θ ac w hE => ⟨_, vr_i θ _ _, ?_⟩⟩
  · rw [hsame]
    show fnat (lenN Nat l) (fun n => κ' (.i 3 (.ofNat n)) h' nx') = _
    rw [fnat_eq, lenN_eq]
  · obtain ⟨ca, cargs, ct⟩ := c
    have ha' : cargs = #[X] := by cases cargs; simp_all
    have ht' : ct = #[t] := by cases ct; simp_all
    simp only at hc
    subst ha' ht' hc
    simp [execOp, ho, resolve, invoke, builtin, Builtin.len_, run_underlying hu, (hr θ ac hE).s.1, goInt, bytes_size, kindOf]
theorem r_lenl {t el : TypeId} {c : Call} (hx : XOk x X) (hu : P.underlying t = some (.slice el)) (hc : c.callee = .builtin .len) (ha : c.args.toList = [X]) (ht : c.argTypes.toList = [t]) (ho : o.op = .call c) : ReadOk P o (oLenl x) := by
  refine PureOk.read fun en h nx κ e => ?_
  obtain ⟨v, hv, hr⟩ := hx en
  simp only [oLenl, hv] at e
  obtain ⟨ca, cargs, ct⟩ := c
  have ha' : cargs = #[X] := by cases cargs; simp_all
  have ht' : ct = #[t] := by cases ct; simp_all
  simp only at hc
  subst ha' ht' hc
  cases v <;> first | (cases e; done) | skip
  · rename_i b off len cap
    refine ⟨.i 3 (.ofNat len), fun h' nx' κ' => by simp only [oLenl, hv], fun θ ac w hE => ⟨_, vr_i θ _ _, ?_⟩⟩
    obtain ⟨_, cc, hx'⟩ := (hr θ ac hE).sl
    simp [execOp, ho, resolve, invoke, builtin, Builtin.len_, run_underlying hu, hx', goInt, kindOf]
  · refine ⟨.i 3 (.ofNat 0), fun h' nx' κ' => by simp only [oLenl, hv], fun θ ac w hE => ⟨_, vr_i θ _ _, ?_⟩⟩
    have hx' : ac.eval X = .slice none 0 0 := (hr θ ac hE).2
    simp [execOp, ho, resolve, invoke, builtin, Builtin.len_, run_underlying hu, hx', goInt, kindOf]
  · rename_i n k r m
    obtain ⟨b1, e1⟩ := br_t (show br (Nat.beq k 12) _ false = true from e)
    have b1' := Nat.eq_of_beq_eq_true b1
    subst b1'
    refine ⟨.i 3 (.ofNat 0), fun h' nx' κ' => by simp only [oLenl, hv]; rfl, fun θ ac w hE => ⟨_, vr_i θ _ _, ?_⟩⟩
    have hx' : ac.eval X = tailV θ n r m := (hr θ ac hE).2
    simp [execOp, ho, resolve, invoke, builtin, Builtin.len_, run_underlying hu, hx', tailV, goInt, kindOf]
theorem r_lenm {t kt el : TypeId} {c : Call} (hx : XOk x X) (hu : P.underlying t = some (.map kt el)) (hc : c.callee = .builtin .len) (ha : c.args.toList = [X]) (ht : c.argTypes.toList = [t]) (ho : o.op = .call c) : ReadOk P o (oLenm x) := by
  intro en h nx κ e
  obtain ⟨v, hv, hr⟩ := hx en
  simp only [oLenm, hv] at e
  obtain ⟨ca, cargs, ct⟩ := c
  have ha' : cargs = #[X] := by cases cargs; simp_all
  have ht' : ct = #[t] := by cases ct; simp_all
  simp only at hc
  subst ha' ht' hc
  cases v <;> first | (cases e; done) | skip
  · rename_i b
    obtain ⟨a, hb, e1⟩ := get_true e
    obtain ⟨es, cl, rfl, e2⟩ := asMp_true e1
    refine ⟨.i 3 (.ofNat es.length), fun h' hx nx' κ' => ?_, fun θ ac w w0 pd nx0 hE hR => ⟨_, vr_i θ _ _, ?_⟩⟩
    · simp only [oLenm, hv, get_is (hx b _ hb)]
      show fnat (lenN ME es) (fun n => κ' (.i 3 (.ofNat n)) h' nx') = _
      rw [fnat_eq, lenN_eq]
    · obtain ⟨hx', hh⟩ := (hr θ ac hE).m
      have hm := (hR.obj_ hh hb).1
      simp [execOp, ho, resolve, invoke, builtin, Builtin.len_, run_underlying hu, hx', goInt, kindOf, run_getMap hm]
  · refine ⟨.i 3 (.ofNat 0), fun h' hx nx' κ' => by simp only [oLenm, hv], fun θ ac w w0 pd nx0 hE hR => ⟨_, vr_i θ _ _, ?_⟩⟩
    have hx' : ac.eval X = .map none := (hr θ ac hE).2
    simp [execOp, ho, resolve, invoke, builtin, Builtin.len_, run_underlying hu, hx', goInt, kindOf]
theorem vat_ok {θ : Th} {es : List ME} {i : Nat} (hi : i < es.length) (h : ∀ e ∈ es, meOk θ e) : Ok θ (vat es i) := by
  unfold vat
  rw [List.getElem?_eq_getElem hi]
  have := h _ (List.getElem_mem hi)
  cases he : es[i] with
  | mk k v b => rw [he] at this; exact this.2
theorem r_lkp {t kt el : TypeId} {g ok : Bool} {ks : List Nat} {z : AV} (hx : XOk x X) (hy : XOk y Y) (hu : P.underlying t = some (.map kt el)) (hf : flatT P kt = some (g, ks)) (hz : zeroV P el = some z)
    (ho : o.op = .lookup t X Y ok) : ReadOk P o (oLkp g ks x y ok z) := by
  intro en h nx κ e
  obtain ⟨v, hv, hr⟩ := hx en
  obtain ⟨v2, hv2, hr2⟩ := hy en
  simp only [oLkp, hv, hv2] at e
  obtain ⟨e1, hky, hck⟩ := kyT_ok hf e
  obtain ⟨zi, zv, z1, z2, z3⟩ := zeroV_some hz
  cases v <;> first | (cases e1; done) | skip
  · rename_i b
    obtain ⟨a, hb, e2⟩ := get_true e1
    obtain ⟨es, cl, rfl, e3⟩ := asMp_true e2
    obtain ⟨r, h1, h2⟩ := fndK_true (eqT_det hf) e3
    refine ⟨(match r with | none => if ok then .tu [z, .b false] else z | some i => if ok then .tu [vat es i, .b true] else vat es i : AV), fun h' hx nx' κ' => ?_, fun θ ac w w0 pd nx0 hE hR => ?_⟩
    · simp only [oLkp, hv, hv2, hky, get_is (hx b _ hb)]
      show fndK (eqT g ks) v2 es (br ok (κ' (.tu [z, .b false]) h' nx') (κ' z h' nx')) (fun v => br ok (κ' (.tu [v, .b true]) h' nx') (κ' v h' nx')) = _
      rw [h2]
      cases r <;> cases ok <;> rfl
    · obtain ⟨hx', hh⟩ := (hr θ ac hE).m
      obtain ⟨hm, hes⟩ := hR.obj_ hh hb
      have hfk := (find_hit hf h1 (hr2 θ ac hE) hes w).1
      have hck := hck θ _ (hr2 θ ac hE)
      have hz' : (zeroValue el).run P w = .ok zv w := by simp [zeroValue, typeInfo, z1, z2]
      cases r with
      | none =>
        refine ⟨if ok then .tuple #[zv, .bool false] else zv, ?_, ?_⟩
        · cases ok
          · exact z3 θ
          · exact ⟨⟨(z3 θ).1, trivial, trivial⟩, by rw [(z3 θ).2]; rfl⟩
        · simp only [execOp, ho, Instr.lookup, Sem.run_bind, run_underlying hu, Result.andThen, hx', run_getMap hm, Sem.run_pure, hck, List.toList_toArray, hfk, Option.map_none, hz']
      | some i =>
        have hi := h1.lt i rfl
        refine ⟨if ok then .tuple #[toV θ (vat es i), .bool true] else toV θ (vat es i), ?_, ?_⟩
        · cases ok
          · exact ⟨vat_ok hi hes, rfl⟩
          · exact ⟨⟨vat_ok hi hes, trivial, trivial⟩, rfl⟩
        · simp only [execOp, ho, Instr.lookup, Sem.run_bind, run_underlying hu, Result.andThen, hx', run_getMap hm, Sem.run_pure, hck, List.toList_toArray, hfk, Option.map_some]
  · refine ⟨if ok then .tu [z, .b false] else z, fun h' hx nx' κ' => ?_, fun θ ac w w0 pd nx0 hE hR => ?_⟩
    · simp only [oLkp, hv, hv2, hky]
      cases ok <;> rfl
    · have hx' : ac.eval X = .map none := (hr θ ac hE).2
      have hck := hck θ _ (hr2 θ ac hE)
      have hz' : (zeroValue el).run P w = .ok zv w := by simp [zeroValue, typeInfo, z1, z2]
      have hfk : (Instr.findKey kt (ac.eval Y) []).run P w = .ok none w := by
        have := (find_hit (es := []) hf (r := none) rfl (hr2 θ ac hE) (by simp) w).1
        simpa using this
      refine ⟨if ok then .tuple #[zv, .bool false] else zv, ?_, ?_⟩
      · cases ok
        · exact z3 θ
        · exact ⟨⟨(z3 θ).1, trivial, trivial⟩, by rw [(z3 θ).2]; rfl⟩
      · simp only [execOp, ho, Instr.lookup, Sem.run_bind, run_underlying hu, Result.andThen, hx', Sem.run_pure, hck, hfk, hz']
theorem bytesK_true : ∀ {vs : List AV} {κ : List Nat → R}, bytesK vs κ = true → ∃ l, (∀ κ', bytesK vs κ' = κ' l) ∧ κ l = true ∧ vs = l.map (fun m => .i 4 (.ofNat m)) ∧ ∀ x ∈ l, x < 256
  | [], κ, e => ⟨[], fun _ => rfl, e, rfl, by simp⟩
  | v :: vs, κ, e => by
    have e : asK 4 (fun n => @Int.rec (fun _ => R) (fun m => br (Nat.blt m 256) (bytesK vs fun l => κ (m :: l)) false) (fun _ => false) n) v = true := e
    obtain ⟨n, rfl, e1⟩ := asK_true e
    cases n with
    | negSucc m => cases e1
    | ofNat m =>
      obtain ⟨hm, e2⟩ := br_t (show br (Nat.blt m 256) _ false = true from e1)
      obtain ⟨l, h1, h2, h3, h4⟩ := bytesK_true e2
      refine ⟨m :: l, fun κ' => ?_, h2, by rw [h3]; rfl, fun x hx => ?_⟩
      · show asK 4 (fun n => @Int.rec (fun _ => R) (fun m => br (Nat.blt m 256) (bytesK vs fun l => κ' (m :: l)) false) (fun _ => false) n) (.i 4 (.ofNat m)) = _
        rw [asK_i]
        show br (Nat.blt m 256) (bytesK vs fun l => κ' (m :: l)) false = _
        rw [hm]
        exact h1 _
      · rcases List.mem_cons.1 hx with rfl | hx
        · simpa [Nat.blt_eq] using hm
        · exact h4 x hx
theorem foldl_push (l : List UInt8) : ∀ r : ByteArray, (l.foldl (fun r x => r.push x) r) = ⟨r.data ++ l.toArray⟩ := by
  induction l with
  | nil => intro r; simp
  | cons x l ih => intro r; rw [List.foldl_cons, ih]; simp [ByteArray.push]
/-- a byte's number -/
def byN (θ : Th) : AV → Int
  | .i _ n => n
  | .l _ N => (ln θ.lane N : Nat)
  | _ => 0
theorem allBy_ok {θ : Th} : ∀ {vs : List AV}, allBy vs = true → Oks θ vs → (∀ v ∈ vs, byOk v) ∧ toVs θ vs = (vs.map (byN θ)).map (Value.int .u8) ∧ (vs.map (byN θ)).map (fun n => UInt8.ofNat n.toNat) = vs.map (byV θ)
  | [], _, _ => ⟨by simp, rfl, rfl⟩
  | v :: vs, e, ho => by
    have e : (@Bool.rec (fun _ => Bool) false (allBy vs) (isBy v)) = true := e
    cases hb : isBy v with
    | false => rw [hb] at e; cases e
    | true =>
      rw [hb] at e
      obtain ⟨k1, k2, k3⟩ := allBy_ok (θ := θ) e ho.2
      have hv : byOk v ∧ toV θ v = .int .u8 (byN θ v) ∧ UInt8.ofNat (byN θ v).toNat = byV θ v := by
        cases v <;> first | (cases hb; done) | skip
        · rename_i k n
          have hb : (@Bool.rec (fun _ => Bool) false (@Int.rec (fun _ => Bool) (fun n => Nat.blt n 256) (fun _ => false) n) (Nat.beq k 4)) = true := hb
          cases hk : Nat.beq k 4 with
          | false => rw [hk] at hb; cases hb
          | true =>
            rw [hk] at hb
            have hk := Nat.eq_of_beq_eq_true hk
            subst hk
            cases n with
            | negSucc n => cases hb
            | ofNat n =>
              have hb : Nat.blt n 256 = true := hb
              exact ⟨.inl ⟨n, rfl, by simpa [Nat.blt_eq] using hb⟩, rfl, rfl⟩
        · rename_i k N
          have hk := Nat.eq_of_beq_eq_true (show Nat.beq k 4 = true from hb)
          subst hk
          have h1 : VR θ (.l 4 N) (toV θ (.l 4 N)) := ⟨ho.1, rfl⟩
          obtain ⟨q1, q2⟩ := h1.l (by decide)
          exact ⟨.inr ⟨N, rfl, q1⟩, rfl, rfl⟩
      refine ⟨fun u hu => ?_, by simp only [toVs, List.map_cons, hv.2.1, k2], by simp only [List.map_cons, hv.2.2, k3]⟩
      rcases List.mem_cons.1 hu with rfl | hu
      · exact hv.1
      · exact k1 u hu
theorem r_b2s {s d el : TypeId} (hx : XOk x X) (hs : P.underlying s = some (.slice el)) (he : P.underlying el = some (.int .u8)) (hd : P.underlying d = some .string) (ho : o.op = .convert s d X) : ReadOk P o (oB2s x) := by
  intro en h nx κ e
  obtain ⟨v, hv, hr⟩ := hx en
  simp only [oB2s, hv] at e
  have conv : ∀ (u : Value) (w : World), (∃ A l c, u = .slice A l c) → (convert s d u).run P w = (Conv.bytesToString u).run P w := by
    rintro u w ⟨A, l, c, rfl⟩
    simp only [convert, Sem.run_bind, run_underlying hs, run_underlying hd, run_underlying he, Result.andThen]
  cases v <;> first | (cases e; done) | skip
  · rename_i b off len cap
    have e : rdK b off len h (fun vs => br (anyL vs) (br (allBy vs) (κ (.t vs) h nx) false) (bytesK vs fun l => κ (.s l) h nx)) = true := e
    obtain ⟨vs, hvs⟩ := rd_det e
    have e2 := e
    rw [hvs h (Ext.refl h)] at e2
    have fold : ∀ (l : List Int) (r : ByteArray), (l.foldl (fun r x => r.push (UInt8.ofNat x.toNat)) r) = ⟨r.data ++ (l.map fun x => UInt8.ofNat x.toNat).toArray⟩ := by
      intro l r
      have := foldl_push (l.map fun x => UInt8.ofNat x.toNat) r
      rw [List.foldl_map] at this
      exact this
    have run : ∀ (θ : Th) (ac : Act) w (l : List Int), ER θ en ac.tmps → toVs θ vs = l.map (Value.int .u8) → vs.length = len → (∀ j v, (toVs θ vs)[j]? = some v → w.cell? ⟨θ.blk b, θ.bas b + off + j, none⟩ = some v) →
        (execOp ac.eval o).run P w = .ok (.value (.string ⟨(l.map fun x => UInt8.ofNat x.toNat).toArray⟩)) w := by
      intro θ ac w l hE hcells k1 k6
      obtain ⟨hh, c, hx'⟩ := (hr θ ac hE).sl
      have hl := run_loadCells_list (P := P) w ⟨θ.blk b, θ.bas b + off, none⟩ (toVs θ vs) (fun j v hj => by rw [Addr.add_lit]; exact k6 j v hj)
      rw [toVs_length, k1, hcells] at hl
      have hrun : (Conv.bytesToString (.slice (some ⟨θ.blk b, θ.bas b + off, none⟩) len c)).run P w = .ok (.string ⟨(l.map fun x => UInt8.ofNat x.toNat).toArray⟩) w := by
        rw [run_bytesToString w ⟨θ.blk b, θ.bas b + off, none⟩ len c l hl]
        congr 2
        rw [fold]
        simp
      simp [execOp, ho, hx', conv _ _ ⟨_, _, _, rfl⟩, hrun]
    rcases br_true e2 with ⟨g1, e3⟩ | ⟨g1, e3⟩
    · obtain ⟨g2, e4⟩ := br_t e3
      refine ⟨.t vs, fun h' hx nx' κ' => ?_, fun θ ac w w0 pd nx0 hE hR => ?_⟩
      · simp only [oB2s, hv]
        rw [hvs h' hx, g1, g2]
        rfl
      · obtain ⟨k1, k4, k6⟩ := rd_same hR (hr θ ac hE).sl.1 e hvs
        obtain ⟨q1, q2, q3⟩ := allBy_ok (θ := θ) g2 k4
        refine ⟨.string (txV θ vs), ⟨q1, rfl⟩, ?_⟩
        have := run θ ac w (vs.map (byN θ)) hE q2 k1 k6
        rw [q3] at this
        exact this
    · obtain ⟨l, h1, _, h3, h4⟩ := bytesK_true e3
      refine ⟨.s l, fun h' hx nx' κ' => ?_, fun θ ac w w0 pd nx0 hE hR => ?_⟩
      · simp only [oB2s, hv]
        rw [hvs h' hx, g1]
        exact h1 _
      · obtain ⟨k1, k4, k6⟩ := rd_same hR (hr θ ac hE).sl.1 e hvs
        refine ⟨.string (bytesOf l), ⟨h4, rfl⟩, ?_⟩
        have hcells : toVs θ vs = (l.map Int.ofNat).map (Value.int .u8) := by
          rw [toVs_map, h3, List.map_map, List.map_map]; rfl
        have := run θ ac w (l.map Int.ofNat) hE hcells k1 k6
        rw [List.map_map] at this
        exact this
  · refine ⟨.s [], fun h' hx nx' κ' => by simp only [oB2s, hv], fun θ ac w w0 pd nx0 hE hR => ⟨.string .empty, ⟨(fun x hx => nomatch hx), rfl⟩, ?_⟩⟩
    have hx' : ac.eval X = .slice none 0 0 := (hr θ ac hE).2
    simp [execOp, ho, hx', conv _ _ ⟨_, _, _, rfl⟩, Conv.bytesToString]
end
end Go.AM
