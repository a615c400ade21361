/-
  AM, 24: regions stepped through. Conditions: none.
-/
import Derived.Test.YtmhhaimpignndaaGreatAmW
import Derived.RangeFuncIn
namespace Go.AM
open Go

section
variable {tb : Tb} {en : Env} {k : List T} {fr : Fr} {cs : List AFr} {h : H} {nx : Nat} {κ : ASt → R}
theorem rgK_sOp (d : DsF) (f : OpF) (r : Rg) : rgK tb (ahead (sOp d f) r) en k fr cs h nx κ = f en h nx fun v h nx => d v en fun en => rgK tb r en k fr cs h nx κ := by cases r <;> rfl
theorem rgK_sOpG (g : GdF) (d : DsF) (f : OpF) (r : Rg) : rgK tb (ahead (sOpG g d f) r) en k fr cs h nx κ =
    g en (f en h nx fun v h nx => d v en fun en => rgK tb r en k fr cs h nx κ) (d undef en fun en => rgK tb r en k fr cs h nx κ) := by cases r <;> rfl
theorem rgK_sAg (g : GdF) (x : XF) (f : OpF) (r : Rg) : rgK tb (ahead (sAg g x f) r) en k fr cs h nx κ =
    g en (x en fun old => f en h nx fun v _ _ => br (beqV old v) (rgK tb r en k fr cs h nx κ) false) (rgK tb r en k fr cs h nx κ) := by cases r <;> rfl
theorem rgK_op (g : Gd) (d : Ds) (i : I) (r : DR) : rgK tb (dR (.op g d i r)) en k fr cs h nx κ =
    dG g en (dI i en h nx fun v h nx => rgK tb (dR r) (putE d v en) k fr cs h nx κ) (rgK tb (dR r) (putE d undef en) k fr cs h nx κ) := by
  have e1 : ∀ (v : AV) (h : H) (nx : Nat), dD d v en (fun en => rgK tb (dR r) en k fr cs h nx κ) = rgK tb (dR r) (putE d v en) k fr cs h nx κ := fun v h nx => dD_eq d v en _
  cases g with
  | n =>
    show rgK tb (ahead (sOp (dD d) (dI i)) (dR r)) en k fr cs h nx κ = _
    rw [rgK_sOp]
    simp only [e1]
    rfl
  | g t b =>
    show rgK tb (ahead (sOpG (dG (.g t b)) (dD d) (dI i)) (dR r)) en k fr cs h nx κ = _
    rw [rgK_sOpG]
    simp only [e1]
theorem rgK_rck (g : Gd) (t : Nat) (i : I) (r : DR) : rgK tb (dR (.rck g t i r)) en k fr cs h nx κ =
    dG g en (dI i en h nx fun v _ _ => br (beqV (getL AV 3 t en) v) (rgK tb (dR r) en k fr cs h nx κ) false) (rgK tb (dR r) en k fr cs h nx κ) := by
  show rgK tb (ahead (sAg (dG g) (xT t) (dI i)) (dR r)) en k fr cs h nx κ = _
  rw [rgK_sAg]
  congr 1
  show getK AV _ 3 t en = _
  rw [getK_eq]
theorem rgK_call (g : Gd) (d : Ds) (f : Nat) (xs : List X) (r : DR) : rgK tb (dR (.call g d f xs r)) en k fr cs h nx κ =
    dG g en (dXs xs en fun vs => enterK tb f vs false (.mk en (.wt (dD d) (dR r) :: k) fr :: cs) h nx κ) (κ (.mk (putE d undef en) (.rg (dR r) :: k) fr cs h nx)) := by
  show dG g en _ (dD d undef en fun en => κ (.mk en (.rg (dR r) :: k) fr cs h nx)) = _
  rw [dD_eq]
theorem rgK_calv (g : Gd) (d : Ds) (x : X) (xs : List X) (r : DR) : rgK tb (dR (.calv g d x xs r)) en k fr cs h nx κ =
    dG g en (dX x en fun v => dXs xs en fun vs => callvK tb v vs (.mk en (.wt (dD d) (dR r) :: k) fr :: cs) h nx κ) (κ (.mk (putE d undef en) (.rg (dR r) :: k) fr cs h nx)) := by
  show dG g en _ (dD d undef en fun en => κ (.mk en (.rg (dR r) :: k) fr cs h nx)) = _
  rw [dD_eq]
theorem rgK_inv (g : Gd) (d : Ds) (tbl : List (Nat × Nat)) (x : X) (xs : List X) (r : DR) : rgK tb (dR (.inv g d tbl x xs r)) en k fr cs h nx κ =
    dG g en (dX x en fun v => dXs xs en fun vs => invK tb tbl v vs (.mk en (.wt (dD d) (dR r) :: k) fr :: cs) h nx κ) (κ (.mk (putE d undef en) (.rg (dR r) :: k) fr cs h nx)) := by
  show dG g en _ (dD d undef en fun en => κ (.mk en (.rg (dR r) :: k) fr cs h nx)) = _
  rw [dD_eq]
theorem rgK_dfr (g : Gd) (d : Ds) (x : X) (xs : List X) (r : DR) (fn : Nat) (df : List AD) (kd : Bool) (rd : Option Nat) : rgK tb (dR (.dfr g d x xs r)) en k (.mk fn df kd rd) cs h nx κ =
    dG g en (match rd with
      | none => dX x en fun v => dXs xs en fun vs => (match v with
        | .fn f caps => appK AV vs caps fun vs => κ (.mk (putE d undef en) (.rg (dR r) :: k) (.mk fn (.fn f vs :: df) kd none) cs h nx)
        | _ => false)
      | some _ => false) (κ (.mk (putE d undef en) (.rg (dR r) :: k) (.mk fn df kd rd) cs h nx)) := by
  show dG g en _ (dD d undef en fun en => κ (.mk en (.rg (dR r) :: k) (.mk fn df kd rd) cs h nx)) = _
  rw [dD_eq]
  cases rd with
  | none =>
    congr 1
    show dX x en _ = _
    congr 1; funext v
    congr 1; funext vs
    cases v <;> first | rfl | skip
    show appK AV vs _ (fun vs => dD d undef en _) = _
    simp only [dD_eq]
  | some o => rfl
theorem rgK_rcv (g : Gd) (d : Ds) (r : DR) (fn : Nat) (df : List AD) (kd : Bool) (rd : Option Nat) : rgK tb (dR (.rcv g d r)) en k (.mk fn df kd rd) cs h nx κ =
    dG g en (match rd with | none => κ (.mk (putE d .ni en) (.rg (dR r) :: k) (.mk fn df kd none) cs h nx) | some _ => false) (κ (.mk (putE d undef en) (.rg (dR r) :: k) (.mk fn df kd rd) cs h nx)) := by
  cases rd with
  | none =>
    show dG g en (dD d .ni en fun en => κ (.mk en (.rg (dR r) :: k) (.mk fn df kd none) cs h nx)) (dD d undef en fun en => κ (.mk en (.rg (dR r) :: k) (.mk fn df kd none) cs h nx)) = _
    rw [dD_eq, dD_eq]
  | some o =>
    show dG g en false (dD d undef en fun en => κ (.mk en (.rg (dR r) :: k) (.mk fn df kd (some o)) cs h nx)) = _
    rw [dD_eq]
end

/-- a frame under way, but for its temporaries -/
structure Fx (P : Program) (θ : Th) (f : Nat) (fn : Func) (body : Code) (kd : Bool) (rd : Option Nat) (df : List AD) (a : Act) (td : List T) (todo : List Item) : Prop where
  hf : FnC P f fn body
  hr : ∀ o, rd = some o → θ.has o ∧ kd = false
  hd : DsR θ df a.defers
  hs : fn.ntmps ≤ a.tmps.size
  ht : TdR P θ f fn.ntmps body td todo
section
variable {P : Program} {θ θ' : Th} {f : Nat} {fn : Func} {body : Code} {kd : Bool} {rd : Option Nat} {df : List AD} {a a' : Act} {td : List T} {todo : List Item}
theorem Fx.mono (hle : θ.le θ') (hx : Fx P θ f fn body kd rd df a td todo) : Fx P θ' f fn body kd rd df a td todo :=
  ⟨hx.hf, fun o ho => ⟨hle.has o (hx.hr o ho).1, (hx.hr o ho).2⟩, hx.hd.mono hle, hx.hs, hx.ht.mono hle⟩
theorem Fx.rdm (hle : θ.le θ') (hx : Fx P θ f fn body kd rd df a td todo) : rd.map θ'.blk = rd.map θ.blk := by
  cases rd with
  | none => rfl
  | some o => exact congrArg some (hle.blk o (hx.hr o rfl).1)
theorem Fx.act (hx : Fx P θ f fn body kd rd df a td todo) (hs : a'.tmps.size = a.tmps.size) (hd : a'.defers = a.defers) : Fx P θ f fn body kd rd df a' td todo :=
  ⟨hx.hf, hx.hr, by rw [hd]; exact hx.hd, by rw [hs]; exact hx.hs, hx.ht⟩
theorem Fx.run (hx : Fx P θ f fn body kd rd df a td todo) (h : H) {en : Env} (hE : ER θ en a.tmps) : FR P θ h [] en td (.mk f df kd rd) ((bF f kd (rd.map θ.blk)).atR a todo) := .run hx.hf hx.hr hx.hd hx.hs hE hx.ht
theorem Fx.more (hx : Fx P θ f fn body kd rd df a td todo) {t : T} {i : Item} (h : IR P θ f fn.ntmps body t i) : Fx P θ f fn body kd rd df a (t :: td) (i :: todo) := ⟨hx.hf, hx.hr, hx.hd, hx.hs, .cons h hx.ht⟩
theorem Fx.tdm {td' : List T} {todo' : List Item} (hx : Fx P θ f fn body kd rd df a td todo) (h : TdR P θ f fn.ntmps body td' todo') : Fx P θ f fn body kd rd df a td' todo' := ⟨hx.hf, hx.hr, hx.hd, hx.hs, h⟩

variable {w0 w : World} {cs0 : List Frame} {f0 : F0} {κ : ASt → R} {tb : Tb} {h : H} {nx : Nat} {cs : List AFr} {Fs : List Frame} {q pd : List (Nat × AO)} {en : Env}
/-- a state reached -/
theorem Fx.goal (hx : Fx P θ f fn body kd rd df a td todo) (hE : ER θ en a.tmps) (hR : HR P w0 pd θ h nx w) (hC : CsR P θ f0 f kd cs Fs pd) (e : κ (.mk en td (.mk f df kd rd) cs h nx) = true) :
    Goal P w0 cs0 f0 κ (lone ((bF f kd (rd.map θ.blk)).atR a todo) (Fs ++ cs0) w) :=
  ⟨_, _, .refl P _, .mk (q := []) hR (hx.run h hE) hC, e⟩

/-! ### Calls -/
theorem rfs_in : ∀ (c : Code) (k l : Nat) (ps : Array Nat) (x y : Code), (l, ps, x, y) ∈ rfs k c → k ≤ l ∧ l < k + nrf c ∧ (∀ e ∈ rfs (l + 1) x, e ∈ rfs k c) ∧ ∀ e ∈ rfs (l + 1 + nrf x) y, e ∈ rfs k c := by
  intro c
  induction c with
  | seq a b iha ihb =>
    intro k l ps x y hm
    simp only [rfs, List.mem_append] at hm
    rcases hm with hm | hm
    · obtain ⟨h1, h2, h3, h4⟩ := iha k l ps x y hm
      exact ⟨h1, by simp only [nrf]; omega, fun e he => List.mem_append_left _ (h3 e he), fun e he => List.mem_append_left _ (h4 e he)⟩
    · obtain ⟨h1, h2, h3, h4⟩ := ihb _ l ps x y hm
      exact ⟨by omega, by simp only [nrf]; omega, fun e he => List.mem_append_right _ (h3 e he), fun e he => List.mem_append_right _ (h4 e he)⟩
  | cond c a b iha ihb =>
    intro k l ps x y hm
    simp only [rfs, List.mem_append] at hm
    rcases hm with hm | hm
    · obtain ⟨h1, h2, h3, h4⟩ := iha k l ps x y hm
      exact ⟨h1, by simp only [nrf]; omega, fun e he => List.mem_append_left _ (h3 e he), fun e he => List.mem_append_left _ (h4 e he)⟩
    · obtain ⟨h1, h2, h3, h4⟩ := ihb _ l ps x y hm
      exact ⟨by omega, by simp only [nrf]; omega, fun e he => List.mem_append_right _ (h3 e he), fun e he => List.mem_append_right _ (h4 e he)⟩
  | block id a ih => exact fun k l ps x y hm => ih k l ps x y hm
  | loop a ih => exact fun k l ps x y hm => ih k l ps x y hm
  | scope a ih => exact fun k l ps x y hm => ih k l ps x y hm
  | rangeFunc g ps' a b iha ihb =>
    intro k l ps x y hm
    simp only [rfs, List.mem_cons, List.mem_append] at hm
    rcases hm with hm | hm | hm
    · injection hm with h1 h2
      injection h2 with h2 h3
      injection h3 with h3 h4
      subst h1 h2 h3 h4
      exact ⟨Nat.le_refl _, by simp only [nrf]; omega, fun e he => List.mem_cons_of_mem _ (List.mem_append_left _ he), fun e he => List.mem_cons_of_mem _ (List.mem_append_right _ he)⟩
    · obtain ⟨h1, h2, h3, h4⟩ := iha _ l ps x y hm
      exact ⟨by omega, by simp only [nrf]; omega, fun e he => List.mem_cons_of_mem _ (List.mem_append_left _ (h3 e he)), fun e he => List.mem_cons_of_mem _ (List.mem_append_left _ (h4 e he))⟩
    · obtain ⟨h1, h2, h3, h4⟩ := ihb _ l ps x y hm
      exact ⟨by omega, by simp only [nrf]; omega, fun e he => List.mem_cons_of_mem _ (List.mem_append_right _ (h3 e he)), fun e he => List.mem_cons_of_mem _ (List.mem_append_right _ (h4 e he))⟩
  | _ => intro k l ps x y hm; simp [rfs] at hm
/-- a loop over a function that the machine knows -/
theorem trL_some {li : Nat} {ps : AssF} {a b : C} (hl : trL P li = some (.mk ps a b)) {fnn : Nat} {fu : Func} {code : Code} {ps' : Array Nat} {x y : Code} (hfu : P.funcs[fnn]? = some fu) (hb : fu.body = some code) (hn : nrf code ≤ 16)
    (hm : (li, ps', x, y) ∈ rfs (liOf fnn) code) : ps = dA ps'.toList ∧ a = dC (trC P fu.ntmps (li + 1) x) ∧ b = dC (trC P fu.ntmps (li + 1 + nrf x) y) ∧ (∀ t ∈ ps'.toList, t < fu.ntmps) ∧ FnC P fnn fu code := by
  obtain ⟨h1, h2, _, _⟩ := rfs_in _ _ _ _ _ _ hm
  have hdiv : li / 16 = fnn := by unfold liOf at h1 h2; omega
  unfold trL at hl
  rw [hdiv, hfu] at hl
  simp only [hb] at hl
  split at hl
  · rename_i l2 ps2 x2 y2 hflt
    have hin : (li, ps', x, y) ∈ (rfs (liOf fnn) code).filter (fun x => Nat.beq x.1 li) := List.mem_filter.2 ⟨hm, Nat.beq_refl li⟩
    rw [hflt] at hin
    have hin := List.mem_singleton.1 hin
    injection hin with g1 g2
    injection g2 with g2 g3
    injection g3 with g3 g4
    subst g1 g2 g3 g4
    split at hl
    · rename_i hc
      simp only [Bool.and_eq_true] at hc
      injection hl with hl
      injection hl with k1 k2 k3
      obtain ⟨u, hu⟩ := Option.isSome_iff_exists.1 hc.2
      obtain ⟨fn', body', hfc, _⟩ := trF_some hu
      have e1 : fn' = fu := by have := hfc.hfn; rw [hfu] at this; injection this with this; exact this.symm
      subst e1
      have e2 : body' = code := by have := hfc.hbody; rw [hb] at this; injection this with this; exact this.symm
      subst e2
      refine ⟨k1.symm, k2.symm, k3.symm, fun t ht => ?_, hfc⟩
      have := List.all_eq_true.1 hc.1 t ht
      simpa [Nat.blt_eq] using this
    · cases hl
  · cases hl
theorem dA_ok : ∀ {ps : List Nat} {vs : List AV} {en : Env} {κ : Env → R} {tmps : Array Value}, dA ps vs en κ = true → (∀ t ∈ ps, t < 512) → (∀ t ∈ ps, t < tmps.size) → ER θ en tmps → Oks θ vs →
    ∃ en', κ en' = true ∧ vs.length = ps.length ∧ ER θ en' ((ps.zip (toVs θ vs)).foldl (fun tmps (t, a) => tmps.setIfInBounds t a) tmps) ∧ ((ps.zip (toVs θ vs)).foldl (fun tmps (t, a) => tmps.setIfInBounds t a) tmps).size = tmps.size
  | [], vs, en, κ, tmps, e, _, _, hE, hv => by
    cases vs with
    | nil => exact ⟨en, e, rfl, hE, rfl⟩
    | cons v vs => cases e
  | t :: ps, vs, en, κ, tmps, e, h5, hs, hE, hv => by
    cases vs with
    | nil => cases e
    | cons v vs =>
      have e : setK AV v 3 t en (fun en => dA ps vs en κ) = true := e
      rw [setK_eq] at e
      obtain ⟨en', k1, k2, k3, k4⟩ := dA_ok (tmps := tmps.setIfInBounds t (toV θ v)) e (fun t ht => h5 t (List.mem_cons_of_mem _ ht)) (fun t ht => by simpa using hs t (List.mem_cons_of_mem _ ht))
        (er_set hE ⟨hv.1, rfl⟩ (h5 t (List.mem_cons_self ..)) (hs t (List.mem_cons_self ..))) hv.2
      refine ⟨en', k1, by simp [k2], ?_, ?_⟩
      · simp only [toVs, List.zip_cons_cons, List.foldl_cons]; exact k3
      · simp only [toVs, List.zip_cons_cons, List.foldl_cons]; rw [k4]; simp
theorem getLoop_run {l : Nat} {r : Loop} (hl : w.heap[l]? = some (.loop r)) : (Instr.getLoop l).run P w = .ok r w := by
  simp [Instr.getLoop, getObj, Sem.run, hl]
/-- a value called -/
theorem callv_ok (ht : TbOk tb P) {v : AV} {u : Value} {vs : List AV} (e : callvK tb v vs cs h nx κ = true) (hv : VR θ v u) (hvs : Oks θ vs) (hR : HR P w0 pd θ h nx w) (hC : ∀ g, CsR P θ f0 g false cs Fs pd) :
    ∃ d n, (Deferred.ofValue u (toVs θ vs).toArray).run P w = .ok d w ∧ (invoke d.target d.args).run P w = .ok n w ∧
      ((∃ g args, n = .enter g args ∧ Goal P w0 cs0 f0 κ (lone (Frame.enter P g args .normal) (Fs ++ cs0) w)) ∨
       (∃ l g tmps x y, n = .round l g tmps x y ∧ Goal P w0 cs0 f0 κ (lone (Frame.round l g tmps x y .normal) (Fs ++ cs0) w))) := by
  obtain ⟨hok, rfl⟩ := hv
  cases v <;> first | (cases e; done) | skip
  · rename_i g caps
    have e : appK AV vs caps (fun vs => enterK tb g vs false cs h nx κ) = true := e
    rw [appK_eq] at e
    have hall : Oks θ (vs ++ caps) := Oks_iff.2 fun x hx => (List.mem_append.1 hx).elim (Oks_iff.1 hvs x) (Oks_iff.1 hok x)
    obtain ⟨fn, body, hf, hg⟩ := enter_ok ht e hall hR (hC _)
    refine ⟨{ target := .fn (.func g) (toVs θ caps).toArray, args := #[] ++ (toVs θ vs).toArray }, _, rfl, run_callFunc hf _, .inl ⟨_, _, rfl, ?_⟩⟩
    have : (#[] ++ (toVs θ vs).toArray ++ (toVs θ caps).toArray : Array Value) = (toVs θ (vs ++ caps)).toArray := by simp [toVs_map]
    rw [this]
    exact hg
  · rename_i o
    have hok : θ.has o := hok
    have e : get o h (asLp fun _ _ fn li en _ => lpOf tb li fun ps a b => ps vs en fun en => κ (.mk en [.c a, .br, .c b] (.mk fn [] false (some o)) cs h nx)) = true := e
    obtain ⟨ao, g1, g2⟩ := get_true e
    cases ao <;> first | (cases g2; done) | skip
    rename_i st j fnn li en' ds
    have g2 : lpOf tb li (fun ps a b => ps vs en' fun en => κ (.mk en [.c a, .br, .c b] (.mk fnn [] false (some o)) cs h nx)) = true := g2
    obtain ⟨fu, code, ps, x, y, tmps, h1, h2, h3, h4, h5, h6, h7, h8⟩ := hR.obj_ hok g1
    obtain ⟨ps', a', b', k1, k2⟩ := ht.lp g2
    obtain ⟨rfl, rfl, rfl, k3, hf⟩ := trL_some k1 h1 h2 h3 h4
    obtain ⟨en2, m1, m2, m3, m4⟩ := dA_ok k2 (fun t ht => Nat.lt_of_lt_of_le (k3 t ht) hf.nt) (fun t ht => Nat.lt_of_lt_of_le (k3 t ht) h7) h6 hvs
    obtain ⟨_, _, s1, s2⟩ := rfs_in _ _ _ _ _ _ h4
    refine ⟨{ target := .fn (.yield (θ.blk o)) #[], args := #[] ++ (toVs θ vs).toArray }, .round (θ.blk o) fnn ((ps.toList.zip (toVs θ vs)).foldl (fun tmps (t, a) => tmps.setIfInBounds t a) tmps) x y, rfl, ?_, .inr ⟨_, _, _, _, _, rfl, ?_⟩⟩
    · have hsz : ((#[] ++ (toVs θ vs).toArray : Array Value)).size = ps.size := by simp [m2]
      have hz : (ps.zip (#[] ++ (toVs θ vs).toArray)).toList = ps.toList.zip (toVs θ vs) := by simp
      simp only [invoke, Instr.yield, Sem.run_bind, getLoop_run h5, Result.andThen, hsz, ne_eq, not_true, if_false, Sem.run_pure]
      rw [← Array.foldl_toList, hz]
    · have hfx : Fx P θ fnn fu code false (some o) [] { tmps := (ps.toList.zip (toVs θ vs)).foldl (fun tmps (t, a) => tmps.setIfInBounds t a) tmps, defers := [] } [.c (dC (trC P fu.ntmps (li + 1) x)), .br, .c (dC (trC P fu.ntmps (li + 1 + nrf x) y))] [.code x, .beginRound, .code y] :=
        ⟨hf, fun o' ho' => by injection ho' with ho'; subst ho'; exact ⟨hok, rfl⟩, rfl, by rw [m4]; exact h7, .cons (.code s1 (.refl _)) (.cons .br (.cons (.code s2 (.refl _)) .nil))⟩
      exact hfx.goal m3 hR (hC _) m1
end
end Go.AM
