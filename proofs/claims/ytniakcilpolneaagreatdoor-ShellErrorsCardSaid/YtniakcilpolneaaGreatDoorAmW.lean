/-
  AM, 23: the machine's states and the model's; functions entered, left, loops over functions. Conditions: none.
-/
import Derived.Test.YtniakcilpolneaaGreatDoorAmS
import Derived.Defers
import Derived.RangeFuncIn
namespace Go.AM
open Go

/-- a function that the machine knows -/
structure FnC (P : Program) (f : Nat) (fn : Func) (body : Code) : Prop where
  hfn : P.funcs[f]? = some fn
  hbody : fn.body = some body
  nt : fn.ntmps ≤ 512
  res : (fn.results.toList.map (trRs P)).all dsOk = true
  rv : fn.results.toList.all (rvOk P) = true
  nrf : nrf body ≤ 16
  name : (fn.name == "runtime.NumGoroutine") = false
theorem trF_some {P : Program} {f : Nat} {u : AFn} (h : trF P f = some u) : ∃ fn body, FnC P f fn body ∧ u = .mk (dC (trC P fn.ntmps (liOf f) body)) (dRs (fn.results.toList.map (trRs P))) := by
  unfold trF at h
  split at h
  · rename_i fn hf
    split at h
    · rename_i c hc
      split at h
      · rename_i hh
        simp only [Bool.and_eq_true, Bool.not_eq_true'] at hh
        obtain ⟨⟨⟨⟨h1, h2⟩, h3⟩, h4⟩, h5⟩ := hh
        injection h with h
        exact ⟨fn, c, ⟨hf, hc, Nat.le_of_ble_eq_true h1, h2, h3, Nat.le_of_ble_eq_true h4, h5⟩, h.symm⟩
      · cases h
    · cases h
  · cases h
/-- a contract told -/
def SpOk (P : Program) (f : Nat) (s : SpF) : Prop := ∀ w0 pd θ h nx w vs κ, HR P w0 pd θ h nx w → Oks θ vs → s vs h nx κ = true →
  Calls P f (toVs θ vs).toArray w fun e w' => ∃ v u θ' h' nx', e = .returned u ∧ θ.le θ' ∧ VR θ' v u ∧ HR P w0 pd θ' h' nx' w' ∧ κ v h' nx' = true
/-- a piece done at once does what the piece does -/
def SplOk (s : SegF) (c : C) : Prop := ∀ (F : L (Option AFn) 4) (Lp : L (Option ALp) 5) (en : Env) (k : List T) (fr : Fr) (cs : List AFr) (h : H) (nx : Nat) (κ : ASt → R),
  s en h nx (fun en h nx => κ (.mk en k fr cs h nx)) = true → ∃ n, run (.mk F Lp false) n (.mk en (.c c :: k) fr cs h nx) κ = true
/-- code with pieces that are done at once, and without what a run does not come to -/
inductive CR : C → C → Prop where
  | refl (c : C) : CR c c
  | spl {s : SegF} {c : C} (h : SplOk s c) : CR (.spl s c) c
  | bad (c : C) : CR .bad c
  | seq {a b x y : C} (h : CR a x) (h' : CR b y) : CR (.seq a b) (.seq x y)
  | cond {g : XF} {a b x y : C} (h : CR a x) (h' : CR b y) : CR (.cond g a b) (.cond g x y)
  | blk {id : Nat} {a x : C} (h : CR a x) : CR (.blk id a) (.blk id x)
  | loop {a x : C} (h : CR a x) : CR (.loop a) (.loop x)
  | sc {a x : C} (h : CR a x) : CR (.sc a) (.sc x)
def CRs (c c0 : C) : Prop := match c0 with
  | .seq x y => ∃ a b, c = .seq a b ∧ CR a x ∧ CR b y
  | .cond g x y => ∃ a b, c = .cond g a b ∧ CR a x ∧ CR b y
  | .blk id x => ∃ a, c = .blk id a ∧ CR a x
  | .loop x => ∃ a, c = .loop a ∧ CR a x
  | .sc x => ∃ a, c = .sc a ∧ CR a x
  | c0 => c = c0
theorem CRs.refl (c : C) : CRs c c := by
  cases c with
  | seq a b => exact ⟨a, b, rfl, .refl _, .refl _⟩
  | cond g a b => exact ⟨a, b, rfl, .refl _, .refl _⟩
  | blk id a => exact ⟨a, rfl, .refl _⟩
  | loop a => exact ⟨a, rfl, .refl _⟩
  | sc a => exact ⟨a, rfl, .refl _⟩
  | _ => exact rfl
theorem CR.inv {c c0 : C} (h : CR c c0) : (∃ s, c = .spl s c0 ∧ SplOk s c0) ∨ c = .bad ∨ CRs c c0 := by
  cases h with
  | refl => exact .inr (.inr (.refl _))
  | spl h => exact .inl ⟨_, rfl, h⟩
  | bad => exact .inr (.inl rfl)
  | seq h h' => exact .inr (.inr ⟨_, _, rfl, h, h'⟩)
  | cond h h' => exact .inr (.inr ⟨_, _, rfl, h, h'⟩)
  | blk h => exact .inr (.inr ⟨_, rfl, h⟩)
  | loop h => exact .inr (.inr ⟨_, rfl, h⟩)
  | sc h => exact .inr (.inr ⟨_, rfl, h⟩)
/-- the machine's tables are of the program -/
structure TbOk (tb : Tb) (P : Program) : Prop where
  fn : ∀ {f κ}, fnOf tb f κ = true → ∃ c0 c r, trF P f = some (.mk c0 r) ∧ CR c c0 ∧ κ c r = true
  lp : ∀ {l κ}, lpOf tb l κ = true → ∃ p a b, trL P l = some (.mk p a b) ∧ κ p a b = true
  en : ∀ {f κ σ}, enOf tb f κ σ = true → (∃ c0 c r, trF P f = some (.mk c0 r) ∧ CR c c0 ∧ κ c = true) ∨ ∃ s fn body, FnC P f fn body ∧ SpOk P f s ∧ σ s = true
def Sub (f : Nat) (body : Code) (k : Nat) (c : Code) : Prop := ∀ e ∈ rfs k c, e ∈ rfs (liOf f) body
def bF (f : Nat) (kd : Bool) (ro : Option Nat) : Frame := { (default : Frame) with fn := f, kind := if kd then .deferred else .normal, roundOf := ro }
/-- what is to be done -/
inductive IR (P : Program) (θ : Th) (f nt : Nat) (body : Code) : T → Item → Prop where
  | code {k : Nat} {c : Code} {c' : C} (h : Sub f body k c) (hc : CR c' (dC (trC P nt k c))) : IR P θ f nt body (.c c') (.code c)
  | reg {ops : Array Oper} {rest : List Nat} (h : ∀ i ∈ rest, i < ops.size) : IR P θ f nt body (.rg (dR (trOs P nt ops (rest.filterMap (ops[·]?))))) (.inRegion ops rest)
  | blk (id : Nat) : IR P θ f nt body (.blk id) (.inBlock id)
  | lp {k : Nat} {c : Code} {c' : C} (h : Sub f body k c) (hc : CR c' (dC (trC P nt k c))) : IR P θ f nt body (.lp c') (.inLoop c)
  | sc (c : Code) : IR P θ f nt body .sc (.inScope c)
  | irf {o : Nat} (h : θ.has o) : IR P θ f nt body (.irf o) (.inRangeFunc (θ.blk o))
  | erf {o : Nat} (h : θ.has o) : IR P θ f nt body (.erf o) (.endRangeFunc (θ.blk o))
  | br : IR P θ f nt body .br .beginRound
inductive TdR (P : Program) (θ : Th) (f nt : Nat) (body : Code) : List T → List Item → Prop where
  | nil : TdR P θ f nt body [] []
  | cons {t : T} {i : Item} {td : List T} {todo : List Item} (h : IR P θ f nt body t i) (r : TdR P θ f nt body td todo) : TdR P θ f nt body (t :: td) (i :: todo)
theorem IR.mono {P : Program} {θ θ' : Th} (hle : θ.le θ') {f nt : Nat} {body : Code} {t : T} {i : Item} (h : IR P θ f nt body t i) : IR P θ' f nt body t i := by
  cases h with
  | code h hc => exact .code h hc
  | reg h => exact .reg h
  | blk id => exact .blk id
  | lp h hc => exact .lp h hc
  | sc c => exact .sc c
  | irf h => rw [← hle.blk _ h]; exact .irf (hle.has _ h)
  | erf h => rw [← hle.blk _ h]; exact .erf (hle.has _ h)
  | br => exact .br
theorem TdR.mono {P : Program} {θ θ' : Th} (hle : θ.le θ') {f nt : Nat} {body : Code} {td : List T} {todo : List Item} (h : TdR P θ f nt body td todo) : TdR P θ' f nt body td todo := by
  induction h with
  | nil => exact .nil
  | cons h _ ih => exact .cons (h.mono hle) ih
/-- the calls that are put off -/
def DsR (θ : Th) : List AD → List Deferred → Prop
  | [], ds => ds = []
  | .fn f vs :: r, ds => ∃ d cap ds', ds = d :: ds' ∧ d.target = .fn (.func f) cap ∧ d.args ++ cap = (toVs θ vs).toArray ∧ Oks θ vs ∧ DsR θ r ds'
  | .col o :: r, ds => ∃ ds', ds = { target := .collected (θ.blk o), args := #[] } :: ds' ∧ θ.has o ∧ DsR θ r ds'
theorem DsR.mono {θ θ' : Th} (hle : θ.le θ') : ∀ {l : List AD} {ds : List Deferred}, DsR θ l ds → DsR θ' l ds
  | [], _, h => h
  | .fn f vs :: r, _, ⟨d, cap, ds', h1, h2, h3, h4, h5⟩ => ⟨d, cap, ds', h1, h2, by rw [(monos hle vs h4).1]; exact h3, (monos hle vs h4).2, h5.mono hle⟩
  | .col o :: r, _, ⟨ds', h1, h2, h3⟩ => ⟨ds', by rw [hle.blk o h2]; exact h1, hle.has o h2, h3.mono hle⟩
/-- a frame: q: what is to be laid still -/
inductive FR (P : Program) (θ : Th) (h : H) : List (Nat × AO) → Env → List T → Fr → Frame → Prop where
  | run {en : Env} {td : List T} {f : Nat} {df : List AD} {kd : Bool} {rd : Option Nat} {a : Act} {todo : List Item} {fn : Func} {body : Code} (hf : FnC P f fn body) (hr : ∀ o, rd = some o → θ.has o ∧ kd = false)
      (hd : DsR θ df a.defers) (hs : fn.ntmps ≤ a.tmps.size) (he : ER θ en a.tmps) (ht : TdR P θ f fn.ntmps body td todo) : FR P θ h [] en td (.mk f df kd rd) ((bF f kd (rd.map θ.blk)).atR a todo)
  | draw {en enM : Env} {td : List T} {f : Nat} {df : List AD} {kd : Bool} {rd : Option Nat} {a : Act} {todo : List Item} {fn : Func} {body : Code} {ops : Array Oper} {qs : List (Nat × Nat × AO)} {L : List (Bool × Nat)} {A st π : List Nat} {D : Nat → Prop}
      (hf : FnC P f fn body) (hr : ∀ o, rd = some o → θ.has o ∧ kd = false) (hd : DsR θ df a.defers) (hs : fn.ntmps ≤ a.tmps.size) (ht : TdR P θ f fn.ntmps body td todo)
      (hD : Dr P fn.ntmps ops θ h qs L A st en enM a.tmps π D) : FR P θ h (qs.map (·.2)) en (.rg (dR (trDr P fn.ntmps ops L)) :: td) (.mk f df kd rd) ((bF f kd (rd.map θ.blk)).atR a (.inRegion ops π :: todo))
  | ret {en : Env} {f : Nat} {df : List AD} {kd : Bool} {a : Act} {todo : List Item} {fn : Func} {body : Code} (hf : FnC P f fn body) (hd : DsR θ df a.defers) (he : ER θ en a.tmps) :
      FR P θ h [] en [.rt] (.mk f df kd none) { (bF f kd none).atR a todo with mode := .returning }
def kdOf : Fr → Bool
  | .mk _ _ kd _ => kd
/-- a frame that waits -/
def WaitR (P : Program) (θ : Th) (q : List (Nat × AO)) (en : Env) (td : List T) (fr : Fr) (F : Frame) : Bool → Prop
  | true => F.mode = .returning ∧ ∀ θ' h', θ.le θ' → FR P θ' h' q en td fr F
  | false => ∀ θ' h' v u, θ.le θ' → VR θ' v u → match td with
    | .wt d r :: k => ∃ d0 : Ds, d = dD d0 ∧ FR P θ' h' q (putE d0 v en) (.rg r :: k) fr (F.finish u)
    | .irf o :: k => FR P θ' h' q en (.erf o :: k) fr (F.finish u)
    | _ => True
def fnO : Fr → Nat
  | .mk f _ _ _ => f
/-- how the run began: the function, what lay still, where objects lay -/
structure F0 where
  f : Nat
  pd : List (Nat × AO)
  θ : Th
def CsR (P : Program) (θ : Th) (f0 : F0) : Nat → Bool → List AFr → List Frame → List (Nat × AO) → Prop
  | f, kd, [], Fs, pd => f = f0.f ∧ kd = false ∧ Fs = [] ∧ pd = f0.pd ∧ f0.θ.le θ
  | _, kd, .mk en td fr :: cs, Fs, pd => ∃ F Fs' q pd', Fs = F :: Fs' ∧ pd = q ++ pd' ∧ WaitR P θ q en td fr F kd ∧ CsR P θ f0 (fnO fr) (kdOf fr) cs Fs' pd'
theorem WaitR.mono {P : Program} {θ θ' : Th} (hle : θ.le θ') {q : List (Nat × AO)} {en : Env} {td : List T} {fr : Fr} {F : Frame} : ∀ {kd : Bool}, WaitR P θ q en td fr F kd → WaitR P θ' q en td fr F kd
  | true, ⟨h1, h2⟩ => ⟨h1, fun θ'' h' hl => h2 θ'' h' (hle.trans hl)⟩
  | false, h => fun θ'' h' v u hl => h θ'' h' v u (hle.trans hl)
theorem CsR.mono {P : Program} {θ θ' : Th} {f0 : F0} (hle : θ.le θ') : ∀ {cs : List AFr} {f : Nat} {kd : Bool} {Fs : List Frame} {pd : List (Nat × AO)}, CsR P θ f0 f kd cs Fs pd → CsR P θ' f0 f kd cs Fs pd
  | [], _, _, _, _, ⟨h1, h2, h3, h4, h5⟩ => ⟨h1, h2, h3, h4, h5.trans hle⟩
  | .mk en td fr :: cs, _, _, _, _, ⟨F, Fs', q, pd', h1, h2, h3, h4⟩ => ⟨F, Fs', q, pd', h1, h2, h3.mono hle, h4.mono hle⟩
/-- the machine's state and the model's -/
inductive StR (P : Program) (w0 : World) (cs0 : List Frame) (f0 : F0) : ASt → Machine → Prop where
  | mk {en : Env} {td : List T} {fr : Fr} {cs : List AFr} {h : H} {nx : Nat} {θ : Th} {q pd : List (Nat × AO)} {F : Frame} {Fs : List Frame} {w : World} (hR : HR P w0 (q ++ pd) θ h nx w) (hF : FR P θ h q en td fr F) (hC : CsR P θ f0 (fnO fr) (kdOf fr) cs Fs pd) :
      StR P w0 cs0 f0 (.mk en td fr cs h nx) (lone F (Fs ++ cs0) w)
  | fin {v : AV} {u : Value} {h : H} {nx : Nat} {θ : Th} {F : Frame} {w : World} (hR : HR P w0 f0.pd θ h nx w) (hv : VR θ v u) (hl : F.leaving P w (.returned u)) (hfn : F.fn = f0.f) (hle : f0.θ.le θ) : StR P w0 cs0 f0 (.fin v h nx) (lone F cs0 w)
/-- what a step shows -/
def Goal (P : Program) (w0 : World) (cs0 : List Frame) (f0 : F0) (κ : ASt → R) (m : Machine) : Prop := ∃ s m', Steps P m m' ∧ StR P w0 cs0 f0 s m' ∧ κ s = true
theorem Goal.of_steps {P : Program} {w0 : World} {cs0 : List Frame} {f0 : F0} {κ : ASt → R} {m m₁ : Machine} (h : Steps P m m₁) : Goal P w0 cs0 f0 κ m₁ → Goal P w0 cs0 f0 κ m
  | ⟨s, m', h1, h2, h3⟩ => ⟨s, m', h.trans h1, h2, h3⟩

section
variable {P : Program} {w0 : World} {cs0 : List Frame} {f0 : F0} {κ : ASt → R} {tb : Tb} {θ : Th} {h : H} {nx : Nat} {w w' : World}
/-! ### Functions entered -/
def enlF : List AV → Nat → Env → Env
  | [], _, en => en
  | v :: vs, j, en => enlF vs (j + 1) (setL AV v 3 j en)
theorem enlK_eq : ∀ (vs : List AV) (j : Nat) (en : Env) (κ : Env → R), enlK vs j en κ = κ (enlF vs j en)
  | [], _, _, _ => rfl
  | v :: vs, j, en, κ => by
    show setK AV v 3 j en (fun en => fnat (Nat.succ j) fun j => enlK vs j en κ) = _
    rw [setK_eq, fnat_eq, enlK_eq vs]
    rfl
theorem getL_enlF : ∀ (vs : List AV) (j : Nat) (en : Env) (t : Nat), j + vs.length ≤ 512 → t < 512 → getL AV 3 t (enlF vs j en) = if j ≤ t ∧ t < j + vs.length then vs.getD (t - j) undef else getL AV 3 t en
  | [], j, en, t, _, _ => by simp [enlF]; omega
  | v :: vs, j, en, t, hl, ht => by
    simp only [List.length_cons] at hl
    rw [enlF, getL_enlF vs (j + 1) _ t (by omega) ht]
    by_cases e : t = j
    · subst e
      rw [if_neg (by omega), if_pos (by simp), getL_setL]
      simp
    · by_cases h1 : j + 1 ≤ t ∧ t < j + 1 + vs.length
      · rw [if_pos h1, if_pos (by simp; omega), show t - j = (t - (j + 1)) + 1 by omega]
        simp
      · rw [if_neg h1, if_neg (by simp; omega), getL_setL_ne (i := j) (j := t) v 3 en (by omega) ht e]
theorem er_enter {vs : List AV} (hl : vs.length ≤ 512) (hv : Oks θ vs) (n : Nat) : ER θ (enlF vs 0 e0) ((toVs θ vs).toArray ++ Array.replicate (n - (toVs θ vs).toArray.size) Go.undef) := by
  intro t ht
  rw [getL_enlF vs 0 e0 t (by omega) ht, Array.getD_eq_getD_getElem?]
  by_cases h1 : t < vs.length
  · rw [if_pos (by omega), Array.getElem?_append_left (by simp; exact h1), List.getElem?_toArray, toVs_get, List.getElem?_eq_getElem h1]
    simp only [Nat.sub_zero, List.getD_eq_getElem?_getD, List.getElem?_eq_getElem h1, Option.getD_some, Option.map_some]
    exact ⟨Oks_iff.1 hv _ (List.getElem_mem h1), rfl⟩
  · rw [if_neg (by omega)]
    have h2 : getL AV 3 t e0 = undef := getL_repL undef 3 t
    rw [h2, Array.getElem?_append_right (by simp; omega), Array.getElem?_replicate]
    split <;> exact vr_undef θ
theorem run_callFunc {f : Nat} {fn : Func} {body : Code} (hf : FnC P f fn body) (args : Array Value) : (callFunc f args).run P w = .ok (.enter f args) w := by
  have hb : fn.body.isNone = false := by rw [hf.hbody]; rfl
  simp only [callFunc, Sem.run_bind, run_program, Result.andThen, hf.hfn, hf.name, hb, Bool.false_eq_true, if_false, Sem.run_pure]
/-! ### Results -/
def rsS (tmps : Array Value) : ResultVar → Sem Value
  | .tmp t => pure (tmps.getD t Go.undef)
  | .cell a t => do loadVar t (← asAddr (tmps.getD a Go.undef))
theorem r1_ok {q : List (Nat × AO)} (hR : HR P w0 q θ h nx w) {en : Env} {tmps : Array Value} (hE : ER θ en tmps) {rv : ResultVar} (hd : dsOk (trRs P rv) = true) (hrv : rvOk P rv = true) {κ : AV → R} (e : r1 (trRs P rv) en h κ = true) :
    ∃ v u, κ v = true ∧ VR θ v u ∧ (rsS tmps rv).run P w = .ok u w := by
  cases rv with
  | tmp t =>
    have ht : t < 512 := by simpa [dsOk, trRs, Nat.blt_eq] using hd
    have e : getK AV κ 3 t en = true := e
    rw [getK_eq] at e
    exact ⟨_, _, e, hE t ht, rfl⟩
  | cell a t =>
    simp only [rvOk, Bool.and_eq_true] at hrv
    obtain ⟨g, hg⟩ := Option.isSome_iff_exists.1 hrv.1
    obtain ⟨n, hn⟩ := Option.isSome_iff_exists.1 hrv.2
    cases g with
    | true =>
      have hrs : trRs P (.cell a t) = .c a n := by simp [trRs, hg, hn, bad]
      rw [hrs] at hd e
      have ht : a < 512 := by simpa [dsOk, Nat.blt_eq] using hd
      have e : getK AV (asP fun o off => rdK o off n h fun l => κ (.ag l)) 3 a en = true := e
      rw [getK_eq] at e
      have hE := hE a ht
      obtain ⟨o, off, hv, e1⟩ := asP_true e
      rw [hv] at hE
      obtain ⟨hp, hh⟩ := hE.p
      obtain ⟨vs, k1, _, k3, k4, k5, k6⟩ := rd_ok hR hh e1
      refine ⟨.ag vs, .agg (toVs θ vs).toArray, k3, ⟨⟨k4, k5⟩, rfl⟩, ?_⟩
      have hl := run_loadVar_agg (w := w) hg hn (vs := toVs θ vs) (by simp [k1]) k6
      simp only [rsS, hp, asAddr, Sem.run_bind, Sem.run_pure, Result.andThen, hl]
    | false =>
      have hrs : trRs P (.cell a t) = .c1 a := by simp [trRs, hg]
      rw [hrs] at hd e
      have ht : a < 512 := by simpa [dsOk, Nat.blt_eq] using hd
      have e : getK AV (asP fun o off => rd1 o off h κ) 3 a en = true := e
      rw [getK_eq] at e
      have hE := hE a ht
      obtain ⟨o, off, hv, e1⟩ := asP_true e
      rw [hv] at hE
      obtain ⟨hp, hh⟩ := hE.p
      obtain ⟨c, _, k2, k3, _, k5⟩ := rd1_ok hR hh e1
      refine ⟨c, toV θ c, k2, ⟨k3, rfl⟩, ?_⟩
      have hl := run_loadVar_one (w := w) hg k5
      simp only [rsS, hp, asAddr, Sem.run_bind, Sem.run_pure, Result.andThen, hl]
theorem rsL_ok {q : List (Nat × AO)} (hR : HR P w0 q θ h nx w) {en : Env} {tmps : Array Value} (hE : ER θ en tmps) : ∀ {rvs : List ResultVar} {κ : List AV → R}, (rvs.map (trRs P)).all dsOk = true → rvs.all (rvOk P) = true → rsL (rvs.map (trRs P)) en h κ = true →
    ∃ vs us, κ vs = true ∧ vs.length = rvs.length ∧ Oks θ vs ∧ us = toVs θ vs ∧
      (rvs.mapM (rsS tmps)).run P w = .ok us w
  | [], κ, _, _, e => ⟨[], [], e, rfl, trivial, rfl, rfl⟩
  | rv :: rvs, κ, hd, hrv, e => by
    simp only [List.map_cons, List.all_cons, Bool.and_eq_true] at hd hrv
    obtain ⟨v, u, e1, h1, h2⟩ := r1_ok hR hE hd.1 hrv.1 (show r1 (trRs P rv) en h (fun v => rsL (rvs.map (trRs P)) en h fun vs => κ (v :: vs)) = true from e)
    obtain ⟨vs, us, k1, k2, k3, k4, k5⟩ := rsL_ok hR hE hd.2 hrv.2 e1
    refine ⟨v :: vs, u :: us, k1, by simp [k2], ⟨h1.1, k3⟩, by rw [k4, h1.2]; rfl, ?_⟩
    rw [List.mapM_cons]
    simp only [Sem.run_bind, h2, Result.andThen, k5, Sem.run_pure]
theorem res_ok {q : List (Nat × AO)} (hR : HR P w0 q θ h nx w) {f : Nat} {fn : Func} {body : Code} (hf : FnC P f fn body) {en : Env} {tmps : Array Value} (hE : ER θ en tmps) {κ : AV → R} (e : dRs (fn.results.toList.map (trRs P)) en h κ = true) :
    ∃ v u, κ v = true ∧ VR θ v u ∧ (results fn tmps).run P w = .ok u w := by
  have hgen : ∀ {κ : List AV → R}, rsL (fn.results.toList.map (trRs P)) en h κ = true → ∃ vs us, κ vs = true ∧ vs.length = fn.results.toList.length ∧ Oks θ vs ∧ us = toVs θ vs ∧
      (results fn tmps).run P w = .ok (if h : us.toArray.size = 1 then us.toArray[0] else .tuple us.toArray) w := by
    intro κ e
    obtain ⟨vs, us, k1, k2, k3, k4, k5⟩ := rsL_ok hR hE hf.res hf.rv e
    refine ⟨vs, us, k1, k2, k3, k4, ?_⟩
    have hfun : (fun (x : ResultVar) => match x with | .tmp t => (pure (tmps.getD t Go.undef) : Sem Value) | .cell a t => do loadVar t (← asAddr (tmps.getD a Go.undef))) = rsS tmps := by
      funext x; cases x <;> rfl
    have hr : results fn tmps = (fn.results.mapM (rsS tmps) >>= fun vs => pure (if h : vs.size = 1 then vs[0] else .tuple vs)) := by
      rw [← hfun]; rfl
    rw [hr, Array.mapM_eq_mapM_toList]
    simp only [Sem.run_bind, Sem.run_map, Result.andThen, k5]
    rfl
  cases hl : fn.results.toList.map (trRs P) with
  | nil =>
    rw [hl] at e
    have e : rsL (fn.results.toList.map (trRs P)) en h (fun vs => κ (.tu vs)) = true := by rw [hl]; exact e
    obtain ⟨vs, us, k1, k2, k3, k4, k5⟩ := hgen e
    have hlen : vs.length = 0 := by rw [k2]; have := congrArg List.length hl; simpa using this
    subst k4
    rw [dif_neg (by simp [hlen])] at k5
    exact ⟨.tu vs, _, k1, ⟨k3, rfl⟩, k5⟩
  | cons d ds =>
    cases ds with
    | nil =>
      rw [hl] at e
      have e : rsL (fn.results.toList.map (trRs P)) en h (fun vs => match vs with | [v] => κ v | _ => false) = true := by rw [hl]; exact e
      obtain ⟨vs, us, k1, k2, k3, k4, k5⟩ := hgen e
      have hlen : vs.length = 1 := by rw [k2]; have := congrArg List.length hl; simpa using this
      obtain ⟨v, rfl⟩ := List.length_eq_one_iff.1 hlen
      subst k4
      exact ⟨v, toV θ v, k1, ⟨k3.1, rfl⟩, k5⟩
    | cons d2 ds =>
      rw [hl] at e
      have e : rsL (fn.results.toList.map (trRs P)) en h (fun vs => κ (.tu vs)) = true := by rw [hl]; exact e
      obtain ⟨vs, us, k1, k2, k3, k4, k5⟩ := hgen e
      have hlen : vs.length ≠ 1 := by rw [k2]; have := congrArg List.length hl; simp at this; simp [this]
      subst k4
      rw [dif_neg (by simpa using hlen)] at k5
      exact ⟨.tu vs, _, k1, ⟨k3, rfl⟩, k5⟩

/-! ### Back to the caller -/
theorem back_ok {f : Nat} {kd : Bool} {v : AV} {u : Value} {cs : List AFr} {Fs : List Frame} {pd : List (Nat × AO)} (e : backK kd v cs h nx κ = true) (hR : HR P w0 pd θ h nx w) (hv : VR θ v u) (hC : CsR P θ f0 f kd cs Fs pd) {m : Machine}
    (hn : kd = false → ∀ c rest, Steps P m (lone (c.finish u) (rest ++ cs0) w) ∨ Fs ≠ c :: rest) (hk : kd = true → ∀ c rest, c.mode = .returning → Steps P m (lone c (rest ++ cs0) w) ∨ Fs ≠ c :: rest)
    (hf : Fs = [] → StR P w0 cs0 f0 (.fin v h nx) m) : Goal P w0 cs0 f0 κ m := by
  cases cs with
  | nil =>
    obtain ⟨h0, h1, h2, h3⟩ := hC
    exact ⟨_, m, .refl P m, hf h2, e⟩
  | cons c cs =>
    obtain ⟨en, td, fr⟩ := c
    obtain ⟨F, Fs', q, pd', rfl, rfl, hw, hC'⟩ := hC
    cases kd with
    | true =>
      obtain ⟨h1, h2⟩ := hw
      rcases hk rfl F Fs' h1 with hs | hs
      · have e : κ (.mk en td fr cs h nx) = true := e
        exact ⟨_, _, hs, .mk hR (h2 θ h (.refl θ)) hC', e⟩
      · exact absurd rfl hs
    | false =>
      have hw := hw θ h v u (.refl θ) hv
      rcases hn rfl F Fs' with hs | hs
      · cases td with
        | nil => cases e
        | cons t k =>
          cases t <;> first | (cases e; done) | skip
          · rename_i d r hw
            obtain ⟨d0, hd, hF⟩ := hw
            have e : d v en (fun en => κ (.mk en (.rg r :: k) fr cs h nx)) = true := e
            rw [hd, dD_eq] at e
            exact ⟨_, _, hs, .mk hR hF hC', e⟩
          · rename_i o hw
            have e : κ (.mk en (.erf o :: k) fr cs h nx) = true := e
            exact ⟨_, _, hs, .mk hR hw hC', e⟩
      · exact absurd rfl hs
/-! ### Functions entered, again -/
theorem allN_true {κ : Nat → R} : ∀ {m : Nat}, allN m κ = true → ∀ r, r < m → κ r = true
  | m + 1, e, r, hr => by
    have e : br (fnat m κ) (allN m κ) false = true := e
    obtain ⟨e1, e2⟩ := br_t e
    rw [fnat_eq] at e1
    by_cases h : r = m
    · subst h; exact e1
    · exact allN_true e2 r (by omega)
theorem forkA_true {θ : Th} : ∀ {vs : List AV} {κ : List AV → R}, forkA vs κ = true → Oks θ vs → ∃ vs', κ vs' = true ∧ Oks θ vs' ∧ toVs θ vs' = toVs θ vs
  | [], κ, e, h => ⟨[], e, h, rfl⟩
  | v :: vs, κ, e, h => by
    by_cases hf : ∃ n m, v = .f n m
    · obtain ⟨n, m, rfl⟩ := hf
      have e : allN m (fun r => forkA vs fun vs => κ (.i 3 (.ofNat r) :: vs)) = true := e
      obtain ⟨⟨⟨w, hw⟩, hm⟩, h2⟩ := h
      obtain ⟨vs', k1, k2, k3⟩ := forkA_true (allN_true e (w % m) (Nat.mod_lt _ hm)) h2
      refine ⟨_, k1, ⟨trivial, k2⟩, ?_⟩
      simp only [toVs, k3, toV, hw]
      rfl
    · have e : forkA vs (fun vs => κ (v :: vs)) = true := by
        cases v <;> first | exact e | exact absurd ⟨_, _, rfl⟩ hf
      obtain ⟨vs', k1, k2, k3⟩ := forkA_true e h.2
      exact ⟨_, k1, ⟨h.1, k2⟩, by simp only [toVs, k3]⟩
theorem enter_ok (ht : TbOk tb P) {f : Nat} {vs : List AV} {kd : Bool} {cs : List AFr} {Fs : List Frame} {pd : List (Nat × AO)} (e : enterK tb f vs kd cs h nx κ = true) (hv : Oks θ vs) (hR : HR P w0 pd θ h nx w) (hC : CsR P θ f0 f kd cs Fs pd) :
    ∃ fn body, FnC P f fn body ∧ Goal P w0 cs0 f0 κ (lone (Frame.enter P f (toVs θ vs).toArray (if kd then .deferred else .normal)) (Fs ++ cs0) w) := by
  obtain ⟨h1, e1⟩ := br_t e
  have h1 : vs.length ≤ 512 := by have := Nat.le_of_ble_eq_true h1; rwa [lenN_eq] at this
  rcases ht.en e1 with ⟨c0, c, r, h2, hcr, e2⟩ | ⟨s, fn, body, hf, hs, e2⟩
  case inr =>
    cases kd with
    | true => cases e2
    | false =>
      obtain ⟨_, w', fr', ⟨v, u, θ', h', nx', rfl, k1, k2, k3, k4⟩, hcomes, _, hl⟩ := hs w0 pd θ h nx w vs _ hR hv e2 (Fs ++ cs0)
      cases cs with
      | nil => cases k4
      | cons c cs =>
        have k4 : backK false v (c :: cs) h' nx' κ = true := k4
        refine ⟨fn, body, hf, back_ok (f := f) k4 k3 k2 (hC.mono k1) (fun _ c' rest => ?_) (fun h => absurd h (by simp)) (fun hn => ?_)⟩
        · by_cases hF : Fs = c' :: rest
          · refine .inl ?_
            have hst : Steps P (lone (Frame.enter P f (toVs θ vs).toArray .normal) (Fs ++ cs0) w) (lone fr' (Fs ++ cs0) w') := hcomes
            refine hst.trans ?_
            rw [hF]
            exact .one (step_leave_returned hl)
          · exact .inr hF
        · obtain ⟨en, td, fr⟩ := c
          obtain ⟨F, Fs', q, pd', rfl, _⟩ := hC
          cases hn
  obtain ⟨fn, body, hf, hu⟩ := trF_some h2
  injection hu with hu1 hu2
  subst hu1 hu2
  obtain ⟨vs', e2, hv', htv⟩ := forkA_true e2 hv
  rw [← htv]
  have h1 : vs'.length ≤ 512 := by
    have := congrArg List.length htv
    simp only [toVs_length] at this
    omega
  clear hv htv
  have hv := hv'
  rw [enlK_eq] at e2
  refine ⟨fn, body, hf, _, _, .refl P _, ?_, e2⟩
  have hfr : Frame.enter P f (toVs θ vs').toArray (if kd then .deferred else .normal) = (bF f kd ((none : Option Nat).map θ.blk)).atR { tmps := (toVs θ vs').toArray ++ Array.replicate (fn.ntmps - (toVs θ vs').toArray.size) Go.undef, defers := [] } [.code body] := by
    simp [Frame.enter, Frame.atR, hf.hfn, hf.hbody, bF]
  rw [hfr]
  exact .mk (q := []) hR (.run hf (fun o h => nomatch h) rfl (by simp; omega) (er_enter h1 hv _) (.cons (.code (fun e he => he) hcr) .nil)) hC

end
end Go.AM
namespace Go.AM
open Go

section
variable {tb : Tb} {en : Env} {k : List T} {fr : Fr} {cs : List AFr} {h : H} {nx : Nat} {κ : ASt → R}
theorem rgK_sOp (d : DsF) (f : OpF) (r : Rg) : rgK tb (ahead (sOp d f) r) en k fr cs h nx κ = f en h nx fun v h nx => d v en fun en => rgK tb r en k fr cs h nx κ := by cases r <;> rfl
theorem rgK_sOpG (g : GdF) (d : DsF) (f : OpF) (r : Rg) : rgK tb (ahead (sOpG g d f) r) en k fr cs h nx κ =
    g en (f en h nx fun v h nx => d v en fun en => rgK tb r en k fr cs h nx κ) (d undef en fun en => rgK tb r en k fr cs h nx κ) := by cases r <;> rfl
theorem rgK_sAg (g : GdF) (x : XF) (f : OpF) (r : Rg) : rgK tb (ahead (sAg g x f) r) en k fr cs h nx κ =
    g en (x en fun old => f en h nx fun v _ _ => br (beqV old v) (rgK tb r en k fr cs h nx κ) false) (rgK tb r en k fr cs h nx κ) := by cases r <;> rfl
theorem rgK_op (g : Gd) (d : Ds) (i : I) (r : DR) : rgK tb (dR (.op g d i r)) en k fr cs h nx κ =
    dG g en (dI i en h nx fun v h nx => rgK tb (dR r) (putE d v en) k fr cs h nx κ) (rgK tb (dR r) (putE d undef en) k fr cs h nx κ) := by
  have e1 : ∀ (v : AV) (h : H) (nx : Nat), dD d v en (fun en => rgK tb (dR r) en k fr cs h nx κ) = rgK tb (dR r) (putE d v en) k fr cs h nx κ := fun v h nx => dD_eq d v en _
  cases g with
  | n =>
    show rgK tb (ahead (sOp (dD d) (dI i)) (dR r)) en k fr cs h nx κ = _
    rw [rgK_sOp]
    simp only [e1]
    rfl
  | g t b =>
    show rgK tb (ahead (sOpG (dG (.g t b)) (dD d) (dI i)) (dR r)) en k fr cs h nx κ = _
    rw [rgK_sOpG]
    simp only [e1]
theorem rgK_rck (g : Gd) (t : Nat) (i : I) (r : DR) : rgK tb (dR (.rck g t i r)) en k fr cs h nx κ =
    dG g en (dI i en h nx fun v _ _ => br (beqV (getL AV 3 t en) v) (rgK tb (dR r) en k fr cs h nx κ) false) (rgK tb (dR r) en k fr cs h nx κ) := by
  show rgK tb (ahead (sAg (dG g) (xT t) (dI i)) (dR r)) en k fr cs h nx κ = _
  rw [rgK_sAg]
  congr 1
  show getK AV _ 3 t en = _
  rw [getK_eq]
theorem rgK_call (g : Gd) (d : Ds) (f : Nat) (xs : List X) (r : DR) : rgK tb (dR (.call g d f xs r)) en k fr cs h nx κ =
    dG g en (dXs xs en fun vs => enterK tb f vs false (.mk en (.wt (dD d) (dR r) :: k) fr :: cs) h nx κ) (κ (.mk (putE d undef en) (.rg (dR r) :: k) fr cs h nx)) := by
  show dG g en _ (dD d undef en fun en => κ (.mk en (.rg (dR r) :: k) fr cs h nx)) = _
  rw [dD_eq]
theorem rgK_calv (g : Gd) (d : Ds) (x : X) (xs : List X) (r : DR) : rgK tb (dR (.calv g d x xs r)) en k fr cs h nx κ =
    dG g en (dX x en fun v => dXs xs en fun vs => callvK tb v vs (.mk en (.wt (dD d) (dR r) :: k) fr :: cs) h nx κ) (κ (.mk (putE d undef en) (.rg (dR r) :: k) fr cs h nx)) := by
  show dG g en _ (dD d undef en fun en => κ (.mk en (.rg (dR r) :: k) fr cs h nx)) = _
  rw [dD_eq]
theorem rgK_inv (g : Gd) (d : Ds) (tbl : List (Nat × Nat)) (x : X) (xs : List X) (r : DR) : rgK tb (dR (.inv g d tbl x xs r)) en k fr cs h nx κ =
    dG g en (dX x en fun v => dXs xs en fun vs => invK tb tbl v vs (.mk en (.wt (dD d) (dR r) :: k) fr :: cs) h nx κ) (κ (.mk (putE d undef en) (.rg (dR r) :: k) fr cs h nx)) := by
  show dG g en _ (dD d undef en fun en => κ (.mk en (.rg (dR r) :: k) fr cs h nx)) = _
  rw [dD_eq]
theorem rgK_dfr (g : Gd) (d : Ds) (x : X) (xs : List X) (r : DR) (fn : Nat) (df : List AD) (kd : Bool) (rd : Option Nat) : rgK tb (dR (.dfr g d x xs r)) en k (.mk fn df kd rd) cs h nx κ =
    dG g en (match rd with
      | none => dX x en fun v => dXs xs en fun vs => (match v with
        | .fn f caps => appK AV vs caps fun vs => κ (.mk (putE d undef en) (.rg (dR r) :: k) (.mk fn (.fn f vs :: df) kd none) cs h nx)
        | _ => false)
      | some _ => false) (κ (.mk (putE d undef en) (.rg (dR r) :: k) (.mk fn df kd rd) cs h nx)) := by
  show dG g en _ (dD d undef en fun en => κ (.mk en (.rg (dR r) :: k) (.mk fn df kd rd) cs h nx)) = _
  rw [dD_eq]
  cases rd with
  | none =>
    congr 1
    show dX x en _ = _
    congr 1; funext v
    congr 1; funext vs
    cases v <;> first | rfl | skip
    show appK AV vs _ (fun vs => dD d undef en _) = _
    simp only [dD_eq]
  | some o => rfl
theorem rgK_rcv (g : Gd) (d : Ds) (r : DR) (fn : Nat) (df : List AD) (kd : Bool) (rd : Option Nat) : rgK tb (dR (.rcv g d r)) en k (.mk fn df kd rd) cs h nx κ =
    dG g en (match rd with | none => κ (.mk (putE d .ni en) (.rg (dR r) :: k) (.mk fn df kd none) cs h nx) | some _ => false) (κ (.mk (putE d undef en) (.rg (dR r) :: k) (.mk fn df kd rd) cs h nx)) := by
  cases rd with
  | none =>
    show dG g en (dD d .ni en fun en => κ (.mk en (.rg (dR r) :: k) (.mk fn df kd none) cs h nx)) (dD d undef en fun en => κ (.mk en (.rg (dR r) :: k) (.mk fn df kd none) cs h nx)) = _
    rw [dD_eq, dD_eq]
  | some o =>
    show dG g en false (dD d undef en fun en => κ (.mk en (.rg (dR r) :: k) (.mk fn df kd (some o)) cs h nx)) = _
    rw [dD_eq]
end

/-- a frame under way, but for its temporaries -/
structure Fx (P : Program) (θ : Th) (f : Nat) (fn : Func) (body : Code) (kd : Bool) (rd : Option Nat) (df : List AD) (a : Act) (td : List T) (todo : List Item) : Prop where
  hf : FnC P f fn body
  hr : ∀ o, rd = some o → θ.has o ∧ kd = false
  hd : DsR θ df a.defers
  hs : fn.ntmps ≤ a.tmps.size
  ht : TdR P θ f fn.ntmps body td todo
section
variable {P : Program} {θ θ' : Th} {f : Nat} {fn : Func} {body : Code} {kd : Bool} {rd : Option Nat} {df : List AD} {a a' : Act} {td : List T} {todo : List Item}
theorem Fx.mono (hle : θ.le θ') (hx : Fx P θ f fn body kd rd df a td todo) : Fx P θ' f fn body kd rd df a td todo :=
  ⟨hx.hf, fun o ho => ⟨hle.has o (hx.hr o ho).1, (hx.hr o ho).2⟩, hx.hd.mono hle, hx.hs, hx.ht.mono hle⟩
theorem Fx.rdm (hle : θ.le θ') (hx : Fx P θ f fn body kd rd df a td todo) : rd.map θ'.blk = rd.map θ.blk := by
  cases rd with
  | none => rfl
  | some o => exact congrArg some (hle.blk o (hx.hr o rfl).1)
theorem Fx.act (hx : Fx P θ f fn body kd rd df a td todo) (hs : a'.tmps.size = a.tmps.size) (hd : a'.defers = a.defers) : Fx P θ f fn body kd rd df a' td todo :=
  ⟨hx.hf, hx.hr, by rw [hd]; exact hx.hd, by rw [hs]; exact hx.hs, hx.ht⟩
theorem Fx.run (hx : Fx P θ f fn body kd rd df a td todo) (h : H) {en : Env} (hE : ER θ en a.tmps) : FR P θ h [] en td (.mk f df kd rd) ((bF f kd (rd.map θ.blk)).atR a todo) := .run hx.hf hx.hr hx.hd hx.hs hE hx.ht
theorem Fx.more (hx : Fx P θ f fn body kd rd df a td todo) {t : T} {i : Item} (h : IR P θ f fn.ntmps body t i) : Fx P θ f fn body kd rd df a (t :: td) (i :: todo) := ⟨hx.hf, hx.hr, hx.hd, hx.hs, .cons h hx.ht⟩
theorem Fx.tdm {td' : List T} {todo' : List Item} (hx : Fx P θ f fn body kd rd df a td todo) (h : TdR P θ f fn.ntmps body td' todo') : Fx P θ f fn body kd rd df a td' todo' := ⟨hx.hf, hx.hr, hx.hd, hx.hs, h⟩

variable {w0 w : World} {cs0 : List Frame} {f0 : F0} {κ : ASt → R} {tb : Tb} {h : H} {nx : Nat} {cs : List AFr} {Fs : List Frame} {q pd : List (Nat × AO)} {en : Env}
/-- a state reached -/
theorem Fx.goal (hx : Fx P θ f fn body kd rd df a td todo) (hE : ER θ en a.tmps) (hR : HR P w0 pd θ h nx w) (hC : CsR P θ f0 f kd cs Fs pd) (e : κ (.mk en td (.mk f df kd rd) cs h nx) = true) :
    Goal P w0 cs0 f0 κ (lone ((bF f kd (rd.map θ.blk)).atR a todo) (Fs ++ cs0) w) :=
  ⟨_, _, .refl P _, .mk (q := []) hR (hx.run h hE) hC, e⟩

/-! ### Calls -/
theorem rfs_in : ∀ (c : Code) (k l : Nat) (ps : Array Nat) (x y : Code), (l, ps, x, y) ∈ rfs k c → k ≤ l ∧ l < k + nrf c ∧ (∀ e ∈ rfs (l + 1) x, e ∈ rfs k c) ∧ ∀ e ∈ rfs (l + 1 + nrf x) y, e ∈ rfs k c := by
  intro c
  induction c with
  | seq a b iha ihb =>
    intro k l ps x y hm
    simp only [rfs, List.mem_append] at hm
    rcases hm with hm | hm
    · obtain ⟨h1, h2, h3, h4⟩ := iha k l ps x y hm
      exact ⟨h1, by simp only [nrf]; omega, fun e he => List.mem_append_left _ (h3 e he), fun e he => List.mem_append_left _ (h4 e he)⟩
    · obtain ⟨h1, h2, h3, h4⟩ := ihb _ l ps x y hm
      exact ⟨by omega, by simp only [nrf]; omega, fun e he => List.mem_append_right _ (h3 e he), fun e he => List.mem_append_right _ (h4 e he)⟩
  | cond c a b iha ihb =>
    intro k l ps x y hm
    simp only [rfs, List.mem_append] at hm
    rcases hm with hm | hm
    · obtain ⟨h1, h2, h3, h4⟩ := iha k l ps x y hm
      exact ⟨h1, by simp only [nrf]; omega, fun e he => List.mem_append_left _ (h3 e he), fun e he => List.mem_append_left _ (h4 e he)⟩
    · obtain ⟨h1, h2, h3, h4⟩ := ihb _ l ps x y hm
      exact ⟨by omega, by simp only [nrf]; omega, fun e he => List.mem_append_right _ (h3 e he), fun e he => List.mem_append_right _ (h4 e he)⟩
  | block id a ih => exact fun k l ps x y hm => ih k l ps x y hm
  | loop a ih => exact fun k l ps x y hm => ih k l ps x y hm
  | scope a ih => exact fun k l ps x y hm => ih k l ps x y hm
  | rangeFunc g ps' a b iha ihb =>
    intro k l ps x y hm
    simp only [rfs, List.mem_cons, List.mem_append] at hm
    rcases hm with hm | hm | hm
    · injection hm with h1 h2
      injection h2 with h2 h3
      injection h3 with h3 h4
      subst h1 h2 h3 h4
      exact ⟨Nat.le_refl _, by simp only [nrf]; omega, fun e he => List.mem_cons_of_mem _ (List.mem_append_left _ he), fun e he => List.mem_cons_of_mem _ (List.mem_append_right _ he)⟩
    · obtain ⟨h1, h2, h3, h4⟩ := iha _ l ps x y hm
      exact ⟨by omega, by simp only [nrf]; omega, fun e he => List.mem_cons_of_mem _ (List.mem_append_left _ (h3 e he)), fun e he => List.mem_cons_of_mem _ (List.mem_append_left _ (h4 e he))⟩
    · obtain ⟨h1, h2, h3, h4⟩ := ihb _ l ps x y hm
      exact ⟨by omega, by simp only [nrf]; omega, fun e he => List.mem_cons_of_mem _ (List.mem_append_right _ (h3 e he)), fun e he => List.mem_cons_of_mem _ (List.mem_append_right _ (h4 e he))⟩
  | _ => intro k l ps x y hm; simp [rfs] at hm
/-- a loop over a function that the machine knows -/
theorem trL_some {li : Nat} {ps : AssF} {a b : C} (hl : trL P li = some (.mk ps a b)) {fnn : Nat} {fu : Func} {code : Code} {ps' : Array Nat} {x y : Code} (hfu : P.funcs[fnn]? = some fu) (hb : fu.body = some code) (hn : nrf code ≤ 16)
    (hm : (li, ps', x, y) ∈ rfs (liOf fnn) code) : ps = dA ps'.toList ∧ a = dC (trC P fu.ntmps (li + 1) x) ∧ b = dC (trC P fu.ntmps (li + 1 + nrf x) y) ∧ (∀ t ∈ ps'.toList, t < fu.ntmps) ∧ FnC P fnn fu code := by
  obtain ⟨h1, h2, _, _⟩ := rfs_in _ _ _ _ _ _ hm
  have hdiv : li / 16 = fnn := by unfold liOf at h1 h2; omega
  unfold trL at hl
  rw [hdiv, hfu] at hl
  simp only [hb] at hl
  split at hl
  · rename_i l2 ps2 x2 y2 hflt
    have hin : (li, ps', x, y) ∈ (rfs (liOf fnn) code).filter (fun x => Nat.beq x.1 li) := List.mem_filter.2 ⟨hm, Nat.beq_refl li⟩
    rw [hflt] at hin
    have hin := List.mem_singleton.1 hin
    injection hin with g1 g2
    injection g2 with g2 g3
    injection g3 with g3 g4
    subst g1 g2 g3 g4
    split at hl
    · rename_i hc
      simp only [Bool.and_eq_true] at hc
      injection hl with hl
      injection hl with k1 k2 k3
      obtain ⟨u, hu⟩ := Option.isSome_iff_exists.1 hc.2
      obtain ⟨fn', body', hfc, _⟩ := trF_some hu
      have e1 : fn' = fu := by have := hfc.hfn; rw [hfu] at this; injection this with this; exact this.symm
      subst e1
      have e2 : body' = code := by have := hfc.hbody; rw [hb] at this; injection this with this; exact this.symm
      subst e2
      refine ⟨k1.symm, k2.symm, k3.symm, fun t ht => ?_, hfc⟩
      have := List.all_eq_true.1 hc.1 t ht
      simpa [Nat.blt_eq] using this
    · cases hl
  · cases hl
theorem dA_ok : ∀ {ps : List Nat} {vs : List AV} {en : Env} {κ : Env → R} {tmps : Array Value}, dA ps vs en κ = true → (∀ t ∈ ps, t < 512) → (∀ t ∈ ps, t < tmps.size) → ER θ en tmps → Oks θ vs →
    ∃ en', κ en' = true ∧ vs.length = ps.length ∧ ER θ en' ((ps.zip (toVs θ vs)).foldl (fun tmps (t, a) => tmps.setIfInBounds t a) tmps) ∧ ((ps.zip (toVs θ vs)).foldl (fun tmps (t, a) => tmps.setIfInBounds t a) tmps).size = tmps.size
  | [], vs, en, κ, tmps, e, _, _, hE, hv => by
    cases vs with
    | nil => exact ⟨en, e, rfl, hE, rfl⟩
    | cons v vs => cases e
  | t :: ps, vs, en, κ, tmps, e, h5, hs, hE, hv => by
    cases vs with
    | nil => cases e
    | cons v vs =>
      have e : setK AV v 3 t en (fun en => dA ps vs en κ) = true := e
      rw [setK_eq] at e
      obtain ⟨en', k1, k2, k3, k4⟩ := dA_ok (tmps := tmps.setIfInBounds t (toV θ v)) e (fun t ht => h5 t (List.mem_cons_of_mem _ ht)) (fun t ht => by simpa using hs t (List.mem_cons_of_mem _ ht))
        (er_set hE ⟨hv.1, rfl⟩ (h5 t (List.mem_cons_self ..)) (hs t (List.mem_cons_self ..))) hv.2
      refine ⟨en', k1, by simp [k2], ?_, ?_⟩
      · simp only [toVs, List.zip_cons_cons, List.foldl_cons]; exact k3
      · simp only [toVs, List.zip_cons_cons, List.foldl_cons]; rw [k4]; simp
theorem getLoop_run {l : Nat} {r : Loop} (hl : w.heap[l]? = some (.loop r)) : (Instr.getLoop l).run P w = .ok r w := by
  simp [Instr.getLoop, getObj, Sem.run, hl]
/-- a value called -/
theorem callv_ok (ht : TbOk tb P) {v : AV} {u : Value} {vs : List AV} (e : callvK tb v vs cs h nx κ = true) (hv : VR θ v u) (hvs : Oks θ vs) (hR : HR P w0 pd θ h nx w) (hC : ∀ g, CsR P θ f0 g false cs Fs pd) :
    ∃ d n, (Deferred.ofValue u (toVs θ vs).toArray).run P w = .ok d w ∧ (invoke d.target d.args).run P w = .ok n w ∧
      ((∃ g args, n = .enter g args ∧ Goal P w0 cs0 f0 κ (lone (Frame.enter P g args .normal) (Fs ++ cs0) w)) ∨
       (∃ l g tmps x y, n = .round l g tmps x y ∧ Goal P w0 cs0 f0 κ (lone (Frame.round l g tmps x y .normal) (Fs ++ cs0) w))) := by
  obtain ⟨hok, rfl⟩ := hv
  cases v <;> first | (cases e; done) | skip
  · rename_i g caps
    have e : appK AV vs caps (fun vs => enterK tb g vs false cs h nx κ) = true := e
    rw [appK_eq] at e
    have hall : Oks θ (vs ++ caps) := Oks_iff.2 fun x hx => (List.mem_append.1 hx).elim (Oks_iff.1 hvs x) (Oks_iff.1 hok x)
    obtain ⟨fn, body, hf, hg⟩ := enter_ok ht e hall hR (hC _)
    refine ⟨{ target := .fn (.func g) (toVs θ caps).toArray, args := #[] ++ (toVs θ vs).toArray }, _, rfl, run_callFunc hf _, .inl ⟨_, _, rfl, ?_⟩⟩
    have : (#[] ++ (toVs θ vs).toArray ++ (toVs θ caps).toArray : Array Value) = (toVs θ (vs ++ caps)).toArray := by simp [toVs_map]
    rw [this]
    exact hg
  · rename_i o
    have hok : θ.has o := hok
    have e : get o h (asLp fun _ _ fn li en _ => lpOf tb li fun ps a b => ps vs en fun en => κ (.mk en [.c a, .br, .c b] (.mk fn [] false (some o)) cs h nx)) = true := e
    obtain ⟨ao, g1, g2⟩ := get_true e
    cases ao <;> first | (cases g2; done) | skip
    rename_i st j fnn li en' ds
    have g2 : lpOf tb li (fun ps a b => ps vs en' fun en => κ (.mk en [.c a, .br, .c b] (.mk fnn [] false (some o)) cs h nx)) = true := g2
    obtain ⟨fu, code, ps, x, y, tmps, h1, h2, h3, h4, h5, h6, h7, h8⟩ := hR.obj_ hok g1
    obtain ⟨ps', a', b', k1, k2⟩ := ht.lp g2
    obtain ⟨rfl, rfl, rfl, k3, hf⟩ := trL_some k1 h1 h2 h3 h4
    obtain ⟨en2, m1, m2, m3, m4⟩ := dA_ok k2 (fun t ht => Nat.lt_of_lt_of_le (k3 t ht) hf.nt) (fun t ht => Nat.lt_of_lt_of_le (k3 t ht) h7) h6 hvs
    obtain ⟨_, _, s1, s2⟩ := rfs_in _ _ _ _ _ _ h4
    refine ⟨{ target := .fn (.yield (θ.blk o)) #[], args := #[] ++ (toVs θ vs).toArray }, .round (θ.blk o) fnn ((ps.toList.zip (toVs θ vs)).foldl (fun tmps (t, a) => tmps.setIfInBounds t a) tmps) x y, rfl, ?_, .inr ⟨_, _, _, _, _, rfl, ?_⟩⟩
    · have hsz : ((#[] ++ (toVs θ vs).toArray : Array Value)).size = ps.size := by simp [m2]
      have hz : (ps.zip (#[] ++ (toVs θ vs).toArray)).toList = ps.toList.zip (toVs θ vs) := by simp
      simp only [invoke, Instr.yield, Sem.run_bind, getLoop_run h5, Result.andThen, hsz, ne_eq, not_true, if_false, Sem.run_pure]
      rw [← Array.foldl_toList, hz]
    · have hfx : Fx P θ fnn fu code false (some o) [] { tmps := (ps.toList.zip (toVs θ vs)).foldl (fun tmps (t, a) => tmps.setIfInBounds t a) tmps, defers := [] } [.c (dC (trC P fu.ntmps (li + 1) x)), .br, .c (dC (trC P fu.ntmps (li + 1 + nrf x) y))] [.code x, .beginRound, .code y] :=
        ⟨hf, fun o' ho' => by injection ho' with ho'; subst ho'; exact ⟨hok, rfl⟩, rfl, by rw [m4]; exact h7, .cons (.code s1 (.refl _)) (.cons .br (.cons (.code s2 (.refl _)) .nil))⟩
      exact hfx.goal m3 hR (hC _) m1
end
end Go.AM
