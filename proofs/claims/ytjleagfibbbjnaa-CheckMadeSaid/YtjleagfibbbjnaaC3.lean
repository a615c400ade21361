/- A part of the proof of this: the law CheckMade. Conditions: none. Joined of AmW, AmX, AmY, AmZ, AmZa, AmZb, AmSa, AmSb, AmSc, AmSd, M15WG, M15WF, M15WT, M15WO0, M15WO, DenA. -/
import Derived.Test.YtjleagfibbbjnaaC2
import Derived.Defers
import Derived.RangeFuncIn
import Derived.RangeFuncRecord
import Derived.Test.YtjleagfibbbjnaaProg
import GoSem.Claim
import GoSem.ClaimData
import Derived.Orders
namespace Go.AM
open Go
structure FnC (P : Program) (f : Nat) (fn : Func) (body : Code) : Prop where
  hfn : P.funcs[f]? = some fn
  hbody : fn.body = some body
  nt : fn.ntmps ≤ 512
  res : (fn.results.toList.map (trRs P)).all dsOk = true
  rv : fn.results.toList.all (rvOk P) = true
  nrf : nrf body ≤ 16
  name : (fn.name == "runtime.NumGoroutine") = false
theorem trF_some {P : Program} {f : Nat} {u : AFn} (h : trF P f = some u) : ∃ fn body, FnC P f fn body ∧ u = .mk (dC (trC P fn.ntmps (liOf f) body)) (dRs (fn.results.toList.map (trRs P))) := by
  unfold trF at h
  split at h
  · rename_i fn hf
    split at h
    · rename_i c hc
      split at h
      · rename_i hh
        simp only [Bool.and_eq_true, Bool.not_eq_true'] at hh
        obtain ⟨⟨⟨⟨h1, h2⟩, h3⟩, h4⟩, h5⟩ := hh
        injection h with h
        exact ⟨fn, c, ⟨hf, hc, Nat.le_of_ble_eq_true h1, h2, h3, Nat.le_of_ble_eq_true h4, h5⟩, h.symm⟩
      · cases h
    · cases h
  · cases h
def SpOk (P : Program) (f : Nat) (s : SpF) : Prop := ∀ w0 pd θ h nx w vs κ, HR P w0 pd θ h nx w → Oks θ vs → s vs h nx κ = true →
  Calls P f (toVs θ vs).toArray w fun e w' => ∃ v u θ' h' nx', e = .returned u ∧ θ.le θ' ∧ VR θ' v u ∧ HR P w0 pd θ' h' nx' w' ∧ κ v h' nx' = true
def SplOk (s : SegF) (c : C) : Prop := ∀ (F : L (Option AFn) 4) (Lp : L (Option ALp) 5) (en : Env) (k : List T) (fr : Fr) (cs : List AFr) (h : H) (nx : Nat) (κ : ASt → R),
  s en h nx (fun en h nx => κ (.mk en k fr cs h nx)) = true → ∃ n, run (.mk F Lp false) n (.mk en (.c c :: k) fr cs h nx) κ = true
inductive CR : C → C → Prop where
  | refl (c : C) : CR c c
  | spl {s : SegF} {c : C} (h : SplOk s c) : CR (.spl s c) c
  | bad (c : C) : CR .bad c
  | seq {a b x y : C} (h : CR a x) (h' : CR b y) : CR (.seq a b) (.seq x y)
  | cond {g : XF} {a b x y : C} (h : CR a x) (h' : CR b y) : CR (.cond g a b) (.cond g x y)
  | blk {id : Nat} {a x : C} (h : CR a x) : CR (.blk id a) (.blk id x)
  | loop {a x : C} (h : CR a x) : CR (.loop a) (.loop x)
  | sc {a x : C} (h : CR a x) : CR (.sc a) (.sc x)
def CRs (c c0 : C) : Prop := match c0 with
  | .seq x y => ∃ a b, c = .seq a b ∧ CR a x ∧ CR b y
  | .cond g x y => ∃ a b, c = .cond g a b ∧ CR a x ∧ CR b y
  | .blk id x => ∃ a, c = .blk id a ∧ CR a x
  | .loop x => ∃ a, c = .loop a ∧ CR a x
  | .sc x => ∃ a, c = .sc a ∧ CR a x
  | c0 => c = c0
theorem CRs.refl (c : C) : CRs c c := by
  cases c with
  | seq a b => exact ⟨a, b, rfl, .refl _, .refl _⟩
  | cond g a b => exact ⟨a, b, rfl, .refl _, .refl _⟩
  | blk id a => exact ⟨a, rfl, .refl _⟩
  | loop a => exact ⟨a, rfl, .refl _⟩
  | sc a => exact ⟨a, rfl, .refl _⟩
  | _ => exact rfl
theorem CR.inv {c c0 : C} (h : CR c c0) : (∃ s, c = .spl s c0 ∧ SplOk s c0) ∨ c = .bad ∨ CRs c c0 := by
  cases h with
  | refl => exact .inr (.inr (.refl _))
  | spl h => exact .inl ⟨_, rfl, h⟩
  | bad => exact .inr (.inl rfl)
  | seq h h' => exact .inr (.inr ⟨_, _, rfl, h, h'⟩)
  | cond h h' => exact .inr (.inr ⟨_, _, rfl, h, h'⟩)
  | blk h => exact .inr (.inr ⟨_, rfl, h⟩)
  | loop h => exact .inr (.inr ⟨_, rfl, h⟩)
  | sc h => exact .inr (.inr ⟨_, rfl, h⟩)
structure TbOk (tb : Tb) (P : Program) : Prop where
  fn : ∀ {f κ}, fnOf tb f κ = true → ∃ c0 c r, trF P f = some (.mk c0 r) ∧ CR c c0 ∧ κ c r = true
  lp : ∀ {l κ}, lpOf tb l κ = true → ∃ p a b, trL P l = some (.mk p a b) ∧ κ p a b = true
  en : ∀ {f κ σ}, enOf tb f κ σ = true → (∃ c0 c r, trF P f = some (.mk c0 r) ∧ CR c c0 ∧ κ c = true) ∨ ∃ s fn body, FnC P f fn body ∧ SpOk P f s ∧ σ s = true
def Sub (f : Nat) (body : Code) (k : Nat) (c : Code) : Prop := ∀ e ∈ rfs k c, e ∈ rfs (liOf f) body
def bF (f : Nat) (kd : Bool) (ro : Option Nat) : Frame := { (default : Frame) with fn := f, kind := if kd then .deferred else .normal, roundOf := ro }
inductive IR (P : Program) (θ : Th) (f nt : Nat) (body : Code) : T → Item → Prop where
  | code {k : Nat} {c : Code} {c' : C} (h : Sub f body k c) (hc : CR c' (dC (trC P nt k c))) : IR P θ f nt body (.c c') (.code c)
  | reg {ops : Array Oper} {rest : List Nat} (h : ∀ i ∈ rest, i < ops.size) : IR P θ f nt body (.rg (dR (trOs P nt ops (rest.filterMap (ops[·]?))))) (.inRegion ops rest)
  | blk (id : Nat) : IR P θ f nt body (.blk id) (.inBlock id)
  | lp {k : Nat} {c : Code} {c' : C} (h : Sub f body k c) (hc : CR c' (dC (trC P nt k c))) : IR P θ f nt body (.lp c') (.inLoop c)
  | sc (c : Code) : IR P θ f nt body .sc (.inScope c)
  | irf {o : Nat} (h : θ.has o) : IR P θ f nt body (.irf o) (.inRangeFunc (θ.blk o))
  | erf {o : Nat} (h : θ.has o) : IR P θ f nt body (.erf o) (.endRangeFunc (θ.blk o))
  | br : IR P θ f nt body .br .beginRound
inductive TdR (P : Program) (θ : Th) (f nt : Nat) (body : Code) : List T → List Item → Prop where
  | nil : TdR P θ f nt body [] []
  | cons {t : T} {i : Item} {td : List T} {todo : List Item} (h : IR P θ f nt body t i) (r : TdR P θ f nt body td todo) : TdR P θ f nt body (t :: td) (i :: todo)
theorem IR.mono {P : Program} {θ θ' : Th} (hle : θ.le θ') {f nt : Nat} {body : Code} {t : T} {i : Item} (h : IR P θ f nt body t i) : IR P θ' f nt body t i := by
  cases h with
  | code h hc => exact .code h hc
  | reg h => exact .reg h
  | blk id => exact .blk id
  | lp h hc => exact .lp h hc
  | sc c => exact .sc c
  | irf h => rw [← hle.blk _ h]; exact .irf (hle.has _ h)
  | erf h => rw [← hle.blk _ h]; exact .erf (hle.has _ h)
  | br => exact .br
theorem TdR.mono {P : Program} {θ θ' : Th} (hle : θ.le θ') {f nt : Nat} {body : Code} {td : List T} {todo : List Item} (h : TdR P θ f nt body td todo) : TdR P θ' f nt body td todo := by
  induction h with
  | nil => exact .nil
  | cons h _ ih => exact .cons (h.mono hle) ih
def DsR (θ : Th) : List AD → List Deferred → Prop
  | [], ds => ds = []
  | .fn f vs :: r, ds => ∃ d cap ds', ds = d :: ds' ∧ d.target = .fn (.func f) cap ∧ d.args ++ cap = (toVs θ vs).toArray ∧ Oks θ vs ∧ DsR θ r ds'
  | .col o :: r, ds => ∃ ds', ds = { target := .collected (θ.blk o), args := #[] } :: ds' ∧ θ.has o ∧ DsR θ r ds'
theorem DsR.mono {θ θ' : Th} (hle : θ.le θ') : ∀ {l : List AD} {ds : List Deferred}, DsR θ l ds → DsR θ' l ds
  | [], _, h => h
  | .fn f vs :: r, _, ⟨d, cap, ds', h1, h2, h3, h4, h5⟩ => ⟨d, cap, ds', h1, h2, by rw [(monos hle vs h4).1]; exact h3, (monos hle vs h4).2, h5.mono hle⟩
  | .col o :: r, _, ⟨ds', h1, h2, h3⟩ => ⟨ds', by rw [hle.blk o h2]; exact h1, hle.has o h2, h3.mono hle⟩
inductive FR (P : Program) (θ : Th) (h : H) : List (Nat × AO) → Env → List T → Fr → Frame → Prop where
  | run {en : Env} {td : List T} {f : Nat} {df : List AD} {kd : Bool} {rd : Option Nat} {a : Act} {todo : List Item} {fn : Func} {body : Code} (hf : FnC P f fn body) (hr : ∀ o, rd = some o → θ.has o ∧ kd = false)
      (hd : DsR θ df a.defers) (hs : fn.ntmps ≤ a.tmps.size) (he : ER θ en a.tmps) (ht : TdR P θ f fn.ntmps body td todo) : FR P θ h [] en td (.mk f df kd rd) ((bF f kd (rd.map θ.blk)).atR a todo)
  | draw {en enM : Env} {td : List T} {f : Nat} {df : List AD} {kd : Bool} {rd : Option Nat} {a : Act} {todo : List Item} {fn : Func} {body : Code} {ops : Array Oper} {qs : List (Nat × Nat × AO)} {L : List (Bool × Nat)} {A st π : List Nat} {D : Nat → Prop}
      (hf : FnC P f fn body) (hr : ∀ o, rd = some o → θ.has o ∧ kd = false) (hd : DsR θ df a.defers) (hs : fn.ntmps ≤ a.tmps.size) (ht : TdR P θ f fn.ntmps body td todo)
      (hD : Dr P fn.ntmps ops θ h qs L A st en enM a.tmps π D) : FR P θ h (qs.map (·.2)) en (.rg (dR (trDr P fn.ntmps ops L)) :: td) (.mk f df kd rd) ((bF f kd (rd.map θ.blk)).atR a (.inRegion ops π :: todo))
  | ret {en : Env} {f : Nat} {df : List AD} {kd : Bool} {a : Act} {todo : List Item} {fn : Func} {body : Code} (hf : FnC P f fn body) (hd : DsR θ df a.defers) (he : ER θ en a.tmps) :
      FR P θ h [] en [.rt] (.mk f df kd none) { (bF f kd none).atR a todo with mode := .returning }
def kdOf : Fr → Bool
  | .mk _ _ kd _ => kd
def WaitR (P : Program) (θ : Th) (q : List (Nat × AO)) (en : Env) (td : List T) (fr : Fr) (F : Frame) : Bool → Prop
  | true => F.mode = .returning ∧ ∀ θ' h', θ.le θ' → FR P θ' h' q en td fr F
  | false => ∀ θ' h' v u, θ.le θ' → VR θ' v u → match td with
    | .wt d r :: k => ∃ d0 : Ds, d = dD d0 ∧ FR P θ' h' q (putE d0 v en) (.rg r :: k) fr (F.finish u)
    | .irf o :: k => FR P θ' h' q en (.erf o :: k) fr (F.finish u)
    | _ => True
def fnO : Fr → Nat
  | .mk f _ _ _ => f
structure F0 where
  f : Nat
  pd : List (Nat × AO)
  θ : Th
def CsR (P : Program) (θ : Th) (f0 : F0) : Nat → Bool → List AFr → List Frame → List (Nat × AO) → Prop
  | f, kd, [], Fs, pd => f = f0.f ∧ kd = false ∧ Fs = [] ∧ pd = f0.pd ∧ f0.θ.le θ
  | _, kd, .mk en td fr :: cs, Fs, pd => ∃ F Fs' q pd', Fs = F :: Fs' ∧ pd = q ++ pd' ∧ WaitR P θ q en td fr F kd ∧ CsR P θ f0 (fnO fr) (kdOf fr) cs Fs' pd'
theorem WaitR.mono {P : Program} {θ θ' : Th} (hle : θ.le θ') {q : List (Nat × AO)} {en : Env} {td : List T} {fr : Fr} {F : Frame} : ∀ {kd : Bool}, WaitR P θ q en td fr F kd → WaitR P θ' q en td fr F kd
  | true, ⟨h1, h2⟩ => ⟨h1, fun θ'' h' hl => h2 θ'' h' (hle.trans hl)⟩
  | false, h => fun θ'' h' v u hl => h θ'' h' v u (hle.trans hl)
theorem CsR.mono {P : Program} {θ θ' : Th} {f0 : F0} (hle : θ.le θ') : ∀ {cs : List AFr} {f : Nat} {kd : Bool} {Fs : List Frame} {pd : List (Nat × AO)}, CsR P θ f0 f kd cs Fs pd → CsR P θ' f0 f kd cs Fs pd
  | [], _, _, _, _, ⟨h1, h2, h3, h4, h5⟩ => ⟨h1, h2, h3, h4, h5.trans hle⟩
  | .mk en td fr :: cs, _, _, _, _, ⟨F, Fs', q, pd', h1, h2, h3, h4⟩ => ⟨F, Fs', q, pd', h1, h2, h3.mono hle, h4.mono hle⟩
inductive StR (P : Program) (w0 : World) (cs0 : List Frame) (f0 : F0) : ASt → Machine → Prop where
  | mk {en : Env} {td : List T} {fr : Fr} {cs : List AFr} {h : H} {nx : Nat} {θ : Th} {q pd : List (Nat × AO)} {F : Frame} {Fs : List Frame} {w : World} (hR : HR P w0 (q ++ pd) θ h nx w) (hF : FR P θ h q en td fr F) (hC : CsR P θ f0 (fnO fr) (kdOf fr) cs Fs pd) :
      StR P w0 cs0 f0 (.mk en td fr cs h nx) (lone F (Fs ++ cs0) w)
  | fin {v : AV} {u : Value} {h : H} {nx : Nat} {θ : Th} {F : Frame} {w : World} (hR : HR P w0 f0.pd θ h nx w) (hv : VR θ v u) (hl : F.leaving P w (.returned u)) (hfn : F.fn = f0.f) (hle : f0.θ.le θ) : StR P w0 cs0 f0 (.fin v h nx) (lone F cs0 w)
def Goal (P : Program) (w0 : World) (cs0 : List Frame) (f0 : F0) (κ : ASt → R) (m : Machine) : Prop := ∃ s m', Steps P m m' ∧ StR P w0 cs0 f0 s m' ∧ κ s = true
theorem Goal.of_steps {P : Program} {w0 : World} {cs0 : List Frame} {f0 : F0} {κ : ASt → R} {m m₁ : Machine} (h : Steps P m m₁) : Goal P w0 cs0 f0 κ m₁ → Goal P w0 cs0 f0 κ m
  | ⟨s, m', h1, h2, h3⟩ => ⟨s, m', h.trans h1, h2, h3⟩
section
variable {P : Program} {w0 : World} {cs0 : List Frame} {f0 : F0} {κ : ASt → R} {tb : Tb} {θ : Th} {h : H} {nx : Nat} {w w' : World}
def enlF : List AV → Nat → Env → Env
  | [], _, en => en
  | v :: vs, j, en => enlF vs (j + 1) (setL AV v 3 j en)
theorem enlK_eq : ∀ (vs : List AV) (j : Nat) (en : Env) (κ : Env → R), enlK vs j en κ = κ (enlF vs j en)
  | [], _, _, _ => rfl
  | v :: vs, j, en, κ => by
    show setK AV v 3 j en (fun en => fnat (Nat.succ j) fun j => enlK vs j en κ) = _
    rw [setK_eq, fnat_eq, enlK_eq vs]
    rfl
theorem getL_enlF : ∀ (vs : List AV) (j : Nat) (en : Env) (t : Nat), j + vs.length ≤ 512 → t < 512 → getL AV 3 t (enlF vs j en) = if j ≤ t ∧ t < j + vs.length then vs.getD (t - j) undef else getL AV 3 t en
  | [], j, en, t, _, _ => by simp [enlF]; omega
  | v :: vs, j, en, t, hl, ht => by
    simp only [List.length_cons] at hl
    rw [enlF, getL_enlF vs (j + 1) _ t (by omega) ht]
    by_cases e : t = j
    · subst e
      rw [if_neg (by omega), if_pos (by simp), getL_setL]
      simp
    · by_cases h1 : j + 1 ≤ t ∧ t < j + 1 + vs.length
      · rw [if_pos h1, if_pos (by simp; omega), show t - j = (t - (j + 1)) + 1 by omega]
        simp
      · rw [if_neg h1, if_neg (by simp; omega), getL_setL_ne (i := j) (j := t) v 3 en (by omega) ht e]
theorem er_enter {vs : List AV} (hl : vs.length ≤ 512) (hv : Oks θ vs) (n : Nat) : ER θ (enlF vs 0 e0) ((toVs θ vs).toArray ++ Array.replicate (n - (toVs θ vs).toArray.size) Go.undef) := by
  intro t ht
  rw [getL_enlF vs 0 e0 t (by omega) ht, Array.getD_eq_getD_getElem?]
  by_cases h1 : t < vs.length
  · rw [if_pos (by omega), Array.getElem?_append_left (by simp; exact h1), List.getElem?_toArray, toVs_get, List.getElem?_eq_getElem h1]
    simp only [Nat.sub_zero, List.getD_eq_getElem?_getD, List.getElem?_eq_getElem h1, Option.getD_some, Option.map_some]
    exact ⟨Oks_iff.1 hv _ (List.getElem_mem h1), rfl⟩
  · rw [if_neg (by omega)]
    have h2 : getL AV 3 t e0 = undef := getL_repL undef 3 t
    rw [h2, Array.getElem?_append_right (by simp; omega), Array.getElem?_replicate]
    split <;> exact vr_undef θ
theorem run_callFunc {f : Nat} {fn : Func} {body : Code} (hf : FnC P f fn body) (args : Array Value) : (callFunc f args).run P w = .ok (.enter f args) w := by
  have hb : fn.body.isNone = false := by rw [hf.hbody]; rfl
  simp only [callFunc, Sem.run_bind, run_program, Result.andThen, hf.hfn, hf.name, hb, Bool.false_eq_true, if_false, Sem.run_pure]
def rsS (tmps : Array Value) : ResultVar → Sem Value
  | .tmp t => pure (tmps.getD t Go.undef)
  | .cell a t => do loadVar t (← asAddr (tmps.getD a Go.undef))
theorem r1_ok {q : List (Nat × AO)} (hR : HR P w0 q θ h nx w) {en : Env} {tmps : Array Value} (hE : ER θ en tmps) {rv : ResultVar} (hd : dsOk (trRs P rv) = true) (hrv : rvOk P rv = true) {κ : AV → R} (e : r1 (trRs P rv) en h κ = true) :
    ∃ v u, κ v = true ∧ VR θ v u ∧ (rsS tmps rv).run P w = .ok u w := by
  cases rv with
  | tmp t =>
    have ht : t < 512 := by simpa [dsOk, trRs, Nat.blt_eq] using hd
    have e : getK AV κ 3 t en = true := e
    rw [getK_eq] at e
    exact ⟨_, _, e, hE t ht, rfl⟩
  | cell a t =>
    simp only [rvOk, Bool.and_eq_true] at hrv
    obtain ⟨g, hg⟩ := Option.isSome_iff_exists.1 hrv.1
    obtain ⟨n, hn⟩ := Option.isSome_iff_exists.1 hrv.2
    cases g with
    | true =>
      have hrs : trRs P (.cell a t) = .c a n := by simp [trRs, hg, hn, bad]
      rw [hrs] at hd e
      have ht : a < 512 := by simpa [dsOk, Nat.blt_eq] using hd
      have e : getK AV (asP fun o off => rdK o off n h fun l => κ (.ag l)) 3 a en = true := e
      rw [getK_eq] at e
      have hE := hE a ht
      obtain ⟨o, off, hv, e1⟩ := asP_true e
      rw [hv] at hE
      obtain ⟨hp, hh⟩ := hE.p
      obtain ⟨vs, k1, _, k3, k4, k5, k6⟩ := rd_ok hR hh e1
      refine ⟨.ag vs, .agg (toVs θ vs).toArray, k3, ⟨⟨k4, k5⟩, rfl⟩, ?_⟩
      have hl := run_loadVar_agg (w := w) hg hn (vs := toVs θ vs) (by simp [k1]) k6
      simp only [rsS, hp, asAddr, Sem.run_bind, Sem.run_pure, Result.andThen, hl]
    | false =>
      have hrs : trRs P (.cell a t) = .c1 a := by simp [trRs, hg]
      rw [hrs] at hd e
      have ht : a < 512 := by simpa [dsOk, Nat.blt_eq] using hd
      have e : getK AV (asP fun o off => rd1 o off h κ) 3 a en = true := e
      rw [getK_eq] at e
      have hE := hE a ht
      obtain ⟨o, off, hv, e1⟩ := asP_true e
      rw [hv] at hE
      obtain ⟨hp, hh⟩ := hE.p
      obtain ⟨c, _, k2, k3, _, k5⟩ := rd1_ok hR hh e1
      refine ⟨c, toV θ c, k2, ⟨k3, rfl⟩, ?_⟩
      have hl := run_loadVar_one (w := w) hg k5
      simp only [rsS, hp, asAddr, Sem.run_bind, Sem.run_pure, Result.andThen, hl]
theorem rsL_ok {q : List (Nat × AO)} (hR : HR P w0 q θ h nx w) {en : Env} {tmps : Array Value} (hE : ER θ en tmps) : ∀ {rvs : List ResultVar} {κ : List AV → R}, (rvs.map (trRs P)).all dsOk = true → rvs.all (rvOk P) = true → rsL (rvs.map (trRs P)) en h κ = true →
    ∃ vs us, κ vs = true ∧ vs.length = rvs.length ∧ Oks θ vs ∧ us = toVs θ vs ∧
      (rvs.mapM (rsS tmps)).run P w = .ok us w
  | [], κ, _, _, e => ⟨[], [], e, rfl, trivial, rfl, rfl⟩
  | rv :: rvs, κ, hd, hrv, e => by
    simp only [List.map_cons, List.all_cons, Bool.and_eq_true] at hd hrv
    obtain ⟨v, u, e1, h1, h2⟩ := r1_ok hR hE hd.1 hrv.1 (show r1 (trRs P rv) en h (fun v => rsL (rvs.map (trRs P)) en h fun vs => κ (v :: vs)) = true from e)
    obtain ⟨vs, us, k1, k2, k3, k4, k5⟩ := rsL_ok hR hE hd.2 hrv.2 e1
    refine ⟨v :: vs, u :: us, k1, by simp [k2], ⟨h1.1, k3⟩, by rw [k4, h1.2]; rfl, ?_⟩
    rw [List.mapM_cons]
    simp only [Sem.run_bind, h2, Result.andThen, k5, Sem.run_pure]
theorem res_ok {q : List (Nat × AO)} (hR : HR P w0 q θ h nx w) {f : Nat} {fn : Func} {body : Code} (hf : FnC P f fn body) {en : Env} {tmps : Array Value} (hE : ER θ en tmps) {κ : AV → R} (e : dRs (fn.results.toList.map (trRs P)) en h κ = true) :
    ∃ v u, κ v = true ∧ VR θ v u ∧ (results fn tmps).run P w = .ok u w := by
  have hgen : ∀ {κ : List AV → R}, rsL (fn.results.toList.map (trRs P)) en h κ = true → ∃ vs us, κ vs = true ∧ vs.length = fn.results.toList.length ∧ Oks θ vs ∧ us = toVs θ vs ∧
      (results fn tmps).run P w = .ok (if h : us.toArray.size = 1 then us.toArray[0] else .tuple us.toArray) w := by
    intro κ e
    obtain ⟨vs, us, k1, k2, k3, k4, k5⟩ := rsL_ok hR hE hf.res hf.rv e
    refine ⟨vs, us, k1, k2, k3, k4, ?_⟩
    have hfun : (fun (x : ResultVar) => match x with | .tmp t => (pure (tmps.getD t Go.undef) : Sem Value) | .cell a t => do loadVar t (← asAddr (tmps.getD a Go.undef))) = rsS tmps := by
      funext x; cases x <;> rfl
    have hr : results fn tmps = (fn.results.mapM (rsS tmps) >>= fun vs => pure (if h : vs.size = 1 then vs[0] else .tuple vs)) := by
      rw [← hfun]; rfl
    rw [hr, Array.mapM_eq_mapM_toList]
    simp only [Sem.run_bind, Sem.run_map, Result.andThen, k5]
    rfl
  cases hl : fn.results.toList.map (trRs P) with
  | nil =>
    rw [hl] at e
    have e : rsL (fn.results.toList.map (trRs P)) en h (fun vs => κ (.tu vs)) = true := by rw [hl]; exact e
    obtain ⟨vs, us, k1, k2, k3, k4, k5⟩ := hgen e
    have hlen : vs.length = 0 := by rw [k2]; have := congrArg List.length hl; simpa using this
    subst k4
    rw [dif_neg (by simp [hlen])] at k5
    exact ⟨.tu vs, _, k1, ⟨k3, rfl⟩, k5⟩
  | cons d ds =>
    cases ds with
    | nil =>
      rw [hl] at e
      have e : rsL (fn.results.toList.map (trRs P)) en h (fun vs => match vs with | [v] => κ v | _ => false) = true := by rw [hl]; exact e
      obtain ⟨vs, us, k1, k2, k3, k4, k5⟩ := hgen e
      have hlen : vs.length = 1 := by rw [k2]; have := congrArg List.length hl; simpa using this
      obtain ⟨v, rfl⟩ := List.length_eq_one_iff.1 hlen
      subst k4
      exact ⟨v, toV θ v, k1, ⟨k3.1, rfl⟩, k5⟩
    | cons d2 ds =>
      rw [hl] at e
      have e : rsL (fn.results.toList.map (trRs P)) en h (fun vs => κ (.tu vs)) = true := by rw [hl]; exact e
      obtain ⟨vs, us, k1, k2, k3, k4, k5⟩ := hgen e
      have hlen : vs.length ≠ 1 := by rw [k2]; have := congrArg List.length hl; simp at this; simp [this]
      subst k4
      rw [dif_neg (by simpa using hlen)] at k5
      exact ⟨.tu vs, _, k1, ⟨k3, rfl⟩, k5⟩
theorem back_ok {f : Nat} {kd : Bool} {v : AV} {u : Value} {cs : List AFr} {Fs : List Frame} {pd : List (Nat × AO)} (e : backK kd v cs h nx κ = true) (hR : HR P w0 pd θ h nx w) (hv : VR θ v u) (hC : CsR P θ f0 f kd cs Fs pd) {m : Machine}
    (hn : kd = false → ∀ c rest, Steps P m (lone (c.finish u) (rest ++ cs0) w) ∨ Fs ≠ c :: rest) (hk : kd = true → ∀ c rest, c.mode = .returning → Steps P m (lone c (rest ++ cs0) w) ∨ Fs ≠ c :: rest)
    (hf : Fs = [] → StR P w0 cs0 f0 (.fin v h nx) m) : Goal P w0 cs0 f0 κ m := by
  cases cs with
  | nil =>
    obtain ⟨h0, h1, h2, h3⟩ := hC
    exact ⟨_, m, .refl P m, hf h2, e⟩
  | cons c cs =>
    obtain ⟨en, td, fr⟩ := c
    obtain ⟨F, Fs', q, pd', rfl, rfl, hw, hC'⟩ := hC
    cases kd with
    | true =>
      obtain ⟨h1, h2⟩ := hw
      rcases hk rfl F Fs' h1 with hs | hs
      · have e : κ (.mk en td fr cs h nx) = true := e
        exact ⟨_, _, hs, .mk hR (h2 θ h (.refl θ)) hC', e⟩
      · exact absurd rfl hs
    | false =>
      have hw := hw θ h v u (.refl θ) hv
      rcases hn rfl F Fs' with hs | hs
      · cases td with
        | nil => cases e
        | cons t k =>
          cases t <;> first | (cases e; done) | skip
          · rename_i d r hw
            obtain ⟨d0, hd, hF⟩ := hw
            have e : d v en (fun en => κ (.mk en (.rg r :: k) fr cs h nx)) = true := e
            rw [hd, dD_eq] at e
            exact ⟨_, _, hs, .mk hR hF hC', e⟩
          · rename_i o hw
            have e : κ (.mk en (.erf o :: k) fr cs h nx) = true := e
            exact ⟨_, _, hs, .mk hR hw hC', e⟩
      · exact absurd rfl hs
theorem enter_ok (ht : TbOk tb P) {f : Nat} {vs : List AV} {kd : Bool} {cs : List AFr} {Fs : List Frame} {pd : List (Nat × AO)} (e : enterK tb f vs kd cs h nx κ = true) (hv : Oks θ vs) (hR : HR P w0 pd θ h nx w) (hC : CsR P θ f0 f kd cs Fs pd) :
    ∃ fn body, FnC P f fn body ∧ Goal P w0 cs0 f0 κ (lone (Frame.enter P f (toVs θ vs).toArray (if kd then .deferred else .normal)) (Fs ++ cs0) w) := by
  obtain ⟨h1, e1⟩ := br_t e
  have h1 : vs.length ≤ 512 := by have := Nat.le_of_ble_eq_true h1; rwa [lenN_eq] at this
  rcases ht.en e1 with ⟨c0, c, r, h2, hcr, e2⟩ | ⟨s, fn, body, hf, hs, e2⟩
  case inr =>
    cases kd with
    | true => cases e2
    | false =>
      obtain ⟨_, w', fr', ⟨v, u, θ', h', nx', rfl, k1, k2, k3, k4⟩, hcomes, _, hl⟩ := hs w0 pd θ h nx w vs _ hR hv e2 (Fs ++ cs0)
      cases cs with
      | nil => cases k4
      | cons c cs =>
        have k4 : backK false v (c :: cs) h' nx' κ = true := k4
        refine ⟨fn, body, hf, back_ok (f := f) k4 k3 k2 (hC.mono k1) (fun _ c' rest => ?_) (fun h => absurd h (by simp)) (fun hn => ?_)⟩
        · by_cases hF : Fs = c' :: rest
          · refine .inl ?_
            have hst : Steps P (lone (Frame.enter P f (toVs θ vs).toArray .normal) (Fs ++ cs0) w) (lone fr' (Fs ++ cs0) w') := hcomes
            refine hst.trans ?_
            rw [hF]
            exact .one (step_leave_returned hl)
          · exact .inr hF
        · obtain ⟨en, td, fr⟩ := c
          obtain ⟨F, Fs', q, pd', rfl, _⟩ := hC
          cases hn
  obtain ⟨fn, body, hf, hu⟩ := trF_some h2
  injection hu with hu1 hu2
  subst hu1 hu2
  rw [enlK_eq] at e2
  refine ⟨fn, body, hf, _, _, .refl P _, ?_, e2⟩
  have hfr : Frame.enter P f (toVs θ vs).toArray (if kd then .deferred else .normal) = (bF f kd ((none : Option Nat).map θ.blk)).atR { tmps := (toVs θ vs).toArray ++ Array.replicate (fn.ntmps - (toVs θ vs).toArray.size) Go.undef, defers := [] } [.code body] := by
    simp [Frame.enter, Frame.atR, hf.hfn, hf.hbody, bF]
  rw [hfr]
  exact .mk (q := []) hR (.run hf (fun o h => nomatch h) rfl (by simp; omega) (er_enter h1 hv _) (.cons (.code (fun e he => he) hcr) .nil)) hC
end
end Go.AM

namespace Go.AM
open Go
section
variable {tb : Tb} {en : Env} {k : List T} {fr : Fr} {cs : List AFr} {h : H} {nx : Nat} {κ : ASt → R}
theorem rgK_sOp (d : DsF) (f : OpF) (r : Rg) : rgK tb (ahead (sOp d f) r) en k fr cs h nx κ = f en h nx fun v h nx => d v en fun en => rgK tb r en k fr cs h nx κ := by cases r <;> rfl
theorem rgK_sOpG (g : GdF) (d : DsF) (f : OpF) (r : Rg) : rgK tb (ahead (sOpG g d f) r) en k fr cs h nx κ =
    g en (f en h nx fun v h nx => d v en fun en => rgK tb r en k fr cs h nx κ) (d undef en fun en => rgK tb r en k fr cs h nx κ) := by cases r <;> rfl
theorem rgK_sAg (g : GdF) (x : XF) (f : OpF) (r : Rg) : rgK tb (ahead (sAg g x f) r) en k fr cs h nx κ =
    g en (x en fun old => f en h nx fun v _ _ => br (beqV old v) (rgK tb r en k fr cs h nx κ) false) (rgK tb r en k fr cs h nx κ) := by cases r <;> rfl
theorem rgK_op (g : Gd) (d : Ds) (i : I) (r : DR) : rgK tb (dR (.op g d i r)) en k fr cs h nx κ =
    dG g en (dI i en h nx fun v h nx => rgK tb (dR r) (putE d v en) k fr cs h nx κ) (rgK tb (dR r) (putE d undef en) k fr cs h nx κ) := by
  have e1 : ∀ (v : AV) (h : H) (nx : Nat), dD d v en (fun en => rgK tb (dR r) en k fr cs h nx κ) = rgK tb (dR r) (putE d v en) k fr cs h nx κ := fun v h nx => dD_eq d v en _
  cases g with
  | n =>
    show rgK tb (ahead (sOp (dD d) (dI i)) (dR r)) en k fr cs h nx κ = _
    rw [rgK_sOp]
    simp only [e1]
    rfl
  | g t b =>
    show rgK tb (ahead (sOpG (dG (.g t b)) (dD d) (dI i)) (dR r)) en k fr cs h nx κ = _
    rw [rgK_sOpG]
    simp only [e1]
theorem rgK_rck (g : Gd) (t : Nat) (i : I) (r : DR) : rgK tb (dR (.rck g t i r)) en k fr cs h nx κ =
    dG g en (dI i en h nx fun v _ _ => br (beqV (getL AV 3 t en) v) (rgK tb (dR r) en k fr cs h nx κ) false) (rgK tb (dR r) en k fr cs h nx κ) := by
  show rgK tb (ahead (sAg (dG g) (xT t) (dI i)) (dR r)) en k fr cs h nx κ = _
  rw [rgK_sAg]
  congr 1
  show getK AV _ 3 t en = _
  rw [getK_eq]
theorem rgK_call (g : Gd) (d : Ds) (f : Nat) (xs : List X) (r : DR) : rgK tb (dR (.call g d f xs r)) en k fr cs h nx κ =
    dG g en (dXs xs en fun vs => enterK tb f vs false (.mk en (.wt (dD d) (dR r) :: k) fr :: cs) h nx κ) (κ (.mk (putE d undef en) (.rg (dR r) :: k) fr cs h nx)) := by
  show dG g en _ (dD d undef en fun en => κ (.mk en (.rg (dR r) :: k) fr cs h nx)) = _
  rw [dD_eq]
theorem rgK_calv (g : Gd) (d : Ds) (x : X) (xs : List X) (r : DR) : rgK tb (dR (.calv g d x xs r)) en k fr cs h nx κ =
    dG g en (dX x en fun v => dXs xs en fun vs => callvK tb v vs (.mk en (.wt (dD d) (dR r) :: k) fr :: cs) h nx κ) (κ (.mk (putE d undef en) (.rg (dR r) :: k) fr cs h nx)) := by
  show dG g en _ (dD d undef en fun en => κ (.mk en (.rg (dR r) :: k) fr cs h nx)) = _
  rw [dD_eq]
theorem rgK_inv (g : Gd) (d : Ds) (tbl : List (Nat × Nat)) (x : X) (xs : List X) (r : DR) : rgK tb (dR (.inv g d tbl x xs r)) en k fr cs h nx κ =
    dG g en (dX x en fun v => dXs xs en fun vs => invK tb tbl v vs (.mk en (.wt (dD d) (dR r) :: k) fr :: cs) h nx κ) (κ (.mk (putE d undef en) (.rg (dR r) :: k) fr cs h nx)) := by
  show dG g en _ (dD d undef en fun en => κ (.mk en (.rg (dR r) :: k) fr cs h nx)) = _
  rw [dD_eq]
theorem rgK_dfr (g : Gd) (d : Ds) (x : X) (xs : List X) (r : DR) (fn : Nat) (df : List AD) (kd : Bool) (rd : Option Nat) : rgK tb (dR (.dfr g d x xs r)) en k (.mk fn df kd rd) cs h nx κ =
    dG g en (match rd with
      | none => dX x en fun v => dXs xs en fun vs => (match v with
        | .fn f caps => appK AV vs caps fun vs => κ (.mk (putE d undef en) (.rg (dR r) :: k) (.mk fn (.fn f vs :: df) kd none) cs h nx)
        | _ => false)
      | some _ => false) (κ (.mk (putE d undef en) (.rg (dR r) :: k) (.mk fn df kd rd) cs h nx)) := by
  show dG g en _ (dD d undef en fun en => κ (.mk en (.rg (dR r) :: k) (.mk fn df kd rd) cs h nx)) = _
  rw [dD_eq]
  cases rd with
  | none =>
    congr 1
    show dX x en _ = _
    congr 1; funext v
    congr 1; funext vs
    cases v <;> first | rfl | skip
    show appK AV vs _ (fun vs => dD d undef en _) = _
    simp only [dD_eq]
  | some o => rfl
theorem rgK_rcv (g : Gd) (d : Ds) (r : DR) (fn : Nat) (df : List AD) (kd : Bool) (rd : Option Nat) : rgK tb (dR (.rcv g d r)) en k (.mk fn df kd rd) cs h nx κ =
    dG g en (match rd with | none => κ (.mk (putE d .ni en) (.rg (dR r) :: k) (.mk fn df kd none) cs h nx) | some _ => false) (κ (.mk (putE d undef en) (.rg (dR r) :: k) (.mk fn df kd rd) cs h nx)) := by
  cases rd with
  | none =>
    show dG g en (dD d .ni en fun en => κ (.mk en (.rg (dR r) :: k) (.mk fn df kd none) cs h nx)) (dD d undef en fun en => κ (.mk en (.rg (dR r) :: k) (.mk fn df kd none) cs h nx)) = _
    rw [dD_eq, dD_eq]
  | some o =>
    show dG g en false (dD d undef en fun en => κ (.mk en (.rg (dR r) :: k) (.mk fn df kd (some o)) cs h nx)) = _
    rw [dD_eq]
end
structure Fx (P : Program) (θ : Th) (f : Nat) (fn : Func) (body : Code) (kd : Bool) (rd : Option Nat) (df : List AD) (a : Act) (td : List T) (todo : List Item) : Prop where
  hf : FnC P f fn body
  hr : ∀ o, rd = some o → θ.has o ∧ kd = false
  hd : DsR θ df a.defers
  hs : fn.ntmps ≤ a.tmps.size
  ht : TdR P θ f fn.ntmps body td todo
section
variable {P : Program} {θ θ' : Th} {f : Nat} {fn : Func} {body : Code} {kd : Bool} {rd : Option Nat} {df : List AD} {a a' : Act} {td : List T} {todo : List Item}
theorem Fx.mono (hle : θ.le θ') (hx : Fx P θ f fn body kd rd df a td todo) : Fx P θ' f fn body kd rd df a td todo :=
  ⟨hx.hf, fun o ho => ⟨hle.has o (hx.hr o ho).1, (hx.hr o ho).2⟩, hx.hd.mono hle, hx.hs, hx.ht.mono hle⟩
theorem Fx.rdm (hle : θ.le θ') (hx : Fx P θ f fn body kd rd df a td todo) : rd.map θ'.blk = rd.map θ.blk := by
  cases rd with
  | none => rfl
  | some o => exact congrArg some (hle.blk o (hx.hr o rfl).1)
theorem Fx.act (hx : Fx P θ f fn body kd rd df a td todo) (hs : a'.tmps.size = a.tmps.size) (hd : a'.defers = a.defers) : Fx P θ f fn body kd rd df a' td todo :=
  ⟨hx.hf, hx.hr, by rw [hd]; exact hx.hd, by rw [hs]; exact hx.hs, hx.ht⟩
theorem Fx.run (hx : Fx P θ f fn body kd rd df a td todo) (h : H) {en : Env} (hE : ER θ en a.tmps) : FR P θ h [] en td (.mk f df kd rd) ((bF f kd (rd.map θ.blk)).atR a todo) := .run hx.hf hx.hr hx.hd hx.hs hE hx.ht
theorem Fx.more (hx : Fx P θ f fn body kd rd df a td todo) {t : T} {i : Item} (h : IR P θ f fn.ntmps body t i) : Fx P θ f fn body kd rd df a (t :: td) (i :: todo) := ⟨hx.hf, hx.hr, hx.hd, hx.hs, .cons h hx.ht⟩
theorem Fx.tdm {td' : List T} {todo' : List Item} (hx : Fx P θ f fn body kd rd df a td todo) (h : TdR P θ f fn.ntmps body td' todo') : Fx P θ f fn body kd rd df a td' todo' := ⟨hx.hf, hx.hr, hx.hd, hx.hs, h⟩
variable {w0 w : World} {cs0 : List Frame} {f0 : F0} {κ : ASt → R} {tb : Tb} {h : H} {nx : Nat} {cs : List AFr} {Fs : List Frame} {q pd : List (Nat × AO)} {en : Env}
theorem Fx.goal (hx : Fx P θ f fn body kd rd df a td todo) (hE : ER θ en a.tmps) (hR : HR P w0 pd θ h nx w) (hC : CsR P θ f0 f kd cs Fs pd) (e : κ (.mk en td (.mk f df kd rd) cs h nx) = true) :
    Goal P w0 cs0 f0 κ (lone ((bF f kd (rd.map θ.blk)).atR a todo) (Fs ++ cs0) w) :=
  ⟨_, _, .refl P _, .mk (q := []) hR (hx.run h hE) hC, e⟩
theorem rfs_in : ∀ (c : Code) (k l : Nat) (ps : Array Nat) (x y : Code), (l, ps, x, y) ∈ rfs k c → k ≤ l ∧ l < k + nrf c ∧ (∀ e ∈ rfs (l + 1) x, e ∈ rfs k c) ∧ ∀ e ∈ rfs (l + 1 + nrf x) y, e ∈ rfs k c := by
  intro c
  induction c with
  | seq a b iha ihb =>
    intro k l ps x y hm
    simp only [rfs, List.mem_append] at hm
    rcases hm with hm | hm
    · obtain ⟨h1, h2, h3, h4⟩ := iha k l ps x y hm
      exact ⟨h1, by simp only [nrf]; omega, fun e he => List.mem_append_left _ (h3 e he), fun e he => List.mem_append_left _ (h4 e he)⟩
    · obtain ⟨h1, h2, h3, h4⟩ := ihb _ l ps x y hm
      exact ⟨by omega, by simp only [nrf]; omega, fun e he => List.mem_append_right _ (h3 e he), fun e he => List.mem_append_right _ (h4 e he)⟩
  | cond c a b iha ihb =>
    intro k l ps x y hm
    simp only [rfs, List.mem_append] at hm
    rcases hm with hm | hm
    · obtain ⟨h1, h2, h3, h4⟩ := iha k l ps x y hm
      exact ⟨h1, by simp only [nrf]; omega, fun e he => List.mem_append_left _ (h3 e he), fun e he => List.mem_append_left _ (h4 e he)⟩
    · obtain ⟨h1, h2, h3, h4⟩ := ihb _ l ps x y hm
      exact ⟨by omega, by simp only [nrf]; omega, fun e he => List.mem_append_right _ (h3 e he), fun e he => List.mem_append_right _ (h4 e he)⟩
  | block id a ih => exact fun k l ps x y hm => ih k l ps x y hm
  | loop a ih => exact fun k l ps x y hm => ih k l ps x y hm
  | scope a ih => exact fun k l ps x y hm => ih k l ps x y hm
  | rangeFunc g ps' a b iha ihb =>
    intro k l ps x y hm
    simp only [rfs, List.mem_cons, List.mem_append] at hm
    rcases hm with hm | hm | hm
    · injection hm with h1 h2
      injection h2 with h2 h3
      injection h3 with h3 h4
      subst h1 h2 h3 h4
      exact ⟨Nat.le_refl _, by simp only [nrf]; omega, fun e he => List.mem_cons_of_mem _ (List.mem_append_left _ he), fun e he => List.mem_cons_of_mem _ (List.mem_append_right _ he)⟩
    · obtain ⟨h1, h2, h3, h4⟩ := iha _ l ps x y hm
      exact ⟨by omega, by simp only [nrf]; omega, fun e he => List.mem_cons_of_mem _ (List.mem_append_left _ (h3 e he)), fun e he => List.mem_cons_of_mem _ (List.mem_append_left _ (h4 e he))⟩
    · obtain ⟨h1, h2, h3, h4⟩ := ihb _ l ps x y hm
      exact ⟨by omega, by simp only [nrf]; omega, fun e he => List.mem_cons_of_mem _ (List.mem_append_right _ (h3 e he)), fun e he => List.mem_cons_of_mem _ (List.mem_append_right _ (h4 e he))⟩
  | _ => intro k l ps x y hm; simp [rfs] at hm
theorem trL_some {li : Nat} {ps : AssF} {a b : C} (hl : trL P li = some (.mk ps a b)) {fnn : Nat} {fu : Func} {code : Code} {ps' : Array Nat} {x y : Code} (hfu : P.funcs[fnn]? = some fu) (hb : fu.body = some code) (hn : nrf code ≤ 16)
    (hm : (li, ps', x, y) ∈ rfs (liOf fnn) code) : ps = dA ps'.toList ∧ a = dC (trC P fu.ntmps (li + 1) x) ∧ b = dC (trC P fu.ntmps (li + 1 + nrf x) y) ∧ (∀ t ∈ ps'.toList, t < fu.ntmps) ∧ FnC P fnn fu code := by
  obtain ⟨h1, h2, _, _⟩ := rfs_in _ _ _ _ _ _ hm
  have hdiv : li / 16 = fnn := by unfold liOf at h1 h2; omega
  unfold trL at hl
  rw [hdiv, hfu] at hl
  simp only [hb] at hl
  split at hl
  · rename_i l2 ps2 x2 y2 hflt
    have hin : (li, ps', x, y) ∈ (rfs (liOf fnn) code).filter (fun x => Nat.beq x.1 li) := List.mem_filter.2 ⟨hm, Nat.beq_refl li⟩
    rw [hflt] at hin
    have hin := List.mem_singleton.1 hin
    injection hin with g1 g2
    injection g2 with g2 g3
    injection g3 with g3 g4
    subst g1 g2 g3 g4
    split at hl
    · rename_i hc
      simp only [Bool.and_eq_true] at hc
      injection hl with hl
      injection hl with k1 k2 k3
      obtain ⟨u, hu⟩ := Option.isSome_iff_exists.1 hc.2
      obtain ⟨fn', body', hfc, _⟩ := trF_some hu
      have e1 : fn' = fu := by have := hfc.hfn; rw [hfu] at this; injection this with this; exact this.symm
      subst e1
      have e2 : body' = code := by have := hfc.hbody; rw [hb] at this; injection this with this; exact this.symm
      subst e2
      refine ⟨k1.symm, k2.symm, k3.symm, fun t ht => ?_, hfc⟩
      have := List.all_eq_true.1 hc.1 t ht
      simpa [Nat.blt_eq] using this
    · cases hl
  · cases hl
theorem dA_ok : ∀ {ps : List Nat} {vs : List AV} {en : Env} {κ : Env → R} {tmps : Array Value}, dA ps vs en κ = true → (∀ t ∈ ps, t < 512) → (∀ t ∈ ps, t < tmps.size) → ER θ en tmps → Oks θ vs →
    ∃ en', κ en' = true ∧ vs.length = ps.length ∧ ER θ en' ((ps.zip (toVs θ vs)).foldl (fun tmps (t, a) => tmps.setIfInBounds t a) tmps) ∧ ((ps.zip (toVs θ vs)).foldl (fun tmps (t, a) => tmps.setIfInBounds t a) tmps).size = tmps.size
  | [], vs, en, κ, tmps, e, _, _, hE, hv => by
    cases vs with
    | nil => exact ⟨en, e, rfl, hE, rfl⟩
    | cons v vs => cases e
  | t :: ps, vs, en, κ, tmps, e, h5, hs, hE, hv => by
    cases vs with
    | nil => cases e
    | cons v vs =>
      have e : setK AV v 3 t en (fun en => dA ps vs en κ) = true := e
      rw [setK_eq] at e
      obtain ⟨en', k1, k2, k3, k4⟩ := dA_ok (tmps := tmps.setIfInBounds t (toV θ v)) e (fun t ht => h5 t (List.mem_cons_of_mem _ ht)) (fun t ht => by simpa using hs t (List.mem_cons_of_mem _ ht))
        (er_set hE ⟨hv.1, rfl⟩ (h5 t (List.mem_cons_self ..)) (hs t (List.mem_cons_self ..))) hv.2
      refine ⟨en', k1, by simp [k2], ?_, ?_⟩
      · simp only [toVs, List.zip_cons_cons, List.foldl_cons]; exact k3
      · simp only [toVs, List.zip_cons_cons, List.foldl_cons]; rw [k4]; simp
theorem getLoop_run {l : Nat} {r : Loop} (hl : w.heap[l]? = some (.loop r)) : (Instr.getLoop l).run P w = .ok r w := by
  simp [Instr.getLoop, getObj, Sem.run, hl]
theorem callv_ok (ht : TbOk tb P) {v : AV} {u : Value} {vs : List AV} (e : callvK tb v vs cs h nx κ = true) (hv : VR θ v u) (hvs : Oks θ vs) (hR : HR P w0 pd θ h nx w) (hC : ∀ g, CsR P θ f0 g false cs Fs pd) :
    ∃ d n, (Deferred.ofValue u (toVs θ vs).toArray).run P w = .ok d w ∧ (invoke d.target d.args).run P w = .ok n w ∧
      ((∃ g args, n = .enter g args ∧ Goal P w0 cs0 f0 κ (lone (Frame.enter P g args .normal) (Fs ++ cs0) w)) ∨
       (∃ l g tmps x y, n = .round l g tmps x y ∧ Goal P w0 cs0 f0 κ (lone (Frame.round l g tmps x y .normal) (Fs ++ cs0) w))) := by
  obtain ⟨hok, rfl⟩ := hv
  cases v <;> first | (cases e; done) | skip
  · rename_i g caps
    have e : appK AV vs caps (fun vs => enterK tb g vs false cs h nx κ) = true := e
    rw [appK_eq] at e
    have hall : Oks θ (vs ++ caps) := Oks_iff.2 fun x hx => (List.mem_append.1 hx).elim (Oks_iff.1 hvs x) (Oks_iff.1 hok x)
    obtain ⟨fn, body, hf, hg⟩ := enter_ok ht e hall hR (hC _)
    refine ⟨{ target := .fn (.func g) (toVs θ caps).toArray, args := #[] ++ (toVs θ vs).toArray }, _, rfl, run_callFunc hf _, .inl ⟨_, _, rfl, ?_⟩⟩
    have : (#[] ++ (toVs θ vs).toArray ++ (toVs θ caps).toArray : Array Value) = (toVs θ (vs ++ caps)).toArray := by simp [toVs_map]
    rw [this]
    exact hg
  · rename_i o
    have hok : θ.has o := hok
    have e : get o h (asLp fun _ _ fn li en _ => lpOf tb li fun ps a b => ps vs en fun en => κ (.mk en [.c a, .br, .c b] (.mk fn [] false (some o)) cs h nx)) = true := e
    obtain ⟨ao, g1, g2⟩ := get_true e
    cases ao <;> first | (cases g2; done) | skip
    rename_i st j fnn li en' ds
    have g2 : lpOf tb li (fun ps a b => ps vs en' fun en => κ (.mk en [.c a, .br, .c b] (.mk fnn [] false (some o)) cs h nx)) = true := g2
    obtain ⟨fu, code, ps, x, y, tmps, h1, h2, h3, h4, h5, h6, h7, h8⟩ := hR.obj_ hok g1
    obtain ⟨ps', a', b', k1, k2⟩ := ht.lp g2
    obtain ⟨rfl, rfl, rfl, k3, hf⟩ := trL_some k1 h1 h2 h3 h4
    obtain ⟨en2, m1, m2, m3, m4⟩ := dA_ok k2 (fun t ht => Nat.lt_of_lt_of_le (k3 t ht) hf.nt) (fun t ht => Nat.lt_of_lt_of_le (k3 t ht) h7) h6 hvs
    obtain ⟨_, _, s1, s2⟩ := rfs_in _ _ _ _ _ _ h4
    refine ⟨{ target := .fn (.yield (θ.blk o)) #[], args := #[] ++ (toVs θ vs).toArray }, .round (θ.blk o) fnn ((ps.toList.zip (toVs θ vs)).foldl (fun tmps (t, a) => tmps.setIfInBounds t a) tmps) x y, rfl, ?_, .inr ⟨_, _, _, _, _, rfl, ?_⟩⟩
    · have hsz : ((#[] ++ (toVs θ vs).toArray : Array Value)).size = ps.size := by simp [m2]
      have hz : (ps.zip (#[] ++ (toVs θ vs).toArray)).toList = ps.toList.zip (toVs θ vs) := by simp
      simp only [invoke, Instr.yield, Sem.run_bind, getLoop_run h5, Result.andThen, hsz, ne_eq, not_true, if_false, Sem.run_pure]
      rw [← Array.foldl_toList, hz]
    · have hfx : Fx P θ fnn fu code false (some o) [] { tmps := (ps.toList.zip (toVs θ vs)).foldl (fun tmps (t, a) => tmps.setIfInBounds t a) tmps, defers := [] } [.c (dC (trC P fu.ntmps (li + 1) x)), .br, .c (dC (trC P fu.ntmps (li + 1 + nrf x) y))] [.code x, .beginRound, .code y] :=
        ⟨hf, fun o' ho' => by injection ho' with ho'; subst ho'; exact ⟨hok, rfl⟩, rfl, by rw [m4]; exact h7, .cons (.code s1 (.refl _)) (.cons .br (.cons (.code s2 (.refl _)) .nil))⟩
      exact hfx.goal m3 hR (hC _) m1
end
end Go.AM

namespace Go.AM
open Go
section
variable {P : Program} {θ θ' : Th} {f : Nat} {fn : Func} {body : Code} {kd : Bool} {rd : Option Nat} {df : List AD} {a a' : Act} {td : List T} {todo : List Item}
variable {w0 w : World} {cs0 : List Frame} {f0 : F0} {κ : ASt → R} {tb : Tb} {h : H} {nx : Nat} {cs : List AFr} {Fs : List Frame} {q pd : List (Nat × AO)} {en : Env}
variable {ops : Array Oper} {i : Nat} {rest : List Nat} {o : Oper}
theorem trH_call {dr : Bool} {op : Op} {f : Nat} {xs : List X} (h : trH P dr op = .call f xs) : ∃ c, op = .call c ∧ c.callee = .value (.func f) ∧ trXs c.args = some xs := by
  unfold trH at h
  split at h
  · rename_i c
    split at h
    · cases h
    · rename_i g xs' hc hx
      split at h
      · injection h with h1 h2; subst h1 h2; exact ⟨c, rfl, hc, hx⟩
      · cases h
    · split at h <;> cases h
    · split at h <;> cases h
    · cases h
  · split at h
    · split at h <;> cases h
    · split at h <;> cases h
    · cases h
  · cases h
theorem trH_calv {dr : Bool} {op : Op} {x : X} {xs : List X} (h : trH P dr op = .calv x xs) : ∃ c t, op = .call c ∧ c.callee = .value (.tmp t) ∧ t < 512 ∧ x = .t t ∧ trXs c.args = some xs := by
  unfold trH at h
  split at h
  · rename_i c
    split at h
    · cases h
    · split at h <;> cases h
    · rename_i t xs' hc hx
      split at h
      · rename_i ht; injection h with h1 h2; subst h1 h2; exact ⟨c, t, rfl, hc, ht, rfl, hx⟩
      · cases h
    · split at h <;> cases h
    · cases h
  · split at h
    · split at h <;> cases h
    · split at h <;> cases h
    · cases h
  · cases h
theorem trH_inv {dr : Bool} {op : Op} {tbl : List (Nat × Nat)} {x : X} {xs : List X} (h : trH P dr op = .inv tbl x xs) : ∃ c Y name, op = .call c ∧ c.callee = .invoke Y name ∧ trX Y = some x ∧ trXs c.args = some xs ∧ tbl = mtab P name := by
  unfold trH at h
  split at h
  · rename_i c
    split at h
    · cases h
    · split at h <;> cases h
    · split at h <;> cases h
    · rename_i Y name xs' hc hx
      split at h
      · rename_i y hy
        injection h with h1 h2 h3; subst h1 h2 h3; exact ⟨c, Y, name, rfl, hc, hy, hx, rfl⟩
      · cases h
    · cases h
  · split at h
    · split at h <;> cases h
    · split at h <;> cases h
    · cases h
  · cases h
theorem trH_dfr {dr : Bool} {op : Op} {x : X} {xs : List X} (h : trH P dr op = .dfr x xs) : ∃ c, op = .defer c ∧ trXs c.args = some xs ∧ ((∃ f, c.callee = .value (.func f) ∧ x = .c (.fn f [])) ∨ ∃ t, c.callee = .value (.tmp t) ∧ t < 512 ∧ x = .t t) := by
  unfold trH at h
  split at h
  · split at h
    · cases h
    · split at h <;> cases h
    · split at h <;> cases h
    · split at h <;> cases h
    · cases h
  · rename_i c
    split at h
    · rename_i g xs' hc hx
      split at h
      · injection h with h1 h2; subst h1 h2; exact ⟨c, rfl, hx, .inl ⟨g, hc, rfl⟩⟩
      · cases h
    · rename_i t xs' hc hx
      split at h
      · rename_i ht; injection h with h1 h2; subst h1 h2; exact ⟨c, rfl, hx, .inr ⟨t, hc, ht, rfl⟩⟩
      · cases h
    · cases h
  · cases h
theorem trH_rcv {dr : Bool} {op : Op} (h : trH P dr op = .rcv) : ∃ c, op = .call c ∧ c.callee = .builtin .recover := by
  unfold trH at h
  split at h
  · rename_i c
    split at h
    · rename_i hc _; exact ⟨c, rfl, hc⟩
    · split at h <;> cases h
    · split at h <;> cases h
    · split at h <;> cases h
    · cases h
  · split at h
    · split at h <;> cases h
    · split at h <;> cases h
    · cases h
  · cases h
theorem mtab_ok {name : String} {t f : Nat} (h : (t, f) ∈ mtab P name) : ∃ i m pr, P.info? t = some i ∧ i.methods.find? (·.name == name) = some m ∧ m.func = some (f, pr) ∧ m.path.isEmpty = true ∧ mrOk P t pr = true := by
  unfold mtab at h
  rw [List.mem_filterMap] at h
  obtain ⟨t', _, h⟩ := h
  split at h
  · rename_i i hi
    split at h
    · rename_i m hm
      split at h
      · rename_i f' pr hf
        split at h
        · rename_i hb
          simp only [Bool.and_eq_true] at hb
          injection h with h
          injection h with h1 h2
          subst h1 h2
          exact ⟨i, m, pr, hi, hm, hf, hb.1.1, hb.2⟩
        · cases h
      · cases h
    · cases h
  · cases h
theorem run_method {name : String} {t f : Nat} (h : (t, f) ∈ mtab P name) (v : Value) (w : World) : (method (P.types.size + Made.depth) t v name).run P w = .ok (f, v) w := by
  obtain ⟨i, m, pr, h1, h2, h3, h4, h5⟩ := mtab_ok h
  have hp : m.path.toList = [] := by simpa using h4
  show (method ((P.types.size + 99) + 1) t v name).run P w = _
  generalize P.types.size + 99 = n
  unfold mrOk at h5
  cases hu : P.underlying t with
  | none => rw [hu] at h5; cases h5
  | some d =>
    rw [hu] at h5
    have hr : ∀ wr, (receiverAt t (.val v) pr wr).run P w = .ok v w := by
      intro wr
      simp only [receiverAt, Sem.run_bind, run_underlying hu, Result.andThen]
      cases d <;> first
        | (have h5 : pr = true := h5
           subst h5
           rfl)
        | (have h5 : (!pr) = true := h5
           have h5 : pr = false := by simpa using h5
           subst h5
           rfl)
    simp only [method, Sem.run_bind, typeInfo, h1, h2, Result.andThen, Sem.run_pure, hp, follow, h3, hr, run_program]
theorem invK_true {tbl : List (Nat × Nat)} {v : AV} {vs : List AV} {cs : List AFr} {κ : ASt → R} (e : invK tb tbl v vs cs h nx κ = true) : ∃ t v' f, v = .ifc t v' ∧ (t, f) ∈ tbl ∧ enterK tb f (v' :: vs) false cs h nx κ = true := by
  cases v <;> first | (cases e; done) | skip
  rename_i t v'
  have e : fndF t (fun f => enterK tb f (v' :: vs) false cs h nx κ) tbl = true := e
  refine ⟨t, v', ?_⟩
  have go : ∀ tbl, fndF t (fun f => enterK tb f (v' :: vs) false cs h nx κ) tbl = true → ∃ f, (t, f) ∈ tbl ∧ enterK tb f (v' :: vs) false cs h nx κ = true := by
    intro tbl
    induction tbl with
    | nil => intro e; cases e
    | cons p tbl ih =>
      intro e
      obtain ⟨t', f⟩ := p
      have e : br (Nat.beq t' t) (enterK tb f (v' :: vs) false cs h nx κ) (fndF t (fun f => enterK tb f (v' :: vs) false cs h nx κ) tbl) = true := e
      rcases br_true e with ⟨h1, h2⟩ | ⟨h1, h2⟩
      · have h1 := Nat.eq_of_beq_eq_true h1
        subst h1
        exact ⟨f, List.mem_cons_self .., h2⟩
      · obtain ⟨f, h3, h4⟩ := ih h2
        exact ⟨f, List.mem_cons_of_mem _ h3, h4⟩
  obtain ⟨f, h1, h2⟩ := go tbl e
  exact ⟨f, rfl, h1, h2⟩
theorem args_ok {args : Array Operand} {xs : List X} (hx : trXs args = some xs) {en : Env} {κ : List AV → R} (e : dXs xs en κ = true) (hE : ER θ en a.tmps) : ∃ vs, κ vs = true ∧ Oks θ vs ∧ args.map a.eval = (toVs θ vs).toArray := by
  obtain ⟨vs, h1, _, h3⟩ := xs_ok hx en
  rw [h1] at e
  obtain ⟨h4, h5⟩ := h3 θ a hE
  refine ⟨vs, e, h4, ?_⟩
  apply Array.ext'
  simpa using h5
theorem no_defer {op : Op} {c : Call} (h : op = .call c) : ∀ c', op ≠ .defer c' := by
  intro c' h'; rw [h] at h'; cases h'
theorem no_recover (hC : CsR P θ f0 f kd cs Fs pd) {b : Frame} (hb : b.kind = if kd then .deferred else .normal) {k : List Item} : tryRecover (b.atR a k) (Fs ++ cs0) = none := by
  have hk : (b.atR a k).kind = if kd then .deferred else .normal := hb
  unfold tryRecover
  rw [hk]
  cases kd with
  | false => rfl
  | true =>
    cases cs with
    | nil => exact absurd hC.2.1 (by simp)
    | cons c cs =>
      obtain ⟨en, td, fr⟩ := c
      obtain ⟨F, Fs', q, pd', rfl, _, hw, _⟩ := hC
      simp only [List.cons_append, if_true, hw.1]
theorem arg_ok {x : X} {X : Operand} (hx : trX X = some x) {en : Env} {κ : AV → R} (e : dX x en κ = true) (hE : ER θ en a.tmps) : ∃ v, κ v = true ∧ VR θ v (a.eval X) := by
  obtain ⟨v, h1, h2⟩ := x_ok hx en
  rw [h1] at e
  exact ⟨v, e, h2 θ a hE⟩
theorem op_plain {nt : Nat} {dr : Bool} {b : Frame} {k : List Item} {cs' : List Frame} {g : Gd} {d : Ds} {I : I} (ho : ops[i]? = some o) (hg : trG ops o = some g) (hd : trD nt o = some d) (hI : trH P dr o.op = .op I) {K : Env → H → Nat → R}
    (e : dG g en (dI I en h nx fun v h nx => K (putE d v en) h nx) (K (putE d undef en) h nx) = true) (hR : HR P w0 pd θ h nx w) (hE : ER θ en a.tmps) (hs : nt ≤ a.tmps.size) (hn : nt ≤ 512) :
    ∃ θ' h' nx' w' en' a', θ.le θ' ∧ Steps P (lone (b.atR a (.inRegion ops (i :: rest) :: k)) cs' w) (lone (b.atR a' (.inRegion ops rest :: k)) cs' w') ∧ HR P w0 pd θ' h' nx' w' ∧ ER θ' en' a'.tmps ∧
      a'.tmps.size = a.tmps.size ∧ a'.defers = a.defers ∧ K en' h' nx' = true := by
  rcases gd_ok hg hE e with ⟨_, e1, hw⟩ | ⟨_, e1, hw⟩
  · obtain ⟨v, u, θ', h', nx', w', n, k1, k2, k3, k4, k5, k6⟩ := (cls_of hI).op en h nx _ w0 pd θ a w hE hR e1
    exact ⟨θ', h', nx', w', _, _, k1, step_value ho hw k5 k6, k3, er_put hd (hE.mono k1) hs hn k2, put_size, put_defers, k4⟩
  · exact ⟨θ, h, nx, w, _, _, .refl θ, step_unwanted ho hw, hR, er_put hd hE hs hn (vr_undef θ), put_size, put_defers, e1⟩
theorem act_ok {dr : Bool} (ht : TbOk tb P) (hx : Fx P θ f fn body kd rd df a td todo) (hR : HR P w0 (q ++ pd) θ h nx w) (hC : CsR P θ f0 f kd cs Fs pd) (hE : ER θ en a.tmps) {π : List Nat} {o : Oper} {g : Gd} {d : Ds} {r : DR} {hh : DH}
    (ho : ops[i]? = some o) (hg : trG ops o = some g) (hd : trD fn.ntmps o = some d) (hH : trH P dr o.op = hh) (hact : ∀ I, hh ≠ .op I) {enA : Env} (hag : Agree (rdH hh ++ rdG (some g)) enA en)
    (e : rgK tb (dR (putH g d hh r)) enA td (.mk f df kd rd) cs h nx κ = true)
    (hnext : ∀ θ' h' v u df' a', θ.le θ' → VR θ' v u → a'.tmps = (a.put o.dst u).tmps → Fx P θ' f fn body kd rd df' a' td todo → FR P θ' h' q (putE d v enA) (.rg (dR r) :: td) (.mk f df' kd rd) ((bF f kd (rd.map θ'.blk)).atR a' (.inRegion ops π :: todo))) :
    Goal P w0 cs0 f0 κ (lone ((bF f kd (rd.map θ.blk)).atR a (.inRegion ops (i :: π) :: todo)) (Fs ++ cs0) w) := by
  have hgd : ∀ A B, dG g enA A B = dG g en A B := dG_agree hag.right
  have on : ∀ {θ' : Th} {v : AV} {u : Value} {df' : List AD} {a' : Act} {w' : World}, θ.le θ' → VR θ' v u → a'.tmps = (a.put o.dst u).tmps → Fx P θ' f fn body kd rd df' a' td todo → HR P w0 (q ++ pd) θ' h nx w' →
      κ (.mk (putE d v enA) (.rg (dR r) :: td) (.mk f df' kd rd) cs h nx) = true → Goal P w0 cs0 f0 κ (lone ((bF f kd (rd.map θ.blk)).atR a' (.inRegion ops π :: todo)) (Fs ++ cs0) w') := by
    intro θ' v u df' a' w' hle hv ha hx' hR' e'
    have := hnext θ' h v u df' a' hle hv ha hx'
    rw [hx.rdm hle] at this
    exact ⟨_, _, .refl P _, .mk hR' this (hC.mono hle), e'⟩
  have unw : ∀ {e' : κ (.mk (putE d undef enA) (.rg (dR r) :: td) (.mk f df kd rd) cs h nx) = true}, Region.wanted o (yielded ops a.tmps) = false → Goal P w0 cs0 f0 κ (lone ((bF f kd (rd.map θ.blk)).atR a (.inRegion ops (i :: π) :: todo)) (Fs ++ cs0) w) := by
    intro e' hw
    exact (on (.refl θ) (vr_undef θ) rfl (hx.act put_size put_defers) hR e').of_steps (step_unwanted ho hw)
  have hwait : WaitR P θ q enA (.wt (dD d) (dR r) :: td) (.mk f df kd rd) ((bF f kd (rd.map θ.blk)).atR a (.inRegion ops (i :: π) :: todo)) false := by
    intro θ' h' v u hle hv
    refine ⟨d, rfl, ?_⟩
    have := hnext θ' h' v u df (a.put o.dst u) hle hv rfl ((hx.mono hle).act put_size put_defers)
    rw [hx.rdm hle] at this
    rw [Frame.finish_atR, ho]
    exact this
  have hCw : ∀ g, CsR P θ f0 g false (.mk enA (.wt (dD d) (dR r) :: td) (.mk f df kd rd) :: cs) ((bF f kd (rd.map θ.blk)).atR a (.inRegion ops (i :: π) :: todo) :: Fs) (q ++ pd) := fun _ => ⟨_, _, q, pd, rfl, rfl, hwait, hC⟩
  cases hh with
  | op I => exact absurd rfl (hact I)
  | bad =>
    have e : rgK tb (dR (.op .n .n .bad .nil)) enA td (.mk f df kd rd) cs h nx κ = true := e
    rw [rgK_op] at e
    cases e
  | call g' xs =>
    obtain ⟨c, hop, hc, hxs⟩ := trH_call hH
    have e : rgK tb (dR (.call g d g' xs r)) enA td (.mk f df kd rd) cs h nx κ = true := e
    rw [rgK_call, hgd] at e
    rcases gd_ok hg hE e with ⟨_, e1, hw⟩ | ⟨_, e1, hw⟩
    · rw [dXs_agree hag.left] at e1
      obtain ⟨vs, e2, h1, h2⟩ := args_ok hxs e1 hE
      obtain ⟨fn', body', hf', hgo⟩ := enter_ok ht e2 h1 hR (hCw _)
      refine hgo.of_steps (step_enter ho hw (no_defer hop) ?_)
      simp only [execOp, hop, resolve, hc, h2, Act.eval, Deferred.ofValue, Sem.run_bind, Sem.run_pure, Result.andThen, invoke]
      rw [run_callFunc hf']
      simp
    · exact unw (e' := e1) hw
  | calv x xs =>
    obtain ⟨c, t, hop, hc, htt, rfl, hxs⟩ := trH_calv hH
    have e : rgK tb (dR (.calv g d (.t t) xs r)) enA td (.mk f df kd rd) cs h nx κ = true := e
    rw [rgK_calv, hgd] at e
    rcases gd_ok hg hE e with ⟨_, e1, hw⟩ | ⟨_, e1, hw⟩
    · have hag1 : Agree (rdX (.t t)) enA en := hag.left.left
      have hag2 : Agree (xs.flatMap rdX) enA en := hag.left.right
      rw [dX_agree hag1] at e1
      have hX : trX (.tmp t) = some (.t t) := by simp [trX, htt]
      obtain ⟨v, e2, h1⟩ := arg_ok hX e1 hE
      rw [dXs_agree hag2] at e2
      obtain ⟨vs, e3, h2, h3⟩ := args_ok hxs e2 hE
      obtain ⟨d', n, k1, k2, k3⟩ := callv_ok ht e3 h1 h2 hR hCw
      have hrun : (execOp a.eval o).run P w = .ok n w := by
        simp only [execOp, hop, resolve, hc, h3, Sem.run_bind, k1, Result.andThen, k2]
      rcases k3 with ⟨g2, args, rfl, hgo⟩ | ⟨l, g2, tmps, x, y, rfl, hgo⟩
      · exact hgo.of_steps (step_enter ho hw (no_defer hop) hrun)
      · exact hgo.of_steps (step_round ho hw (no_defer hop) hrun)
    · exact unw (e' := e1) hw
  | inv tbl x xs =>
    obtain ⟨c, Y, name, hop, hc, hY, hxs, rfl⟩ := trH_inv hH
    have e : rgK tb (dR (.inv g d (mtab P name) x xs r)) enA td (.mk f df kd rd) cs h nx κ = true := e
    rw [rgK_inv, hgd] at e
    rcases gd_ok hg hE e with ⟨_, e1, hw⟩ | ⟨_, e1, hw⟩
    · have hag1 : Agree (rdX x) enA en := hag.left.left
      have hag2 : Agree (xs.flatMap rdX) enA en := hag.left.right
      rw [dX_agree hag1] at e1
      obtain ⟨v, e2, h1⟩ := arg_ok hY e1 hE
      rw [dXs_agree hag2] at e2
      obtain ⟨vs, e3, h2, h3⟩ := args_ok hxs e2 hE
      obtain ⟨t', v', f', rfl, hm, e4⟩ := invK_true e3
      have hv' : Ok θ v' := h1.1
      obtain ⟨fn', body', hf', hgo⟩ := enter_ok ht e4 (show Oks θ (v' :: vs) from ⟨hv', h2⟩) hR (hCw _)
      refine hgo.of_steps (step_enter ho hw (no_defer hop) ?_)
      have hX : a.eval Y = .iface t' (toV θ v') := h1.2
      have hcons : (#[Value.iface t' (toV θ v')] ++ (toVs θ vs).toArray)[0]? = some (.iface t' (toV θ v')) := by simp
      have htail : (#[Value.iface t' (toV θ v')] ++ (toVs θ vs).toArray).extract 1 (#[Value.iface t' (toV θ v')] ++ (toVs θ vs).toArray).size = (toVs θ vs).toArray := by
        apply Array.ext'
        simp
        rw [List.take_of_length_le (by simp)]
      have hall : #[toV θ v'] ++ (toVs θ vs).toArray = (toVs θ (v' :: vs)).toArray := by
        apply Array.ext'
        simp [toVs]
      simp only [execOp, hop, resolve, hc, h3, hX, Sem.run_bind, Sem.run_pure, Result.andThen, invoke, hcons, htail, callMethod, run_program, run_method hm, hall]
      rw [run_callFunc hf']
    · exact unw (e' := e1) hw
  | dfr x xs =>
    obtain ⟨c, hop, hxs, hcx⟩ := trH_dfr hH
    have e : rgK tb (dR (.dfr g d x xs r)) enA td (.mk f df kd rd) cs h nx κ = true := e
    rw [rgK_dfr, hgd] at e
    rcases gd_ok hg hE e with ⟨_, e1, hw⟩ | ⟨_, e1, hw⟩
    · cases rd with
      | some o => cases e1
      | none =>
        have e1 : dX x enA (fun v => dXs xs enA fun vs => match v with
          | .fn f2 caps => appK AV vs caps fun vs => κ (.mk (putE d undef enA) (.rg (dR r) :: td) (.mk f (.fn f2 vs :: df) kd none) cs h nx)
          | _ => false) = true := e1
        have hag1 : Agree (rdX x) enA en := hag.left.left
        have hag2 : Agree (xs.flatMap rdX) enA en := hag.left.right
        rw [dX_agree hag1] at e1
        obtain ⟨X, v, hcX, e2, h1⟩ : ∃ X v, c.callee = .value X ∧ (dXs xs enA fun vs => match v with
          | .fn f2 caps => appK AV vs caps fun vs => κ (.mk (putE d undef enA) (.rg (dR r) :: td) (.mk f (.fn f2 vs :: df) kd none) cs h nx)
          | _ => false) = true ∧ VR θ v (a.eval X) := by
          rcases hcx with ⟨g2, hc, rfl⟩ | ⟨t, hc, htt, rfl⟩
          · exact ⟨_, .fn g2 [], hc, e1, ⟨trivial, rfl⟩⟩
          · have hX : trX (.tmp t) = some (.t t) := by simp [trX, htt]
            obtain ⟨v, e2, h1⟩ := arg_ok hX e1 hE
            exact ⟨_, v, hc, e2, h1⟩
        rw [dXs_agree hag2] at e2
        obtain ⟨vs, e3, h2, h3⟩ := args_ok hxs e2 hE
        cases v <;> first | (cases e3; done) | skip
        rename_i f2 caps
        have e3 : appK AV vs caps (fun vs => κ (.mk (putE d undef enA) (.rg (dR r) :: td) (.mk f (.fn f2 vs :: df) kd none) cs h nx)) = true := e3
        rw [appK_eq] at e3
        have hall : Oks θ (vs ++ caps) := Oks_iff.2 fun x hx => (List.mem_append.1 hx).elim (Oks_iff.1 h2 x) (Oks_iff.1 h1.1 x)
        have hu : a.eval X = .func (.func f2) #[] (toVs θ caps).toArray := h1.2
        have hrun : (execOp a.eval o).run P w = .ok (.defer { target := .fn (.func f2) (toVs θ caps).toArray, args := #[] ++ (toVs θ vs).toArray }) w := by
          simp only [execOp, hop, resolve, hcX, h3, hu, Deferred.ofValue, Sem.run_bind, Sem.run_pure, Result.andThen]
        refine (on (v := undef) (u := Go.undef) (.refl θ) (vr_undef θ) ?_ ⟨hx.hf, hx.hr, ?_, ?_, hx.ht⟩ hR e3).of_steps (step_defer_op rfl ho hw hrun)
        · cases o.dst <;> rfl
        · rw [put_defers]
          exact ⟨_, _, _, rfl, rfl, by simp [toVs_map], hall, hx.hd⟩
        · rw [put_size]; exact hx.hs
    · exact unw (e' := e1) hw
  | rcv =>
    obtain ⟨c, hop, hc⟩ := trH_rcv hH
    have e : rgK tb (dR (.rcv g d r)) enA td (.mk f df kd rd) cs h nx κ = true := e
    rw [rgK_rcv, hgd] at e
    rcases gd_ok hg hE e with ⟨_, e1, hw⟩ | ⟨_, e1, hw⟩
    · cases rd with
      | some o => cases e1
      | none =>
        have e1 : κ (.mk (putE d .ni enA) (.rg (dR r) :: td) (.mk f df kd none) cs h nx) = true := e1
        have hrun : (execOp a.eval o).run P w = .ok .recover w := by
          simp only [execOp, hop, resolve, hc, Sem.run_bind, Sem.run_pure, Result.andThen, invoke, builtin]
        refine (on (v := .ni) (u := .nilIface) (.refl θ) ⟨trivial, rfl⟩ rfl (hx.act put_size put_defers) hR e1).of_steps (step_recover rfl ho hw (no_defer hop) hrun (no_recover hC rfl))
    · exact unw (e' := e1) hw
theorem reg_plain (ht : TbOk tb P) : ∀ (rest : List Nat) (θ : Th) (a : Act) (h : H) (nx : Nat) (w : World) (en : Env), (∀ i ∈ rest, i < ops.size) → Fx P θ f fn body kd rd df a td todo → HR P w0 pd θ h nx w → CsR P θ f0 f kd cs Fs pd → ER θ en a.tmps →
    rgK tb (dR (trOs P fn.ntmps ops (rest.filterMap (ops[·]?)))) en td (.mk f df kd rd) cs h nx κ = true → Goal P w0 cs0 f0 κ (lone ((bF f kd (rd.map θ.blk)).atR a (.inRegion ops rest :: todo)) (Fs ++ cs0) w) := by
  intro rest
  induction rest with
  | nil =>
    intro θ a h nx w en _ hx hR hC hE e
    exact (hx.goal hE hR hC e).of_steps (.one stepR_region_end)
  | cons i rest ih =>
    intro θ a h nx w en hi hx hR hC hE e
    obtain ⟨o, ho⟩ : ∃ o, ops[i]? = some o := ⟨_, Array.getElem?_eq_getElem (hi i (List.mem_cons_self ..))⟩
    rw [List.filterMap_cons, ho] at e
    have e : rgK tb (dR (match trG ops o, trD fn.ntmps o with | some g, some d => putH g d (trH P false o.op) (trOs P fn.ntmps ops (rest.filterMap (ops[·]?))) | _, _ => .op .n .n .bad .nil)) en td (.mk f df kd rd) cs h nx κ = true := e
    have hi' : ∀ j ∈ rest, j < ops.size := fun j hj => hi j (List.mem_cons_of_mem _ hj)
    split at e
    · rename_i g d hg hd
      cases hH : trH P false o.op with
      | op I =>
        rw [hH] at e
        have e : rgK tb (dR (.op g d I (trOs P fn.ntmps ops (rest.filterMap (ops[·]?))))) en td (.mk f df kd rd) cs h nx κ = true := e
        rw [rgK_op] at e
        obtain ⟨θ', h', nx', w', en', a', k1, k2, k3, k4, k5, k6, k7⟩ := op_plain (rest := rest) (b := bF f kd (rd.map θ.blk)) (k := todo) (cs' := Fs ++ cs0) ho hg hd hH (K := fun en h nx => rgK tb (dR (trOs P fn.ntmps ops (rest.filterMap (ops[·]?)))) en td (.mk f df kd rd) cs h nx κ) e hR hE hx.hs hx.hf.nt
        have := ih θ' a' h' nx' w' en' hi' ((hx.mono k1).act k5 k6) k3 (hC.mono k1) k4 k7
        rw [hx.rdm k1] at this
        exact this.of_steps k2
      | _ =>
        refine act_ok (q := []) (d := d) (r := trOs P fn.ntmps ops (rest.filterMap (ops[·]?))) ht hx hR hC hE ho hg hd rfl (fun I hI => by rw [hH] at hI; cases hI) (fun t _ => rfl) e ?_
        intro θ' h' v u df' a' hle hv ha hx'
        exact (hx'.more (.reg hi')).run h' (by rw [ha]; exact er_put hd (hE.mono hle) hx.hs hx.hf.nt hv)
    · rw [rgK_op] at e
      cases e
theorem dG_split {g : Gd} {en : Env} {A B : R} (e : dG g en A B = true) : (GSays g en true ∧ A = true) ∨ (GSays g en false ∧ B = true) := by
  cases g with
  | n => exact .inl ⟨.yes fun _ _ => rfl, e⟩
  | g t b =>
    have hdef : ∀ A B : R, dG (.g t b) en A B = (match getL AV 3 t en with | .b c => br (eqB c b) A B | .tu _ => B | _ => false) := by
      intro A B
      show getK AV (fun v => match v with | .b c => br (eqB c b) A B | .tu _ => B | _ => false) 3 t en = _
      rw [getK_eq]
    rw [hdef] at e
    cases hv : getL AV 3 t en <;> rw [hv] at e <;> first | (cases e; done) | skip
    · rename_i c
      have e : br (eqB c b) A B = true := e
      cases hc : eqB c b with
      | true => rw [hc] at e; exact .inl ⟨.yes fun A B => by rw [hdef, hv]; show br (eqB c b) A B = A; rw [hc]; rfl, e⟩
      | false => rw [hc] at e; exact .inr ⟨.no fun A B => by rw [hdef, hv]; show br (eqB c b) A B = B; rw [hc]; rfl, e⟩
    · exact .inr ⟨.no fun A B => by rw [hdef, hv], e⟩
theorem cls_op {nt : Nat} {c : Nat} (hc : c < 3) (ho : ops[i]? = some o) (h : clsAt P ops i = c) : ∃ I, trH P true o.op = .op I ∧ clsI I = c := by
  unfold clsAt cls at h
  rw [ho] at h
  have h : clsH (trH P true o.op) = c := h
  cases hH : trH P true o.op with
  | op I => rw [hH] at h; exact ⟨I, rfl, h⟩
  | _ => rw [hH] at h; have h : 3 = c := h; omega
theorem trO_eq {nt : Nat} {dr : Bool} {g : Gd} {d : Ds} {r : DR} (hg : trG ops o = some g) (hd : trD nt o = some d) : trO P nt dr ops o r = putH g d (trH P dr o.op) r := by
  unfold trO
  rw [hg, hd]
theorem dr_add {nt : Nat} {qs qs' : List (Nat × Nat × AO)} {L : List (Bool × Nat)} {A st π : List Nat} {D : Nat → Prop} {en enM : Env} {h h' : H} (hn : nt ≤ 512) (hD : Dr P nt ops θ h qs ((false, i) :: L) A st en enM a.tmps π D) (hcl : clsAt P ops i < 3) {g : Gd} {d : Ds}
    (hf : Fitd P nt ops i o g d) {v : AV} (hx : Ext h h') (hq : ∀ x ∈ qs, x ∈ qs')
    (hp : ∀ en' enM', (∀ t, d = .d t → getL AV 3 t en' = v) → EnI ops i (rdOf P ops o) en en' enM' → Pend P ops qs' st h' en' enM' i o g d) : Dr P nt ops θ h' qs' L (i :: A) st (putE d v en) enM a.tmps π D := by
  have hchk := hD.chk
  simp only [okL, Bool.and_eq_true] at hchk
  obtain ⟨hfit, hrest⟩ := hchk
  obtain ⟨_, hia, hdepA⟩ := fitL_ok hfit
  rw [if_pos hcl] at hrest
  have hnD : ¬ D i := fun h => hia (hD.sub i h)
  refine ⟨hrest, hD.lin, hD.shut, fun j hj => List.mem_cons_of_mem _ (hD.sub j hj), ⟨fun o' ho' e he hb => hdepA o' ho' e he hb, hD.ord⟩, ?_, hD.er, ?_, ?_⟩
  · intro j hj hc
    rcases List.mem_cons.1 hj with rfl | hj
    · omega
    · exact hD.act j hj hc
  · intro t ht hno
    have hne : o.dst ≠ some t := hno i o (List.mem_cons_self ..) hnD hf.ho
    rw [putE_ne ht hn hf.hd hne]
    exact hD.agr t ht fun j oj hj hnj hoj => hno j oj (List.mem_cons_of_mem _ hj) hnj hoj
  · intro j hj
    rcases List.mem_cons.1 hj with rfl | hj
    · refine ⟨o, g, d, hf, fun _ => hp _ _ (fun t ht => putE_same ht) fun t ht => ?_⟩
      by_cases hb : ∀ k ok, ops[k]? = some ok → ok.dst = some t → Waits ops j k
      · exact .inl ⟨hb, (putE_ne (hf.lt t ht) hn hf.hd fun e => hia ((hb j o hf.ho e).shut hD.ord.shut hdepA)).symm⟩
      · obtain ⟨k, ok, hk, hkt, hnw⟩ : ∃ k ok, ops[k]? = some ok ∧ ok.dst = some t ∧ ¬ Waits ops j k := Classical.byContradiction fun hc => hb fun k ok h1 h2 => Classical.byContradiction fun h3 => hc ⟨k, ok, h1, h2, h3⟩
        have hw := (hf.rd k ok t hk hkt ht).resolve_left hnw
        refine .inr ⟨⟨k, ok, hk, hkt, hw, hnw⟩, hD.agr t (hf.lt t ht) fun j' oj' hj' _ hoj' e => hia ?_⟩
        obtain ⟨o', g', d', hf', _⟩ := hD.pend j' hj'
        have ho' : o' = oj' := by have := hf'.ho; rw [hoj'] at this; injection this with this; exact this.symm
        subst ho'
        rcases hf'.ds k ok t hk hkt with h | h
        · subst h
          exact hw.shut hD.ord.shut (fun o ho e he hb => hD.ord.shut j' hj' o ho e he hb)
        · exact absurd e h
    · obtain ⟨o', g', d', hf', hp'⟩ := hD.pend j hj
      refine ⟨o', g', d', hf', fun hnd => ?_⟩
      have hji : j ≠ i := fun e => hia (e ▸ hj)
      have hw : ¬ Waits ops j i := fun h => hia (h.shut hD.ord.shut (fun o ho e he hb => hD.ord.shut j hj o ho e he hb))
      exact ((hp' hnd).put (v := v) hn hf' hf.ho hf.hd hji hw (fun _ _ _ _ _ _ _ => rfl)).ext hx (fun x hx _ => hq x hx)
theorem reg_draw (ht : TbOk tb P) : ∀ (L : List (Bool × Nat)) (θ : Th) (a : Act) (h : H) (nx : Nat) (w : World) (en enM : Env) (qs : List (Nat × Nat × AO)) (A st π : List Nat) (D : Nat → Prop),
    Dr P fn.ntmps ops θ h qs L A st en enM a.tmps π D → Fx P θ f fn body kd rd df a td todo → HR P w0 (qs.map (·.2) ++ pd) θ h nx w → CsR P θ f0 f kd cs Fs pd →
    rgK tb (dR (trDr P fn.ntmps ops L)) en td (.mk f df kd rd) cs h nx κ = true → Goal P w0 cs0 f0 κ (lone ((bF f kd (rd.map θ.blk)).atR a (.inRegion ops π :: todo)) (Fs ++ cs0) w) := by
  intro L
  induction L with
  | nil =>
    intro θ a h nx w en enM qs A st π D hD hx hR hC e
    have hchk := hD.chk
    simp only [okL, Bool.and_eq_true] at hchk
    have hst : st = [] := by cases st with | nil => rfl | cons x y => cases hchk.1
    subst hst
    have hall : ∀ i, i < ops.size → i ∈ A := fun i hi => (okL_cover hD.chk i hi).resolve_right (by simp)
    obtain ⟨θ', a', w', k1, k2, k3, k4, k5, k6⟩ := dr_end (b := bF f kd (rd.map θ.blk)) (k := todo) (cs := Fs ++ cs0) hall hx.hf.nt π θ qs enM a D w hD hR hx.hs
    have := ((hx.mono k1).act k5 k6).goal (κ := κ) (cs0 := cs0) k4 k3 (hC.mono k1) e
    rw [hx.rdm k1] at this
    exact this.of_steps k2
  | cons p L ih =>
    intro θ a h nx w en enM qs A st π D hD hx hR hC e
    obtain ⟨again, i⟩ := p
    cases again with
    | true =>
      have hchk := hD.chk
      simp only [okL, Bool.and_eq_true] at hchk
      obtain ⟨⟨⟨hiA, hc1⟩, hfb⟩, hrest⟩ := hchk
      have hiA := memb_iff.1 hiA
      have hc1 : clsAt P ops i = 1 := Nat.eq_of_beq_eq_true hc1
      obtain ⟨o, g, d, hf, hp⟩ := hD.pend i hiA
      obtain ⟨I, hI, hcI⟩ := cls_op (nt := 0) (by omega) hf.ho hc1
      have e : rgK tb (dR (match ops[i]? with
        | some o => (match trG ops o, o.dst with
          | some g, some d => if d < fn.ntmps then .rck g d (trI P true o.op) (trDr P fn.ntmps ops L) else .op .n .n .bad .nil
          | _, _ => .op .n .n .bad .nil)
        | none => .op .n .n .bad .nil)) en td (.mk f df kd rd) cs h nx κ = true := e
      rw [hf.ho] at e
      simp only [hf.hg] at e
      rcases trD_some hf.hd with ⟨h1, _⟩ | ⟨t, h1, h2, h3⟩
      · rw [h1] at e
        simp only [] at e
        rw [rgK_op] at e; cases e
      · rw [h1] at e
        simp only [h3, if_true] at e
        rw [rgK_rck, ← trH_op hI] at e
        have hcls := cls_of hI
        unfold Cls at hcls
        rw [hcI] at hcls
        have key : rgK tb (dR (trDr P fn.ntmps ops L)) en td (.mk f df kd rd) cs h nx κ = true ∧ (GSays g en true → ∃ v, getL AV 3 t en = v ∧ ∀ h', Ext h h' → ∀ nx' κ', dI I en h' nx' κ' = κ' v h' nx') := by
          rcases dG_split e with ⟨hg, e1⟩ | ⟨hg, e1⟩
          · obtain ⟨v, k1, _⟩ := hcls en h nx _ e1
            rw [k1 h (Ext.refl h)] at e1
            obtain ⟨hb, e2⟩ := br_t e1
            exact ⟨e2, fun _ => ⟨v, beqV_eq _ _ hb, k1⟩⟩
          · refine ⟨e1, fun hg' => ?_⟩
            cases hg with
            | no h4 => cases hg' with | yes h5 => exact absurd ((h4 true false).symm.trans (h5 true false)) (by simp)
        refine ih θ a h nx w en enM qs A _ π D ⟨hrest, hD.lin, hD.shut, hD.sub, hD.ord, hD.act, hD.er, hD.agr, ?_⟩ hx hR hC key.1
        intro j hj
        obtain ⟨oj, gj, dj, hfj, hpj⟩ := hD.pend j hj
        refine ⟨oj, gj, dj, hfj, fun hnd => ?_⟩
        obtain ⟨Ij, eni, hIj, hlt, hEi, hpj⟩ := hpj hnd
        refine ⟨Ij, eni, hIj, hlt, hEi, hpj.imp id fun ⟨p1, p2⟩ => ⟨p1, ?_⟩⟩
        rcases p2 with p2 | ⟨c, hs | p2⟩ | p2
        · exact .inl p2
        · refine .inr (.inl ⟨c, ?_⟩)
          by_cases hji : j = i
          · subst hji
            have e1 : oj = o := by have := hfj.ho; rw [hf.ho] at this; injection this with this; exact this.symm
            subst e1
            have e2 : gj = g := by have := hfj.hg; rw [hf.hg] at this; injection this with this; exact this.symm
            subst e2
            have e3 : Ij = I := by rw [hI] at hIj; injection hIj with hIj; exact hIj.symm
            subst e3
            have hagi : Agree (rdOf P ops oj) eni en := fun t' ht' => by
              rcases hEi t' ht' with ⟨_, h2⟩ | ⟨⟨k, ok, q1, q2, _, q4⟩, _⟩
              · exact h2
              · exact absurd (fitB_ok hfb hf.ho k ok t' q1 q2 ht') q4
            obtain ⟨b1, b2⟩ := rdOf_I hI hf.hg hagi
            obtain ⟨v, v1, v2⟩ := key.2 (p1.agree b2)
            refine .inr ⟨v, fun t' ht' => ?_, fun h' hx' nx' κ' => by rw [dI_agree b1]; exact v2 h' hx' nx' κ'⟩
            have e4 : dj = .d t := by have := hfj.hd; rw [hf.hd] at this; injection this with this; rw [← this, h2]
            rw [e4] at ht'; injection ht' with ht'; subst ht'; exact v1
          · refine .inl (List.mem_filter.2 ⟨hs, ?_⟩)
            cases hb : Nat.beq j i with
            | false => rfl
            | true => exact absurd (Nat.eq_of_beq_eq_true hb) hji
        · exact .inr (.inl ⟨c, .inr p2⟩)
        · exact .inr (.inr p2)
    | false =>
      have hchk := hD.chk
      simp only [okL, Bool.and_eq_true] at hchk
      obtain ⟨hfit, hrest⟩ := hchk
      obtain ⟨⟨o, g, d, hf⟩, hia, hdepA⟩ := fitL_ok hfit
      have e : rgK tb (dR (match ops[i]? with | some o => trO P fn.ntmps true ops o (trDr P fn.ntmps ops L) | none => .op .n .n .bad .nil)) en td (.mk f df kd rd) cs h nx κ = true := e
      rw [hf.ho] at e
      simp only [] at e
      rw [trO_eq hf.hg hf.hd] at e
      by_cases hcl : clsAt P ops i < 3
      · obtain ⟨I, hI, hcI⟩ := cls_op (nt := 0) hcl hf.ho rfl
        rw [hI] at e
        have e : rgK tb (dR (.op g d I (trDr P fn.ntmps ops L))) en td (.mk f df kd rd) cs h nx κ = true := e
        rw [rgK_op] at e
        have hlt : clsI I < 3 := by omega
        rcases dG_split e with ⟨hgs, e1⟩ | ⟨hgs, e1⟩
        · have hcls := cls_of hI
          unfold Cls at hcls
          match hcc : clsI I with
          | 0 =>
            rw [hcc] at hcls
            obtain ⟨v, k1, k2⟩ := hcls en h nx _ e1
            rw [k1] at e1
            refine ih θ a h nx w _ enM qs (i :: A) st π D (dr_add hx.hf.nt hD hcl hf (Ext.refl h) (fun x hx => hx) fun en' enM' hv hag => ?_) hx hR hC e1
            exact ⟨I, en, hI, hlt, hag, .inr ⟨hgs, .inl ⟨hcc, v, hv, fun h' nx' κ' => k1 h' nx' κ'⟩⟩⟩
          | 1 =>
            rw [hcc] at hcls
            obtain ⟨v, k1, k2⟩ := hcls en h nx _ e1
            rw [k1 h (Ext.refl h)] at e1
            refine ih θ a h nx w _ enM qs (i :: A) st π D (dr_add hx.hf.nt hD hcl hf (Ext.refl h) (fun x hx => hx) fun en' enM' hv hag => ?_) hx hR hC e1
            exact ⟨I, en, hI, hlt, hag, .inr ⟨hgs, .inr (.inl ⟨hcc, .inr ⟨v, hv, fun h' hx' nx' κ' => k1 h' hx' nx' κ'⟩⟩)⟩⟩
          | 2 =>
            rw [hcc] at hcls
            obtain ⟨a0, v, k0, k1, k2, k3, k4⟩ := hcls en h nx _ e1
            have hxt : Ext h (setO h nx a0) := hR.ext_new k1 a0
            refine ih θ a _ _ w _ enM ((i, nx, a0) :: qs) (i :: A) st π D (dr_add hx.hf.nt hD hcl hf hxt (fun x hx => List.mem_cons_of_mem _ hx) fun en' enM' hv hag => ?_) hx (hR.pended k1 a0) hC k2
            exact ⟨I, en, hI, hlt, hag, .inr ⟨hgs, .inr (.inr ⟨hcc, a0, v, nx, List.mem_cons_self .., hv, fun h' nx' κ' hn' => k3 h' nx' κ' hn'⟩)⟩⟩
          | n + 3 => omega
        · refine ih θ a h nx w _ enM qs (i :: A) st π D (dr_add hx.hf.nt hD hcl hf (Ext.refl h) (fun x hx => hx) fun en' enM' hv hag => ?_) hx hR hC e1
          exact ⟨I, en, hI, hlt, hag, .inl ⟨hgs, hv⟩⟩
      · rw [if_neg hcl] at hrest
        simp only [Bool.and_eq_true] at hrest
        obtain ⟨⟨hst, hall⟩, hok⟩ := hrest
        have hst : st = [] := by cases st with | nil => rfl | cons x y => cases hst
        subst hst
        have hisz : i < ops.size := (Array.getElem?_eq_some_iff.1 hf.ho).1
        have hlater : ∀ j, j < ops.size → j ∉ A → j = i ∨ Waits ops j i := by
          intro j hj hjA
          rcases okL_cover hok j hj with hm | hm
          · rcases List.mem_cons.1 hm with h1 | h1
            · exact .inl h1
            · exact absurd h1 hjA
          · have := List.all_eq_true.1 hall _ hm
            exact .inr (before_waits j i (by simpa using this))
        obtain ⟨π', θ1, qs1, enM1, a1, D1, w1, k1, k2, k3, k4, k5, k6⟩ := dr_catch (b := bF f kd (rd.map θ.blk)) (k := todo) (cs := Fs ++ cs0) hisz hia hdepA hlater hx.hf.nt π θ qs enM a D w hD hR hx.hs
        have hx1 := (hx.mono k1).act k5 k6
        have hC1 := hC.mono k1
        have hag := k4.agree hia hf
        have hact3 : 3 ≤ clsAt P ops i := by omega
        suffices Goal P w0 cs0 f0 κ (lone ((bF f kd (rd.map θ1.blk)).atR a1 (.inRegion ops (i :: π') :: todo)) (Fs ++ cs0) w1) by
          rw [hx.rdm k1] at this
          exact this.of_steps k2
        cases hH : trH P true o.op with
        | op I =>
          rw [hH] at e
          have e : rgK tb (dR (.op g d I (trDr P fn.ntmps ops L))) en td (.mk f df kd rd) cs h nx κ = true := e
          rw [rgK_op] at e
          obtain ⟨a1', a2'⟩ := rdOf_I hH hf.hg hag
          rw [dG_agree a2', dI_agree a1'] at e
          rcases gd_ok hf.hg k4.er e with ⟨_, e1, hw⟩ | ⟨_, e1, hw⟩
          · obtain ⟨v, u, θ2, h2, nx2, w2, n, m1, m2, m3, m4, m5, m6⟩ := (cls_of hH).op enM1 h nx _ w0 _ θ1 a1 w1 k4.er k3 e1
            obtain ⟨st', hD2⟩ := dr_act k4 hact3 hf hx1.hs hx.hf.nt m1 h2 m2
            have := ih θ2 (a1.put o.dst u) h2 nx2 w2 _ _ qs1 _ st' π' _ hD2 ((hx1.mono m1).act put_size put_defers) m3 (hC1.mono m1) m4
            rw [hx1.rdm m1] at this
            exact this.of_steps (step_value hf.ho hw m5 m6)
          · obtain ⟨st', hD2⟩ := dr_act k4 hact3 hf hx1.hs hx.hf.nt (.refl θ1) h (vr_undef θ1)
            exact (ih θ1 (a1.put o.dst Go.undef) h nx w1 _ _ qs1 _ st' π' _ hD2 (hx1.act put_size put_defers) k3 hC1 e1).of_steps (step_unwanted hf.ho hw)
        | _ =>
          have hagr : Agree (rdH (trH P true o.op) ++ rdG (some g)) en enM1 := by
            have := hag
            unfold rdOf at this
            rw [hf.hg] at this
            exact this
          refine act_ok (q := qs1.map (·.2)) (d := d) (r := trDr P fn.ntmps ops L) ht hx1 k3 hC1 k4.er hf.ho hf.hg hf.hd rfl (fun I hI => by rw [hH] at hI; cases hI) hagr e ?_
          intro θ' h' v u df' a' hle hv ha hx'
          obtain ⟨st', hD2⟩ := dr_act k4 hact3 hf hx1.hs hx.hf.nt hle h' hv
          exact .draw hx'.hf hx'.hr hx'.hd hx'.hs hx'.ht (by rw [ha]; exact hD2)
end
end Go.AM

namespace Go.AM
open Go
section
variable {P : Program} {θ θ' : Th} {f : Nat} {fn : Func} {body : Code} {kd : Bool} {rd : Option Nat} {df : List AD} {a a' : Act} {td : List T} {todo : List Item}
variable {w0 w : World} {cs0 : List Frame} {f0 : F0} {κ : ASt → R} {tb : Tb} {h : H} {nx : Nat} {cs : List AFr} {Fs : List Frame} {q pd : List (Nat × AO)} {en : Env}
variable {b : Frame} {k : List Item} {csM : List Frame}
theorem stepR_inScope {c : Code} : step P (lone (b.atR a (.inScope c :: k)) csM w) = .next (lone (b.atR a k) csM w) :=
  step_lone_go (by simp [stepG, stepG.exec, Frame.atR])
theorem stepR_scope {c : Code} : step P (lone (b.atR a (.code (.scope c) :: k)) csM w) = .next (lone (b.atR a (.code c :: .inScope c :: k)) csM w) :=
  step_lone_go (by simp [stepG, stepG.exec, Frame.atR])
theorem stepR_rangeFunc_to {g : Operand} {ps : Array Tmp} {assign body : Code} {l : Nat} {mark : List Deferred} {w₁ : World} {d : Deferred} {n : Next}
    (he : (Instr.enterLoop b.fn a.tmps ps assign body b.roundOf).run P w = .ok (l, mark) w₁)
    (hres : (Deferred.ofValue (a.eval g) #[.func (.yield l) #[] #[]]).run P w₁ = .ok d w₁) (hinv : (invoke d.target d.args).run P w₁ = .ok n w₁) :
    (∀ f args, n = .enter f args → step P (lone (b.atR a (.code (.rangeFunc g ps assign body) :: k)) csM w) = .next (lone (Frame.enter P f args .normal) (b.atR { a with defers := mark ++ a.defers } (.inRangeFunc l :: k) :: csM) w₁)) ∧
    (∀ l2 f tmps x y, n = .round l2 f tmps x y → step P (lone (b.atR a (.code (.rangeFunc g ps assign body) :: k)) csM w) = .next (lone (Frame.round l2 f tmps x y .normal) (b.atR { a with defers := mark ++ a.defers } (.inRangeFunc l :: k) :: csM) w₁)) := by
  have hev := Frame.eval_atR b { a with defers := mark ++ a.defers } (.inRangeFunc l :: k)
  simp only [Frame.atR] at hev
  have hres' : Sem.run P (resolve ({ tmps := a.tmps, defers := mark ++ a.defers } : Act).eval { callee := .value g, args := #[.const (.func (.yield l) #[] #[])], argTypes := #[] } 0) w₁ = .ok d w₁ := by
    have hev2 : ({ tmps := a.tmps, defers := mark ++ a.defers } : Act).eval g = a.eval g := by cases g <;> rfl
    have hev3 : (#[.const (.func (.yield l) #[] #[])] : Array Operand).map ({ tmps := a.tmps, defers := mark ++ a.defers } : Act).eval = #[.func (.yield l) #[] #[]] := by simp [Act.eval]
    simp only [resolve, hev2, hev3]
    exact hres
  constructor
  · rintro f args rfl
    exact step_lone_go (by simp [stepG, stepG.exec, Frame.atR, Sem.runT_eq, he, GStep.bare_after, stepG.apply, hev, Sem.run_bind, hres', hinv, Result.andThen])
  · rintro l2 f tmps x y rfl
    exact step_lone_go (by simp [stepG, stepG.exec, Frame.atR, Sem.runT_eq, he, GStep.bare_after, stepG.apply, hev, Sem.run_bind, hres', hinv, Result.andThen])
theorem run_enterLoop_inner {l : Nat} {r : Loop} (hl : w.heap[l]? = some (.loop r)) (fn : FuncId) (tmps : Array Value) (ps : Array Tmp) (assign body : Code) :
    (Instr.enterLoop fn tmps ps assign body (some l)).run P w = .ok (w.heap.size, []) (w.alloc (.loop { state := .ready, pending := none, fn, tmps, params := ps, assign, body, defers := r.defers })) := by
  unfold Instr.enterLoop
  simp only [Sem.run_bind, run_getLoop hl, run_newObj_alloc, Result.andThen, Sem.run_pure]
theorem step_collected {fr : Frame} {bk : Nat} {ags : Array Value} {ds calls : List Deferred} {w' : World} (hm : fr.mode = .returning) (hd : fr.defers = { target := .collected bk, args := ags } :: ds) (hr : (Instr.takeDeferred bk).run P w = .ok calls w') :
    step P (lone fr csM w) = .next (lone { fr with defers := calls ++ ds } csM w') :=
  step_lone_go (by simp [stepG, unwind, hm, hd, Sem.runT_eq, hr, GStep.bare_after])
theorem lp_upd (hR : HR P w0 pd θ h nx w) {o : Nat} (ho : θ.has o) {st : LoopState} {j : J} {fnn li : Nat} {en' : Env} {ds : Nat} (hb : obj h o = some (.lp st j fnn li en' ds)) :
    ∃ r : Loop, w.heap[θ.blk o]? = some (.loop r) ∧ r.state = st ∧ r.pending = jCode j ∧ ∀ st' j', HR P w0 pd θ (setO h o (.lp st' j' fnn li en' ds)) nx (w.putObj (θ.blk o) (.loop { r with state := st', pending := jCode j' })) := by
  obtain ⟨fu, code, ps, x, y, tmps, h1, h2, h3, h4, h5, h6, h7, h8⟩ := hR.obj_ ho hb
  refine ⟨_, h5, rfl, rfl, fun st' j' => ?_⟩
  exact map_upd hR ho hb rfl rfl rfl h5 ⟨fu, code, ps, x, y, tmps, h1, h2, h3, h4, heap_set h5, h6, h7, h8⟩
theorem endK_ok {o : Nat} {j : J} (e : endK o j false cs h nx κ = true) (hR : HR P w0 pd θ h nx w) (ho : θ.has o) (hC : CsR P θ f0 f false cs Fs pd) {m : Machine}
    (hs : ∀ c rest v w', (Instr.endRound (θ.blk o) (jCode j)).run P w = .ok v w' → Fs ++ cs0 = c :: rest → Steps P m (lone (c.finish v) rest w')) : Goal P w0 cs0 f0 κ m := by
  obtain ⟨ao, g1, g2⟩ := get_true e
  cases ao <;> first | (cases g2; done) | skip
  rename_i st j0 fnn li en' ds
  obtain ⟨r, h1, h2, h3, h4⟩ := lp_upd hR ho g1
  have hrun := run_endRound (P := P) (jCode j) h1
  have go : ∀ (st' : LoopState) (v : AV) (u : Value), VR θ v u → (Instr.endRound (θ.blk o) (jCode j)).run P w = .ok u (w.putObj (θ.blk o) (.loop { r with state := st', pending := jCode j })) →
      backR false v cs (setO h o (.lp st' j fnn li en' ds)) nx κ = true → Goal P w0 cs0 f0 κ m := by
    intro st' v u hv hr e'
    cases cs with
    | nil => cases e'
    | cons c cs =>
      have e' : backK false v (c :: cs) (setO h o (.lp st' j fnn li en' ds)) nx κ = true := e'
      refine back_ok e' (h4 st' j) hv hC (fun _ c' rest => ?_) (fun h => absurd h (by simp)) (fun hn => ?_)
      · by_cases hF : Fs = c' :: rest
        · exact .inl (hs c' (rest ++ cs0) u _ hr (by rw [hF]; rfl))
        · exact .inr hF
      · obtain ⟨en, td, fr⟩ := c
        obtain ⟨F, Fs', q, pd', rfl, _⟩ := hC
        cases hn
  cases j with
  | no =>
    have g2 : put o (.lp .ready .no fnn li en' ds) h (fun h => backR false (.b true) cs h nx κ) = true := g2
    rw [put_eq] at g2
    exact go .ready (.b true) (.bool true) ⟨trivial, rfl⟩ hrun g2
  | ret =>
    have g2 : put o (.lp .done .ret fnn li en' ds) h (fun h => backR false (.b false) cs h nx κ) = true := g2
    rw [put_eq] at g2
    exact go .done (.b false) (.bool false) ⟨trivial, rfl⟩ hrun g2
  | exit id =>
    have g2 : put o (.lp .done (.exit id) fnn li en' ds) h (fun h => backR false (.b false) cs h nx κ) = true := g2
    rw [put_eq] at g2
    exact go .done (.b false) (.bool false) ⟨trivial, rfl⟩ hrun g2
theorem leave_ok {j : J} (e : leaveK j en td (.mk f df kd rd) cs h nx κ = true) (hx : Fx P θ f fn body kd rd df a td todo) (hE : ER θ en a.tmps) (hR : HR P w0 pd θ h nx w) (hC : CsR P θ f0 f kd cs Fs pd) {k : List Item}
    (h1 : rd = none → Steps P (lone ((bF f kd (rd.map θ.blk)).atR a k) (Fs ++ cs0) w) (lone { (bF f kd (rd.map θ.blk)).atR a k with mode := .returning } (Fs ++ cs0) w))
    (h2 : ∀ o, rd = some o → ∀ c rest v w', (Instr.endRound (θ.blk o) (jCode j)).run P w = .ok v w' → Fs ++ cs0 = c :: rest → Steps P (lone ((bF f kd (rd.map θ.blk)).atR a k) (c :: rest) w) (lone (c.finish v) rest w')) :
    Goal P w0 cs0 f0 κ (lone ((bF f kd (rd.map θ.blk)).atR a k) (Fs ++ cs0) w) := by
  cases rd with
  | none =>
    have e : κ (.mk en [.rt] (.mk f df kd none) cs h nx) = true := e
    exact ⟨_, _, h1 rfl, .mk (q := []) hR (.ret hx.hf hx.hd hE) hC, e⟩
  | some o =>
    obtain ⟨ho, hk⟩ := hx.hr o rfl
    subst hk
    have e : endK o j false cs h nx κ = true := e
    refine endK_ok e hR ho hC (fun c rest v w' hr hF => ?_)
    rw [hF]
    exact h2 o rfl c rest v w' hr hF
theorem ret_ok (ht : TbOk tb P) (e : retK tb en [] (.mk f df kd none) cs h nx κ = true) (hf : FnC P f fn body) (hd : DsR θ df a.defers) (hE : ER θ en a.tmps) (hR : HR P w0 pd θ h nx w) (hC : CsR P θ f0 f kd cs Fs pd) {todo : List Item} :
    Goal P w0 cs0 f0 κ (lone { (bF f kd none).atR a todo with mode := .returning } (Fs ++ cs0) w) := by
  cases df with
  | nil =>
    have e : fnOf tb f (fun _ rs => rs en h fun v => backK kd v cs h nx κ) = true := e
    obtain ⟨c0, c, rs, h1, _, e1⟩ := ht.fn e
    obtain ⟨fn', body', hf', hu⟩ := trF_some h1
    injection hu with hu1 hu2
    subst hu2
    obtain ⟨v, u, e2, hv, hrun⟩ := res_ok hR hf' hE e1
    have hd : a.defers = [] := hd
    have hkind : ∀ {kd : Bool}, ({ (bF f kd none).atR a todo with mode := FrameMode.returning } : Frame).kind = if kd then .deferred else .normal := rfl
    refine back_ok e2 hR hv hC (fun hk c' rest => ?_) (fun hk c' rest hm => ?_) (fun hn => ?_)
    · subst hk
      by_cases hF : Fs = c' :: rest
      · refine .inl ?_
        rw [hF]
        exact .one (step_leave_returned ⟨rfl, hd, rfl, fn', hf'.hfn, hrun⟩)
      · exact .inr hF
    · subst hk
      by_cases hF : Fs = c' :: rest
      · refine .inl ?_
        rw [hF]
        have hst : step P (lone { (bF f true none).atR a todo with mode := .returning } (c' :: (rest ++ cs0)) w) = .next (lone { c' with mode := settle c'.mode } (rest ++ cs0) w) :=
          step_going_returned rfl ⟨rfl, hd, fn', hf'.hfn, hrun⟩
        have hc : ({ c' with mode := settle c'.mode } : Frame) = c' := by
          obtain ⟨x1, x2, x3, x4, x5, x6, x7⟩ := c'
          have hm : x5 = .returning := hm
          subst hm
          rfl
        rw [hc] at hst
        exact .one hst
      · exact .inr hF
    · subst hn
      cases cs with
      | nil =>
        obtain ⟨hf0, hk, _, hp, hle0⟩ := hC
        subst hk hp
        exact .fin hR hv ⟨rfl, hd, rfl, fn', hf'.hfn, hrun⟩ hf0 hle0
      | cons c cs =>
        obtain ⟨en, td, fr⟩ := c
        obtain ⟨F, Fs', q, pd', hF, _⟩ := hC
        cases hF
  | cons d df =>
    cases d with
    | fn f2 vs =>
      obtain ⟨d, cap, ds', h1, h2, h3, h4, h5⟩ := hd
      have e : enterK tb f2 vs true (.mk en [.rt] (.mk f df kd none) :: cs) h nx κ = true := e
      have hw : WaitR P θ [] en [.rt] (.mk f df kd none) { (bF f kd none).atR { a with defers := ds' } todo with mode := .returning } true :=
        ⟨rfl, fun θ' h' hle => .ret hf (h5.mono hle) (hE.mono hle)⟩
      obtain ⟨fn', body', hf', hg⟩ := enter_ok ht e h4 hR (Fs := { (bF f kd none).atR { a with defers := ds' } todo with mode := .returning } :: Fs) ⟨_, _, [], pd, rfl, rfl, hw, hC⟩
      refine hg.of_steps (.one ?_)
      refine step_defer (fr := { (bF f kd none).atR a todo with mode := .returning }) (by simp) h1 h2 ?_
      rw [h2]
      show (callFunc f2 (d.args ++ cap)).run P w = _
      rw [h3]
      exact run_callFunc hf' _
    | col o =>
      obtain ⟨ds', h1, h2, h3⟩ := hd
      obtain ⟨ao, g1, g2⟩ := get_true (show get o h (fun x => (match x with
        | .df true => put o (.df false) h fun h => κ (.mk en [.rt] (.mk f df kd none) cs h nx)
        | _ => false)) = true from e)
      cases ao <;> first | (cases g2; done) | skip
      rename_i c
      cases c <;> first | (cases g2; done) | skip
      have g2 : put o (.df false) h (fun h => κ (.mk en [.rt] (.mk f df kd none) cs h nx)) = true := g2
      rw [put_eq] at g2
      have hob : w.heap[θ.blk o]? = some (.deferred (some [])) := hR.obj_ h2 g1
      have hR' := map_upd (ob := .deferred none) hR h2 g1 (a' := .df false) rfl rfl rfl hob (heap_set hob)
      refine ⟨_, _, .one (step_collected (fr := { (bF f kd none).atR a todo with mode := .returning }) rfl h1 (run_takeDeferred hob)), .mk (q := []) hR' (FR.ret (a := { a with defers := ds' }) hf h3 hE) hC, g2⟩
end
end Go.AM

namespace Go.AM
open Go
section
variable {P : Program} {θ θ' : Th} {f : Nat} {fn : Func} {body : Code} {kd : Bool} {rd : Option Nat} {df : List AD} {a a' : Act} {td : List T} {todo : List Item}
variable {w0 w : World} {cs0 : List Frame} {f0 : F0} {κ : ASt → R} {tb : Tb} {h : H} {nx : Nat} {cs : List AFr} {Fs : List Frame} {q pd : List (Nat × AO)} {en : Env}
theorem rf_ok (ht : TbOk tb P) {g : Operand} {x : X} {li : Nat} {ps : Array Nat} {ca cb : Code} (hg : trX g = some x) (e : rfK tb (dX x) li en td (.mk f df kd rd) cs h nx κ = true) (hx : Fx P θ f fn body kd rd df a td todo) (hS : Sub f body li (.rangeFunc g ps ca cb))
    (hE : ER θ en a.tmps) (hR : HR P w0 pd θ h nx w) (hC : CsR P θ f0 f kd cs Fs pd) : Goal P w0 cs0 f0 κ (lone ((bF f kd (rd.map θ.blk)).atR a (.code (.rangeFunc g ps ca cb) :: todo)) (Fs ++ cs0) w) := by
  have hmem : (li, ps, ca, cb) ∈ rfs (liOf f) body := hS _ (by simp [rfs])
  have rest : ∀ {θ2 : Th} {h2 : H} {nx2 l : Nat} {w2 : World} {df2 : List AD} {mark : List Deferred} {v : AV}, θ.le θ2 → VR θ v (a.eval g) → HR P w0 pd θ2 h2 nx2 w2 → θ2.has l → DsR θ2 df2 (mark ++ a.defers) →
      (Instr.enterLoop f a.tmps ps ca cb (rd.map θ.blk)).run P w = .ok (θ2.blk l, mark) w2 → callvK tb v [.yl l] (.mk en (.irf l :: td) (.mk f df2 kd rd) :: cs) h2 nx2 κ = true →
      Goal P w0 cs0 f0 κ (lone ((bF f kd (rd.map θ.blk)).atR a (.code (.rangeFunc g ps ca cb) :: todo)) (Fs ++ cs0) w) := by
    intro θ2 h2 nx2 l w2 df2 mark v hle hv hR2 hl hd2 hrun e2
    have hx2 : Fx P θ2 f fn body kd rd df2 { a with defers := mark ++ a.defers } td todo := ⟨hx.hf, (hx.mono hle).hr, hd2, hx.hs, hx.ht.mono hle⟩
    have hw : WaitR P θ2 [] en (.irf l :: td) (.mk f df2 kd rd) ((bF f kd (rd.map θ.blk)).atR { a with defers := mark ++ a.defers } (.inRangeFunc (θ2.blk l) :: todo)) false := by
      intro θ' h' v u hle' hv
      show FR P θ' h' [] en (.erf l :: td) (.mk f df2 kd rd) _
      rw [finish_atR_inRangeFunc]
      have h3 := (((hx2.mono hle').more (t := .erf l) (i := .endRangeFunc (θ'.blk l)) (.erf (hle'.has l hl)))).run h' ((hE.mono hle).mono hle')
      rw [hx2.rdm hle', hx.rdm hle, hle'.blk l hl] at h3
      exact h3
    obtain ⟨d, n, k1, k2, k3⟩ := callv_ok ht e2 (hv.mono hle) (vs := [.yl l]) ⟨hl, trivial⟩ hR2 (fun _ => ⟨_, Fs, [], pd, rfl, rfl, hw, hC.mono hle⟩)
    have k1 : (Deferred.ofValue (a.eval g) #[.func (.yield (θ2.blk l)) #[] #[]]).run P w2 = .ok d w2 := k1
    obtain ⟨s1, s2⟩ := stepR_rangeFunc_to (b := bF f kd (rd.map θ.blk)) (k := todo) (csM := Fs ++ cs0) (g := g) hrun k1 k2
    rcases k3 with ⟨g2, args, hn, hgo⟩ | ⟨l2, g2, tmps, x2, y2, hn, hgo⟩
    · exact hgo.of_steps (.one (s1 _ _ hn))
    · exact hgo.of_steps (.one (s2 _ _ _ _ _ hn))
  have hsize := hR.size
  cases rd with
  | none =>
    have e : dX x en (fun v => newK (.df true) h nx fun r h nx => newK (.lp .ready .no f li en r) h nx fun l h nx => callvK tb v [.yl l] (.mk en (.irf l :: td) (.mk f (.col r :: df) kd none) :: cs) h nx κ) = true := e
    obtain ⟨v, e1, hv⟩ := arg_ok hg e hE
    obtain ⟨n1, e2⟩ := newK_true e1
    obtain ⟨n2, e3⟩ := newK_true e2
    obtain ⟨hR1, hl1⟩ := hR.new (w' := w.alloc (.deferred (some []))) (ob := .deferred (some [])) rfl ⟨rfl, rfl, rfl⟩ n1 (a := .df true) (bs := 0) (sz := 0) (es := 0) (by show _ = _; rw [Th.put_blk]; exact World.alloc_heap_new w _) (fun x hx => by cases hx)
    have hr1 : (θ.put nx w.heap.size 0 0 0).has nx := Th.put_has ..
    obtain ⟨hR2, hl2⟩ := hR1.new (w' := (w.alloc (.deferred (some []))).alloc (.loop { state := .ready, pending := none, fn := f, tmps := a.tmps, params := ps, assign := ca, body := cb, defers := w.heap.size })) rfl ⟨rfl, rfl, rfl⟩ n2
      (a := .lp .ready .no f li en nx) (bs := 0) (sz := 0) (es := 0) ⟨fn, body, ps, ca, cb, a.tmps, hx.hf.hfn, hx.hf.hbody, hx.hf.nrf, hmem, by
        rw [Th.put_blk, (Th.le_put (θ := θ.put nx w.heap.size 0 0 0) (fun hh => Nat.lt_irrefl _ (hR1.own _ hh).1) _ 0 0 0).blk nx hr1, Th.put_blk]
        exact World.alloc_heap_new _ _, (hE.mono hl1).mono (Th.le_put (fun hh => Nat.lt_irrefl _ (hR1.own _ hh).1) _ 0 0 0), hx.hs, .inr hr1⟩ (fun x hx => by cases hx)
    refine rest (hl1.trans hl2) hv hR2 (Th.put_has ..) (mark := [{ target := .collected w.heap.size, args := #[] }]) ?_ ?_ e3
    · refine ⟨a.defers, ?_, hl2.has nx hr1, hx.hd.mono (hl1.trans hl2)⟩
      rw [hl2.blk nx hr1, Th.put_blk]; rfl
    · have := run_enterLoop_outer (P := P) (w := w) f a.tmps ps ca cb
      rw [Th.put_blk]
      simp only [World.size_alloc]
      exact this
  | some l0 =>
    obtain ⟨hl0, hk⟩ := hx.hr l0 rfl
    have e : dX x en (fun v => get l0 h (asLp fun _ _ _ _ _ ds => newK (.lp .ready .no f li en ds) h nx fun l h nx => callvK tb v [.yl l] (.mk en (.irf l :: td) (.mk f df kd (some l0)) :: cs) h nx κ)) = true := e
    obtain ⟨v, e1, hv⟩ := arg_ok hg e hE
    obtain ⟨ao, g1, g2⟩ := get_true e1
    cases ao <;> first | (cases g2; done) | skip
    rename_i st j0 fnn li0 en' ds
    have g2 : newK (.lp .ready .no f li en ds) h nx (fun l h nx => callvK tb v [.yl l] (.mk en (.irf l :: td) (.mk f df kd (some l0)) :: cs) h nx κ) = true := g2
    obtain ⟨n1, e2⟩ := newK_true g2
    obtain ⟨fu, code, ps', x', y', tmps, h1, h2, h3, h4, h5, h6, h7, h8⟩ := hR.obj_ hl0 g1
    have hnx : ¬ θ.has nx := fun hh => Nat.lt_irrefl _ (hR.own _ hh).1
    obtain ⟨hR1, hl1⟩ := hR.new (w' := w.alloc (.loop { state := .ready, pending := none, fn := f, tmps := a.tmps, params := ps, assign := ca, body := cb, defers := θ.blk ds })) rfl ⟨rfl, rfl, rfl⟩ n1
      (a := .lp .ready .no f li en ds) (bs := 0) (sz := 0) (es := 0) ⟨fn, body, ps, ca, cb, a.tmps, hx.hf.hfn, hx.hf.hbody, hx.hf.nrf, hmem, by
        rw [Th.put_blk, (Th.le_put hnx _ 0 0 0).blk ds h8]
        exact World.alloc_heap_new _ _, hE.mono (Th.le_put hnx _ 0 0 0), hx.hs, .inr h8⟩ (fun x hx => by cases hx)
    refine rest hl1 hv hR1 (Th.put_has ..) (mark := []) (hx.hd.mono hl1) ?_ e2
    rw [Th.put_blk]
    exact run_enterLoop_inner h5 ..
theorem erf_ok {o : Nat} (e : erfK o en td (.mk f df kd rd) cs h nx κ = true) (hx : Fx P θ f fn body kd rd df a td todo) (ho : θ.has o) (hE : ER θ en a.tmps) (hR : HR P w0 pd θ h nx w) (hC : CsR P θ f0 f kd cs Fs pd) :
    Goal P w0 cs0 f0 κ (lone ((bF f kd (rd.map θ.blk)).atR a (.endRangeFunc (θ.blk o) :: todo)) (Fs ++ cs0) w) := by
  obtain ⟨ao, g1, g2⟩ := get_true e
  cases ao <;> first | (cases g2; done) | skip
  rename_i st j fnn li en' ds
  obtain ⟨r, h1, h2, h3, h4⟩ := lp_upd hR ho g1
  have g3 : st ≠ .busy ∧ put o (.lp .exhausted j fnn li en' ds) h (fun h => κ (.mk en (match j with | .no => td | .ret => .c .ret :: td | .exit id => .c (.exit id) :: td) (.mk f df kd rd) cs h nx)) = true := by
    cases st <;> first | (cases g2; done) | skip
    all_goals (refine ⟨by simp, ?_⟩; cases j <;> exact g2)
  obtain ⟨hb, g4⟩ := g3
  rw [put_eq] at g4
  have hrun := run_endLoop (P := P) h1 (by rw [h2]; exact hb)
  rw [h3] at hrun
  refine Goal.of_steps (.one (stepR_endRangeFunc hrun)) (Fx.goal (cs0 := cs0) (hx.tdm ?_) hE ?_ hC g4)
  · cases j with
    | no => exact hx.ht
    | ret => exact .cons (.code (k := 0) (c := .ret) (fun e he => by simp [rfs] at he) (.refl _)) hx.ht
    | exit id => exact .cons (.code (k := 0) (c := .exit id) (fun e he => by simp [rfs] at he) (.refl _)) hx.ht
  · exact h4 .exhausted j
theorem br_ok (e : brK en td (.mk f df kd rd) cs h nx κ = true) (hx : Fx P θ f fn body kd rd df a td todo) (hE : ER θ en a.tmps) (hR : HR P w0 pd θ h nx w) (hC : CsR P θ f0 f kd cs Fs pd) :
    Goal P w0 cs0 f0 κ (lone ((bF f kd (rd.map θ.blk)).atR a (.beginRound :: todo)) (Fs ++ cs0) w) := by
  cases rd with
  | none => cases e
  | some o =>
    obtain ⟨ho, _⟩ := hx.hr o rfl
    obtain ⟨ao, g1, g2⟩ := get_true (show get o h (asLp fun st j fn li en' ds => match st with
      | .ready => put o (.lp .busy j fn li en' ds) h fun h => κ (.mk en td (.mk f df kd (some o)) cs h nx)
      | _ => false) = true from e)
    cases ao <;> first | (cases g2; done) | skip
    rename_i st j fnn li en' ds
    cases st <;> first | (cases g2; done) | skip
    have g2 : put o (.lp .busy j fnn li en' ds) h (fun h => κ (.mk en td (.mk f df kd (some o)) cs h nx)) = true := g2
    rw [put_eq] at g2
    obtain ⟨r, h1, h2, h3, h4⟩ := lp_upd hR ho g1
    have h5 := h4 .busy j
    rw [← h3] at h5
    exact (hx.goal hE h5 hC g2).of_steps (.one (stepR_beginRound (b := bF f kd ((some o).map θ.blk)) rfl (run_beginRound h1 h2)))
theorem exitTo_ok {id : Nat} : ∀ {td : List T} {todo : List Item}, TdR P θ f fn.ntmps body td todo → (∀ k, exitTo' id td = some k → ∃ k', exitTo id todo = some k' ∧ TdR P θ f fn.ntmps body k k') ∧ (exitTo' id td = none → exitTo id todo = none) := by
  intro td todo h
  induction h with
  | nil => exact ⟨(fun k hk => by cases hk), fun _ => rfl⟩
  | @cons t i td todo h r ih =>
    cases h with
    | blk id' =>
      have e1 : exitTo' id (T.blk id' :: td) = @Bool.rec (fun _ => Option (List T)) (exitTo' id td) (some td) (Nat.beq id' id) := rfl
      have e2 : exitTo id (Item.inBlock id' :: todo) = if id' == id then some todo else exitTo id todo := rfl
      rw [e1, e2]
      cases hb : Nat.beq id' id with
      | true =>
        have : (id' == id) = true := beq_iff_eq.2 (Nat.eq_of_beq_eq_true hb)
        rw [this]
        exact ⟨(fun k hk => ⟨todo, rfl, by injection hk with hk; subst hk; exact r⟩), (fun hk => by cases hk)⟩
      | false =>
        have : (id' == id) = false := beq_eq_false_iff_ne.2 (fun e => by rw [e, Nat.beq_refl] at hb; cases hb)
        rw [this]
        exact ih
    | _ => exact ih
theorem range_get (ops : Array Oper) : (List.range ops.size).filterMap (ops[·]?) = ops.toList := by
  have : ∀ (l : List Oper) (p : List Oper), (List.range' p.length l.length).filterMap ((p ++ l)[·]?) = l := by
    intro l
    induction l with
    | nil => intro p; rfl
    | cons o l ih =>
      intro p
      rw [List.length_cons, List.range'_succ, List.filterMap_cons]
      have e1 : (p ++ o :: l)[p.length]? = some o := by simp
      rw [e1]
      have e2 := ih (p ++ [o])
      simp only [List.length_append, List.length_singleton, List.append_assoc, List.singleton_append] at e2
      rw [e2]
  have h := this ops.toList []
  simp only [List.length_nil, List.nil_append, Array.length_toList] at h
  rw [List.range_eq_range']
  simpa using h
def Tb.lv : Tb → Bool
  | .mk _ _ lv => lv
def Tb.lo : Tb → Tb
  | .mk f l _ => .mk f l false
theorem TbOk.low (ht : TbOk tb P) : TbOk tb.lo P := by
  obtain ⟨f, l, lv⟩ := tb
  exact ⟨fun e => ht.fn e, fun e => ht.lp e, fun e => ht.en e⟩
def LoOk (P : Program) (w0 : World) (cs0 : List Frame) (f0 : F0) (tb : Tb) : Prop := tb.lv = true → ∀ (n : Nat) (s : ASt) (m : Machine) (κ : ASt → R), StR P w0 cs0 f0 s m → run tb.lo n s κ = true → Goal P w0 cs0 f0 κ m
theorem spl_case (hlo : LoOk P w0 cs0 f0 tb) {c : Code} {k : Nat} {td : List T} {todo : List Item} {a : Act} {en : Env} {w : World} {C' : C} (hS : Sub f body k c) (hx : Fx P θ f fn body kd rd df a td todo) (hE : ER θ en a.tmps) (hR : HR P w0 pd θ h nx w) (hC : CsR P θ f0 f kd cs Fs pd)
    (hcr : CR C' (dC (trC P fn.ntmps k c))) (e : codeK tb C' en td (.mk f df kd rd) cs h nx κ = true) :
    (∃ C2, CRs C2 (dC (trC P fn.ntmps k c)) ∧ codeK tb C2 en td (.mk f df kd rd) cs h nx κ = true) ∨ Goal P w0 cs0 f0 κ (lone ((bF f kd (rd.map θ.blk)).atR a (.code c :: todo)) (Fs ++ cs0) w) := by
  rcases hcr.inv with ⟨s, rfl, hs⟩ | rfl | hc
  · have e : splK tb s (codeK tb (dC (trC P fn.ntmps k c))) en td (.mk f df kd rd) cs h nx κ = true := e
    obtain ⟨F, Lp, lv⟩ := tb
    cases lv with
    | false => exact .inl ⟨_, .refl _, e⟩
    | true =>
      obtain ⟨n, hn⟩ := hs F Lp en td (.mk f df kd rd) cs h nx κ e
      exact .inr (hlo rfl n _ _ κ (.mk (q := []) hR ((hx.more (.code hS (.refl _))).run h hE) hC) hn)
  · have e : false = true := e
    cases e
  · exact .inl ⟨_, hc, e⟩
theorem code_ok (ht : TbOk tb P) (hm : P.follows .mixedOrders = true) (hlo : LoOk P w0 cs0 f0 tb) : ∀ (c : Code) (k : Nat) (td : List T) (todo : List Item) (a : Act) (en : Env) (w : World) (C' : C), Sub f body k c → Fx P θ f fn body kd rd df a td todo → ER θ en a.tmps → HR P w0 pd θ h nx w → CsR P θ f0 f kd cs Fs pd →
    CR C' (dC (trC P fn.ntmps k c)) → codeK tb C' en td (.mk f df kd rd) cs h nx κ = true → Goal P w0 cs0 f0 κ (lone ((bF f kd (rd.map θ.blk)).atR a (.code c :: todo)) (Fs ++ cs0) w) := by
  intro c
  induction c with
  | skip =>
    intro k td todo a en w C' hS hx hE hR hC hcr e
    rcases spl_case hlo hS hx hE hR hC hcr e with ⟨C2, hc, e⟩ | hg
    rotate_left; exact hg
    have hc : C2 = dC (trC P fn.ntmps k .skip) := hc
    subst hc
    exact (hx.goal hE hR hC e).of_steps (.one stepR_skip)
  | label l =>
    intro k td todo a en w C' hS hx hE hR hC hcr e
    rcases spl_case hlo hS hx hE hR hC hcr e with ⟨C2, hc, e⟩ | hg
    rotate_left; exact hg
    have hc : C2 = dC (trC P fn.ntmps k (.label l)) := hc
    subst hc
    exact (hx.goal hE hR hC e).of_steps (.one stepR_label)
  | goto l =>
    intro k td todo a en w C' hS hx hE hR hC hcr e
    rcases spl_case hlo hS hx hE hR hC hcr e with ⟨C2, hc, e⟩ | hg
    rotate_left; exact hg
    have hc : C2 = C.bad := hc
    subst hc; cases e
  | refuse s =>
    intro k td todo a en w C' hS hx hE hR hC hcr e
    rcases spl_case hlo hS hx hE hR hC hcr e with ⟨C2, hc, e⟩ | hg
    rotate_left; exact hg
    have hc : C2 = C.bad := hc
    subst hc; cases e
  | region id ops draw =>
    intro k td todo a en w C' hS hx hE hR hC hcr e
    rcases spl_case hlo hS hx hE hR hC hcr e with ⟨C2, hc, e⟩ | hg
    rotate_left; exact hg
    have hc : C2 = C.rg (dR (trR P fn.ntmps ops draw)) := hc
    subst hc
    have e : rgK tb (dR (trR P fn.ntmps ops draw)) en td (.mk f df kd rd) cs h nx κ = true := e
    unfold trR at e
    cases draw with
    | false =>
      simp only [Bool.false_eq_true, if_false] at e
      rw [← range_get ops] at e
      exact (reg_plain ht _ θ a h nx w en (fun i hi => List.mem_range.1 hi) hx hR hC hE e).of_steps (.one stepR_region)
    | true =>
      simp only [if_true] at e
      split at e
      · rename_i l hl
        rw [frcL_eq] at e
        split at e
        · rename_i hok
          have hR' : HR P w0 (([] : List (Nat × Nat × AO)).map (·.2) ++ pd) θ h nx { w with drawn := w.drawn + 1 } := hR.same rfl ⟨rfl, rfl, rfl⟩
          refine (reg_draw (qs := []) ht l θ a h nx _ en en [] [] _ (fun _ => False) ⟨hok, lin_schedule hm _, fun i hi => hi.elim, fun i hi => hi.elim, trivial, (fun i hi => by cases hi), hE, fun t _ _ => rfl, (fun i hi => by cases hi)⟩ hx hR' hC e).of_steps (.one stepR_region_draw)
        · rw [rgK_op] at e; cases e
      · rw [rgK_op] at e; cases e
  | seq x y ihx ihy =>
    intro k td todo a en w C' hS hx hE hR hC hcr e
    rcases spl_case hlo hS hx hE hR hC hcr e with ⟨C2, hc, e⟩ | hg
    rotate_left; exact hg
    obtain ⟨c1, c2, rfl, h1, h2⟩ : ∃ a b, C2 = .seq a b ∧ CR a (dC (trC P fn.ntmps k x)) ∧ CR b (dC (trC P fn.ntmps (k + nrf x) y)) := hc
    exact (ihx k _ _ a en w c1 (fun e he => hS e (by simp only [rfs, List.mem_append]; exact .inl he)) (hx.more (.code (k := k + nrf x) (c := y) (fun e he => hS e (by simp only [rfs, List.mem_append]; exact .inr he)) h2)) hE hR hC h1 e).of_steps (.one stepR_seq)
  | cond g x y ihx ihy =>
    intro k td todo a en w C' hS hx hE hR hC hcr e
    rcases spl_case hlo hS hx hE hR hC hcr e with ⟨C2, hc, e⟩ | hg
    rotate_left; exact hg
    have hc : CRs C2 (dC (match trX g with | some z => .cond z (trC P fn.ntmps k x) (trC P fn.ntmps (k + nrf x) y) | none => .bad)) := hc
    split at hc
    · rename_i z hz
      obtain ⟨c1, c2, rfl, h1, h2⟩ : ∃ a b, C2 = .cond (dX z) a b ∧ CR a (dC (trC P fn.ntmps k x)) ∧ CR b (dC (trC P fn.ntmps (k + nrf x) y)) := hc
      have e : dX z en (asB fun c => br c (codeK tb c1 en td (.mk f df kd rd) cs h nx κ) (codeK tb c2 en td (.mk f df kd rd) cs h nx κ)) = true := e
      obtain ⟨v, e1, hv⟩ := arg_ok hz e hE
      obtain ⟨c, rfl, e2⟩ := asB_true e1
      have hc : a.eval g = .bool c := hv.2
      cases c with
      | true => exact (ihx k td todo a en w c1 (fun e he => hS e (by simp only [rfs, List.mem_append]; exact .inl he)) hx hE hR hC h1 e2).of_steps (.one (stepR_cond hc))
      | false => exact (ihy _ td todo a en w c2 (fun e he => hS e (by simp only [rfs, List.mem_append]; exact .inr he)) hx hE hR hC h2 e2).of_steps (.one (stepR_cond hc))
    · have hc : C2 = C.bad := hc
      subst hc; cases e
  | block id x ih =>
    intro k td todo a en w C' hS hx hE hR hC hcr e
    rcases spl_case hlo hS hx hE hR hC hcr e with ⟨C2, hc, e⟩ | hg
    rotate_left; exact hg
    obtain ⟨c1, rfl, h1⟩ : ∃ a, C2 = .blk id a ∧ CR a (dC (trC P fn.ntmps k x)) := hc
    exact (ih k _ _ a en w c1 hS (hx.more (.blk id)) hE hR hC h1 e).of_steps (.one stepR_block)
  | loop x ih =>
    intro k td todo a en w C' hS hx hE hR hC hcr e
    rcases spl_case hlo hS hx hE hR hC hcr e with ⟨C2, hc, e⟩ | hg
    rotate_left; exact hg
    obtain ⟨c1, rfl, h1⟩ : ∃ a, C2 = .loop a ∧ CR a (dC (trC P fn.ntmps k x)) := hc
    exact (ih k _ _ a en w c1 hS (hx.more (IR.lp (c := x) hS h1)) hE hR hC h1 e).of_steps (.one stepR_loop)
  | scope x ih =>
    intro k td todo a en w C' hS hx hE hR hC hcr e
    rcases spl_case hlo hS hx hE hR hC hcr e with ⟨C2, hc, e⟩ | hg
    rotate_left; exact hg
    obtain ⟨c1, rfl, h1⟩ : ∃ a, C2 = .sc a ∧ CR a (dC (trC P fn.ntmps k x)) := hc
    exact (ih k _ _ a en w c1 hS (hx.more (.sc x)) hE hR hC h1 e).of_steps (.one stepR_scope)
  | rangeFunc g ps x y =>
    intro k td todo a en w C' hS hx hE hR hC hcr e
    rcases spl_case hlo hS hx hE hR hC hcr e with ⟨C2, hc, e⟩ | hg
    rotate_left; exact hg
    have hc : CRs C2 (dC (match trX g with | some z => .rf z k | none => .bad)) := hc
    split at hc
    · rename_i z hz
      have hc : C2 = C.rf (dX z) k := hc
      subst hc
      exact rf_ok ht hz e hx hS hE hR hC
    · have hc : C2 = C.bad := hc
      subst hc; cases e
  | exit id =>
    intro k td todo a en w C' hS hx hE hR hC hcr e
    rcases spl_case hlo hS hx hE hR hC hcr e with ⟨C2, hc, e⟩ | hg
    rotate_left; exact hg
    have hc : C2 = C.exit id := hc
    subst hc
    have e : exitK id en td (.mk f df kd rd) cs h nx κ = true := e
    obtain ⟨x1, x2⟩ := exitTo_ok (id := id) hx.ht
    unfold exitK at e
    cases hex : exitTo' id td with
    | some k2 =>
      rw [hex] at e
      obtain ⟨k', y1, y2⟩ := x1 k2 hex
      exact ((hx.tdm y2).goal hE hR hC e).of_steps (.one (stepR_exit y1))
    | none =>
      rw [hex] at e
      have y1 := x2 hex
      cases rd with
      | none => cases e
      | some o =>
        obtain ⟨ho, hk⟩ := hx.hr o rfl
        subst hk
        have e : endK o (.exit id) false cs h nx κ = true := e
        refine endK_ok e hR ho hC (fun c rest v w' hr hF => ?_)
        rw [hF]
        exact .one (stepR_round_exit (b := bF f false ((some o).map θ.blk)) rfl rfl y1 hr)
  | ret =>
    intro k td todo a en w C' hS hx hE hR hC hcr e
    rcases spl_case hlo hS hx hE hR hC hcr e with ⟨C2, hc, e⟩ | hg
    rotate_left; exact hg
    have hc : C2 = C.ret := hc
    subst hc
    have e : leaveK .ret en td (.mk f df kd rd) cs h nx κ = true := e
    refine leave_ok e hx hE hR hC (fun hr => ?_) (fun o ho c rest v w' hr => fun hF => ?_)
    · subst hr; exact .one (stepR_ret (b := bF f kd ((none : Option Nat).map θ.blk)) rfl)
    · subst ho
      have hk := (hx.hr o rfl).2
      subst hk
      exact .one (stepR_round_ret (b := bF f false ((some o).map θ.blk)) rfl rfl hr)
theorem step_ok (ht : TbOk tb P) (hm : P.follows .mixedOrders = true) (hlo : LoOk P w0 cs0 f0 tb) {s : ASt} {m : Machine} (hs : StR P w0 cs0 f0 s m) (e : stepK tb s κ = true) : Goal P w0 cs0 f0 κ m := by
  cases hs with
  | fin hR hv hl hfn => cases e
  | @mk en td fr cs h nx θ q pd F Fs w hR hF hC =>
    have e : todoK tb td en fr cs h nx κ = true := e
    cases hF with
    | @run _ _ f df kd rd a todo fn body hf hr hd hs hE htd =>
      have hR : HR P w0 pd θ h nx w := hR
      cases htd with
      | nil =>
        have e : leaveK .no en [] (.mk f df kd rd) cs h nx κ = true := e
        have hx : Fx P θ f fn body kd rd df a [] [] := ⟨hf, hr, hd, hs, .nil⟩
        refine leave_ok e hx hE hR hC (fun hn => ?_) (fun o ho c rest v w' hrun => fun hF => ?_)
        · subst hn; exact .one (stepR_end (b := bF f kd ((none : Option Nat).map θ.blk)) rfl)
        · subst ho
          have hk := (hx.hr o rfl).2
          subst hk
          exact .one (stepR_round_end (b := bF f false ((some o).map θ.blk)) rfl rfl hrun)
      | @cons t i td todo hi htd =>
        have hx : Fx P θ f fn body kd rd df a td todo := ⟨hf, hr, hd, hs, htd⟩
        cases hi with
        | code hS hcr => exact code_ok ht hm hlo _ _ td todo a en w _ hS hx hE hR hC hcr e
        | reg hi => exact reg_plain ht _ θ a h nx w en hi hx hR hC hE e
        | blk id => exact (hx.goal hE hR hC e).of_steps (.one stepR_inBlock)
        | lp hS hcr => exact (code_ok ht hm hlo _ _ _ _ a en w _ hS (hx.more (IR.lp hS hcr)) hE hR hC hcr e).of_steps (.one stepR_inLoop)
        | sc c => exact (hx.goal hE hR hC e).of_steps (.one stepR_inScope)
        | irf ho => cases e
        | erf ho => exact erf_ok e hx ho hE hR hC
        | br => exact br_ok e hx hE hR hC
    | draw hf hr hd hs htd hD => exact reg_draw ht _ θ _ h nx w en _ _ _ _ _ _ hD ⟨hf, hr, hd, hs, htd⟩ hR hC e
    | ret hf hd hE => exact ret_ok ht e hf hd hE hR hC
theorem run_ok0 (ht : TbOk tb P) (hm : P.follows .mixedOrders = true) (hlo : LoOk P w0 cs0 f0 tb) : ∀ (n : Nat) (s : ASt) (m : Machine), StR P w0 cs0 f0 s m → run tb n s κ = true → Goal P w0 cs0 f0 κ m
  | 0, s, m, hs, e => ⟨s, m, .refl P m, hs, e⟩
  | n + 1, s, m, hs, e => by
    obtain ⟨s', m', h1, h2, h3⟩ := step_ok ht hm hlo (κ := fun s => run tb n s κ) hs e
    exact (run_ok0 ht hm hlo n s' m' h2 h3).of_steps h1
theorem lo_ok (ht : TbOk tb P) (hm : P.follows .mixedOrders = true) : LoOk P w0 cs0 f0 tb := by
  intro _ n s m κ hs e
  exact run_ok0 ht.low hm (by obtain ⟨f, l, lv⟩ := tb; intro h; cases h) n s m hs e
theorem runF_ok (ht : TbOk tb P) (hm : P.follows .mixedOrders = true) {κ : AV → H → Nat → R} : ∀ (n : Nat) (s : ASt) (m : Machine), StR P w0 cs0 f0 s m → runF tb n s κ = true →
    ∃ v h nx m', Steps P m m' ∧ StR P w0 cs0 f0 (.fin v h nx) m' ∧ κ v h nx = true
  | 0, s, m, hs, e => by cases e
  | n + 1, s, m, hs, e => by
    cases s with
    | mk en td fr cs h nx =>
      have e : stepK tb (.mk en td fr cs h nx) (fun s => runF tb n s κ) = true := e
      obtain ⟨s', m', h1, h2, h3⟩ := step_ok ht hm (lo_ok ht hm) hs e
      obtain ⟨v, h, nx, m2, k1, k2, k3⟩ := runF_ok ht hm n s' m' h2 h3
      exact ⟨v, h, nx, m2, h1.trans k1, k2, k3⟩
    | fin v h nx => exact ⟨v, h, nx, m, .refl P m, hs, e⟩
end
end Go.AM

namespace Go.AM
open Go
def mkT {α : Type} (n : Nat) : List (Nat × α) → L (Option α) n
  | [] => repL (Option α) none n
  | (i, x) :: l => setL (Option α) (some x) n i (mkT n l)
theorem mkT_get {α : Type} {n : Nat} {i : Nat} {x : α} (hi : i < 8 ^ n) : ∀ {l : List (Nat × α)}, (∀ p ∈ l, p.1 < 8 ^ n) → getL (Option α) n i (mkT n l) = some x → (i, x) ∈ l
  | [], _, h => by
    have : getL (Option α) n i (repL (Option α) none n) = some x := h
    rw [getL_repL] at this
    cases this
  | (j, y) :: l, hl, h => by
    have h : getL (Option α) n i (setL (Option α) (some y) n j (mkT n l)) = some x := h
    by_cases e : i = j
    · subst e
      rw [getL_setL] at h
      injection h with h; subst h
      exact List.mem_cons_self ..
    · rw [getL_setL_ne (some y) n _ (hl _ (List.mem_cons_self ..)) hi e] at h
      exact List.mem_cons_of_mem _ (mkT_get hi (fun p hp => hl p (List.mem_cons_of_mem _ hp)) h)
theorem getL_clip {α : Type} (n : Nat) (t : L α (n + 1)) {i : Nat} (hi : 8 ^ (n + 1) ≤ i) : getL α (n + 1) i t = getL α (n + 1) (7 * 8 ^ n + i % 8 ^ n) t := by
  have hp : 0 < 8 ^ n := Nat.pow_pos (by omega)
  show getL α n (i % 8 ^ n) (ch (i / 8 ^ n) (t : N8 (L α n))) = getL α n ((7 * 8 ^ n + i % 8 ^ n) % 8 ^ n) (ch ((7 * 8 ^ n + i % 8 ^ n) / 8 ^ n) (t : N8 (L α n)))
  have hlt := Nat.mod_lt i hp
  have e1 : (7 * 8 ^ n + i % 8 ^ n) % 8 ^ n = i % 8 ^ n := by
    rw [Nat.mul_comm, Nat.mul_add_mod, Nat.mod_mod]
  have e2 : (7 * 8 ^ n + i % 8 ^ n) / 8 ^ n = 7 := by
    rw [Nat.mul_comm, Nat.mul_add_div hp, Nat.div_eq_of_lt hlt]
  obtain ⟨k, e3⟩ : ∃ k, i / 8 ^ n = k + 7 := by
    have : 8 ≤ i / 8 ^ n := (Nat.le_div_iff_mul_le hp).2 (by rw [Nat.pow_succ] at hi; omega)
    exact ⟨i / 8 ^ n - 7, by omega⟩
  rw [e1, e2, e3]
  have : ∀ t : N8 (L α n), ch (k + 7) t = ch 7 t := by intro t; cases t; rfl
  exact congrArg _ (this _)
theorem mkT_at {α : Type} {n : Nat} {i : Nat} {x : α} {l : List (Nat × α)} (hl : ∀ p ∈ l, p.1 < 7 * 8 ^ n) (h : getL (Option α) (n + 1) i (mkT (n + 1) l) = some x) : (i, x) ∈ l := by
  have hp : 0 < 8 ^ n := Nat.pow_pos (by omega)
  have hl' : ∀ p ∈ l, p.1 < 8 ^ (n + 1) := fun p hp => by have := hl p hp; rw [Nat.pow_succ]; omega
  by_cases hi : i < 8 ^ (n + 1)
  · exact mkT_get hi hl' h
  · rw [getL_clip n _ (Nat.le_of_not_lt hi)] at h
    have hm := mkT_get (by have := Nat.mod_lt i hp; rw [Nat.pow_succ]; omega) hl' h
    have := hl _ hm
    simp only at this
    omega
def All {α : Type} (p : α → Prop) : List α → Prop
  | [] => True
  | x :: l => p x ∧ All p l
theorem All.mem {α : Type} {p : α → Prop} : ∀ {l : List α}, All p l → ∀ x ∈ l, p x
  | [], _, x, hx => by cases hx
  | y :: l, h, x, hx => by
    rcases List.mem_cons.1 hx with rfl | hx
    · exact h.1
    · exact h.2.mem x hx
theorem All.app {α : Type} {p : α → Prop} : ∀ {l r : List α}, All p l → All p r → All p (l ++ r)
  | [], _, _, h => h
  | _ :: _, _, h, h' => ⟨h.1, h.2.app h'⟩
def FOk (P : Program) : Nat × AFn → Prop
  | (f, .mk c r) => f < 3584 ∧ ∃ c0, trF P f = some (.mk c0 r) ∧ CR c c0
  | (f, .sp s) => f < 3584 ∧ (∃ fn body, FnC P f fn body) ∧ SpOk P f s
def LOk (P : Program) (p : Nat × ALp) : Prop := p.1 < 28672 ∧ trL P p.1 = some p.2
theorem fOk {P : Program} {f : Nat} {c : C} {r : ResF} (h1 : f < 3584) (h2 : trF P f = some (.mk c r)) : FOk P (f, .mk c r) := ⟨h1, c, h2, .refl _⟩
inductive PM where
  | all
  | cut
  | two (a b : PM)
  | one (a : PM)
noncomputable def prune (m : PM) : C → C :=
  @PM.rec (fun _ => C → C) (fun c => c) (fun _ => .bad)
    (fun _ _ ia ib c => @C.rec (fun _ => C) c (fun _ => c) (fun a b _ _ => .seq (ia a) (ib b)) (fun x a b _ _ => .cond x (ia a) (ib b)) (fun _ _ _ => c) (fun _ _ => c) (fun _ _ => c) (fun _ => c) (fun _ _ => c) c c (fun _ _ _ => c) c)
    (fun _ ia c => @C.rec (fun _ => C) c (fun _ => c) (fun _ _ _ _ => c) (fun _ _ _ _ _ => c) (fun id a _ => .blk id (ia a)) (fun a _ => .loop (ia a)) (fun _ _ => c) (fun _ => c) (fun a _ => .sc (ia a)) c c (fun _ _ _ => c) c) m
theorem prune_cr : ∀ (m : PM) (c : C), CR (prune m c) c
  | .all, c => .refl c
  | .cut, c => .bad c
  | .two m n, c => by
    cases c with
    | seq a b => exact .seq (prune_cr m a) (prune_cr n b)
    | cond x a b => exact .cond (prune_cr m a) (prune_cr n b)
    | _ => exact .refl _
  | .one m, c => by
    cases c with
    | blk id a => exact .blk (prune_cr m a)
    | loop a => exact .loop (prune_cr m a)
    | sc a => exact .sc (prune_cr m a)
    | _ => exact .refl _
noncomputable def pruneF (m : PM) (o : Option AFn) : Option AFn := @Option.rec AFn (fun _ => Option AFn) none (fun u => @AFn.rec (fun _ => Option AFn) (fun c r => some (.mk (prune m c) r)) (fun _ => none) u) o
theorem fOkP {P : Program} {f : Nat} {m : PM} {c : C} {r : ResF} (h1 : f < 3584) (h2 : pruneF m (trF P f) = some (.mk c r)) : FOk P (f, .mk c r) := by
  refine ⟨h1, ?_⟩
  cases ht : trF P f with
  | none => rw [ht] at h2; cases h2
  | some u =>
    rw [ht] at h2
    cases u with
    | sp s => cases h2
    | mk c0 r0 =>
      have h2 : some (AFn.mk (prune m c0) r0) = some (.mk c r) := h2
      injection h2 with h2
      injection h2 with h3 h4
      subst h3 h4
      exact ⟨c0, rfl, prune_cr m c0⟩
theorem tbOk {P : Program} {lv : Bool} {fl : List (Nat × AFn)} {ll : List (Nat × ALp)} (hf : All (FOk P) fl) (hl : All (LOk P) ll) : TbOk (.mk (mkT 4 fl) (mkT 5 ll) lv) P where
  fn := by
    intro f κ e
    have e : getK (Option AFn) (opt AFn fun u => match u with | .mk c r => κ c r | .sp _ => false) 4 f (mkT 4 fl) = true := e
    rw [getK_eq] at e
    cases hg : getL (Option AFn) 4 f (mkT 4 fl) with
    | none => rw [hg] at e; cases e
    | some u =>
      rw [hg] at e
      have hm := mkT_at (n := 3) (l := fl) (fun p hp => by have := hf.mem p hp; obtain ⟨g, u⟩ := p; cases u <;> exact this.1) hg
      have := hf.mem _ hm
      cases u with
      | mk c r => obtain ⟨c0, k1, k2⟩ := this.2; exact ⟨c0, c, r, k1, k2, e⟩
      | sp s => cases e
  en := by
    intro f κ σ e
    have e : getK (Option AFn) (opt AFn fun u => match u with | .mk c _ => κ c | .sp s => σ s) 4 f (mkT 4 fl) = true := e
    rw [getK_eq] at e
    cases hg : getL (Option AFn) 4 f (mkT 4 fl) with
    | none => rw [hg] at e; cases e
    | some u =>
      rw [hg] at e
      have hm := mkT_at (n := 3) (l := fl) (fun p hp => by have := hf.mem p hp; obtain ⟨g, u⟩ := p; cases u <;> exact this.1) hg
      have := hf.mem _ hm
      cases u with
      | mk c r => obtain ⟨c0, k1, k2⟩ := this.2; exact .inl ⟨c0, c, r, k1, k2, e⟩
      | sp s => obtain ⟨fn, body, hfc⟩ := this.2.1; exact .inr ⟨s, fn, body, hfc, this.2.2, e⟩
  lp := by
    intro l κ e
    have e : getK (Option ALp) (opt ALp fun u => match u with | .mk p a b => κ p a b) 5 l (mkT 5 ll) = true := e
    rw [getK_eq] at e
    cases hg : getL (Option ALp) 5 l (mkT 5 ll) with
    | none => rw [hg] at e; cases e
    | some u =>
      rw [hg] at e
      have hm := mkT_at (n := 4) (l := ll) (fun p hp => (hl.mem p hp).1) hg
      have := hl.mem _ hm
      cases u with
      | mk p a b => exact ⟨p, a, b, this.2, e⟩
def h0 : H := repL (Option AO) none 5
def θ0 (X : Nat → Value) (hX : ∀ n, (X n).oneCell' = true) : Th := { has := fun _ => False, blk := fun _ => 0, bas := fun _ => 0, siz := fun _ => 0, esz := fun _ => 0, ini := fun _ => False, ext := X, ext1 := hX }
theorem hr0 (P : Program) (w : World) {X : Nat → Value} (hX : ∀ n, (X n).oneCell' = true) : HR P w [] (θ0 X hX) h0 0 w where
  lim := by omega
  own o ho := ho.elim
  apart o o' a a' _ ho := ho.elim
  size := Nat.le_refl _
  kept b hb _ := rfl
  plain := ⟨rfl, rfl, rfl⟩
  pend o a h := by cases h
  nodup := List.nodup_nil
  fresh o a _ h := by
    have : obj h0 o = none := getL_repL _ 5 o
    rw [this] at h; cases h
noncomputable def goF (tb : Tb) (n f : Nat) (vs : List AV) (κ : AV → H → Nat → R) : R := enterK tb f vs false [] h0 0 fun s => runF tb n s κ
theorem go_calls {P : Program} {tb : Tb} (ht : TbOk tb P) (hm : P.follows .mixedOrders = true) {n f : Nat} {vs : List AV} {κ : AV → H → Nat → R} {X : Nat → Value} (hX : ∀ n, (X n).oneCell' = true) (hv : Oks (θ0 X hX) vs) (e : goF tb n f vs κ = true) (w : World) :
    Calls P f (toVs (θ0 X hX) vs).toArray w fun r w' => ∃ v h nx θ u, r = .returned u ∧ VR θ v u ∧ HR P w [] θ h nx w' ∧ κ v h nx = true ∧ (θ0 X hX).le θ := by
  intro cs0
  obtain ⟨_, _, _, s, m1, h1, h2, h3⟩ := enter_ok (f0 := ⟨f, [], θ0 X hX⟩) (cs0 := cs0) (κ := fun s => runF tb n s κ) ht e hv (hr0 P w hX) (Fs := []) ⟨rfl, rfl, rfl, rfl, .refl _⟩
  obtain ⟨v, h, nx, m2, k1, k2, k3⟩ := runF_ok ht hm n s m1 h2 h3
  cases k2 with
  | @fin _ u _ _ θ F w' hR hv' hl hfn hle =>
    exact ⟨.returned u, w', F, ⟨v, h, nx, θ, u, rfl, hv', hR, k3, hle⟩, h1.trans k1, hfn, hl⟩
theorem go_true {P : Program} {tb : Tb} (ht : TbOk tb P) (hm : P.follows .mixedOrders = true) {n f : Nat} {vs : List AV} {X : Nat → Value} (hX : ∀ n, (X n).oneCell' = true) (hv : Oks (θ0 X hX) vs)
    (e : goF tb n f vs (fun v _ _ => match v with | .b c => c | _ => false) = true) (w : World) :
    Calls P f (toVs (θ0 X hX) vs).toArray w fun r w' => r = .returned (.bool true) ∧ w'.os = w.os ∧ w'.tape = w.tape ∧ w'.output = w.output ∧ w.heap.size ≤ w'.heap.size ∧ ∀ b, b < w.heap.size → w'.heap[b]? = w.heap[b]? := by
  intro cs0
  obtain ⟨r, w', fr, ⟨v, h, nx, θ, u, rfl, hv, hR, hk, hle⟩, hc, hfn, hl⟩ := go_calls ht hm hX hv e w cs0
  refine ⟨_, w', fr, ⟨?_, hR.plain.1, hR.plain.2.1, hR.plain.2.2, hR.size, fun b hb => hR.kept b hb (by rw [hle.ini]; exact id)⟩, hc, hfn, hl⟩
  cases v <;> first | (cases hk; done) | skip
  rename_i c
  have hk : c = true := hk
  subst hk
  rw [hv.b]
theorem go_with {P : Program} {tb : Tb} (ht : TbOk tb P) (hm : P.follows .mixedOrders = true) {n f : Nat} {vs : List AV} {κ : AV → H → Nat → R} {θ1 : Th} {h1 : H} {nx1 : Nat} {w : World} (hR : HR P w [] θ1 h1 nx1 w) (hv : Oks θ1 vs)
    (e : enterK tb f vs false [] h1 nx1 (fun s => runF tb n s κ) = true) :
    Calls P f (toVs θ1 vs).toArray w fun r w' => ∃ v h nx θ u, r = .returned u ∧ VR θ v u ∧ HR P w [] θ h nx w' ∧ κ v h nx = true ∧ θ1.le θ := by
  intro cs0
  obtain ⟨_, _, _, s, m1, h1, h2, h3⟩ := enter_ok (f0 := ⟨f, [], θ1⟩) (cs0 := cs0) (κ := fun s => runF tb n s κ) ht e hv hR (Fs := []) ⟨rfl, rfl, rfl, rfl, .refl _⟩
  obtain ⟨v, h, nx, m2, k1, k2, k3⟩ := runF_ok ht hm n s m1 h2 h3
  cases k2 with
  | @fin _ u _ _ θ F w' hR' hv' hl hfn hle =>
    exact ⟨.returned u, w', F, ⟨v, h, nx, θ, u, rfl, hv', hR', k3, hle⟩, h1.trans k1, hfn, hl⟩
end Go.AM

namespace Go.AM
open Go
abbrev eg (t : Nat) (en : Env) : AV := getL AV 3 t en
abbrev es (t : Nat) (v : AV) (en : Env) : Env := setL AV v 3 t en
theorem xT_eq (t : Nat) (en : Env) (κ : AV → R) : xT t en κ = κ (eg t en) := getK_eq κ 3 t en
theorem dT_eq (t : Nat) (v : AV) (en : Env) (κ : Env → R) : dT t v en κ = κ (es t v en) := setK_eq v 3 t en κ
theorem eg_es {t u : Nat} (v : AV) (en : Env) (ht : t < 512) (hu : u < 512) : eg t (es u v en) = if t = u then v else eg t en := by
  by_cases h : t = u
  · subst h; rw [if_pos rfl]; exact getL_setL v 3 t en
  · rw [if_neg h]; exact getL_setL_ne v 3 en hu ht h
def esL : List (Nat × AV) → Env → Env
  | [], en => en
  | (t, v) :: l, en => esL l (es t v en)
end Go.AM

namespace Go.AM
open Go
noncomputable def kA (U : AV) (ok m i p j x ou q : Nat) (y z : Int) : List (Nat × AV) :=
  [(93, .b true), (94, .i 3 (.ofNat i)), (95, .p ok p), (96, .i 3 (.ofNat x)), (22, .i 3 (.ofNat i)), (23, .i 3 (.ofNat x)), (97, .i 3 (.ofNat i)), (98, U), (99, .i 3 (.ofNat m)), (100, .b true), (101, .b true),
   (102, .i 3 (.ofNat x)), (103, .b true), (104, .b true), (105, U), (106, .i 3 (.ofNat i)), (107, .p ou q), (108, .i 3 y), (109, .i 3 z), (110, .p ou q), (111, .i 3 (.ofNat j)), (92, .i 3 (.ofNat j))]
section
variable {en : Env} {h : H} {nx ok fk n ou fu m i x : Nat} {ck cu : Option Nat} {κ κx : Env → H → Nat → R}
structure KIn (en : Env) (ok fk n ou fu m i : Nat) (ck cu : Option Nat) : Prop where
  h90 : eg 90 en = .sl ok fk n ck
  h91 : eg 91 en = .i 3 (.ofNat n)
  h92 : eg 92 en = .i 3 (.ofNat i)
  h21 : eg 21 en = .sl ou fu m cu
end
end Go.AM

namespace Go.AM
open Go
section
variable {en : Env} {ok fk n ou fu m i x : Nat} {ck cu : Option Nat}
theorem KIn.add {p q : Nat} {y z : Int} (hk : KIn en ok fk n ou fu m i ck cu) {U : AV} {j : Nat} : KIn (esL (kA U ok m i p j x ou q y z) en) ok fk n ou fu m j ck cu := by
  have h90 : eg 90 en = _ := hk.h90
  have h91 : eg 91 en = _ := hk.h91
  have h21 : eg 21 en = _ := hk.h21
  constructor <;> simp only [kA, esL, eg_es, Nat.reduceLT, Nat.reduceEqDiff, if_true, if_false, reduceIte, h90, h91, h21]
end
end Go.AM

namespace Go.AM
open Go
section
variable (F : L (Option AFn) 4) (Lp : L (Option ALp) 5) (en : Env) (k : List T) (fr : Fr) (cs : List AFr) (h : H) (nx : Nat) (κ : ASt → R)
end
section
variable {en : Env} {h : H} {nx o off pl ou fu m n : Nat} {cu : Option Nat} {κ κx : Env → H → Nat → R}
def SegTo (h : H) (nx : Nat) (s : SegF) (en en' : Env) : Prop := ∀ κ : Env → H → Nat → R, s en h nx κ = κ en' h nx
theorem gG_b {g : Nat} {want c : Bool} {en : Env} (hg : eg g en = .b c) (A B : R) : gG (xT g) want en A B = br (eqB c want) A B := by
  show xT g en (fun v => match v with | .b c => br (eqB c want) A B | .tu _ => B | _ => false) = _
  rw [xT_eq, hg]
theorem SegTo.yes {h : H} {nx t g : Nat} {want c : Bool} {en en' : Env} {f : OpF} {r : SegF} {v : AV} (_ : t < 512) (hg : eg g en = .b c) (hc : eqB c want = true) (hf : ∀ κ : K, f en h nx κ = κ v h nx) (hr : SegTo h nx r (es t v en) en') :
    SegTo h nx (sOpG (gG (xT g) want) (dT t) f r) en en' := by
  intro κ
  show gG (xT g) want en (f en h nx fun v h nx => dT t v en fun en => r en h nx κ) (dT t undef en fun en => r en h nx κ) = _
  rw [gG_b hg, hc, brT, hf, dT_eq]; exact hr κ
theorem SegTo.no {h : H} {nx t g : Nat} {want c : Bool} {en en' : Env} {f : OpF} {r : SegF} (_ : t < 512) (hg : eg g en = .b c) (hc : eqB c want = false) (hr : SegTo h nx r (es t undef en) en') : SegTo h nx (sOpG (gG (xT g) want) (dT t) f r) en en' := by
  intro κ
  show gG (xT g) want en (f en h nx fun v h nx => dT t v en fun en => r en h nx κ) (dT t undef en fun en => r en h nx κ) = _
  rw [gG_b hg, hc, brF, dT_eq]; exact hr κ
end
end Go.AM

namespace Go.AM
open Go
noncomputable def G0 : XF := fun en κ => g80 (L AV 2) (g80 (L AV 1) (g80 (L AV 0) κ)) en
noncomputable def S0 : DsF := fun v => s80 (L AV 2) (s80 (L AV 1) (s80 (L AV 0) (sB AV v)))
noncomputable def G1 : XF := fun en κ => g80 (L AV 2) (g80 (L AV 1) (g81 (L AV 0) κ)) en
noncomputable def S1 : DsF := fun v => s80 (L AV 2) (s80 (L AV 1) (s81 (L AV 0) (sB AV v)))
noncomputable def G2 : XF := fun en κ => g80 (L AV 2) (g80 (L AV 1) (g82 (L AV 0) κ)) en
noncomputable def S2 : DsF := fun v => s80 (L AV 2) (s80 (L AV 1) (s82 (L AV 0) (sB AV v)))
noncomputable def G3 : XF := fun en κ => g80 (L AV 2) (g80 (L AV 1) (g83 (L AV 0) κ)) en
noncomputable def S3 : DsF := fun v => s80 (L AV 2) (s80 (L AV 1) (s83 (L AV 0) (sB AV v)))
noncomputable def G4 : XF := fun en κ => g80 (L AV 2) (g80 (L AV 1) (g84 (L AV 0) κ)) en
noncomputable def S4 : DsF := fun v => s80 (L AV 2) (s80 (L AV 1) (s84 (L AV 0) (sB AV v)))
noncomputable def G5 : XF := fun en κ => g80 (L AV 2) (g80 (L AV 1) (g85 (L AV 0) κ)) en
noncomputable def S5 : DsF := fun v => s80 (L AV 2) (s80 (L AV 1) (s85 (L AV 0) (sB AV v)))
noncomputable def G6 : XF := fun en κ => g80 (L AV 2) (g80 (L AV 1) (g86 (L AV 0) κ)) en
noncomputable def S6 : DsF := fun v => s80 (L AV 2) (s80 (L AV 1) (s86 (L AV 0) (sB AV v)))
noncomputable def G7 : XF := fun en κ => g80 (L AV 2) (g80 (L AV 1) (g87 (L AV 0) κ)) en
noncomputable def S7 : DsF := fun v => s80 (L AV 2) (s80 (L AV 1) (s87 (L AV 0) (sB AV v)))
noncomputable def G8 : XF := fun en κ => g80 (L AV 2) (g81 (L AV 1) (g80 (L AV 0) κ)) en
noncomputable def S8 : DsF := fun v => s80 (L AV 2) (s81 (L AV 1) (s80 (L AV 0) (sB AV v)))
noncomputable def G9 : XF := fun en κ => g80 (L AV 2) (g81 (L AV 1) (g81 (L AV 0) κ)) en
noncomputable def S9 : DsF := fun v => s80 (L AV 2) (s81 (L AV 1) (s81 (L AV 0) (sB AV v)))
noncomputable def G10 : XF := fun en κ => g80 (L AV 2) (g81 (L AV 1) (g82 (L AV 0) κ)) en
noncomputable def S10 : DsF := fun v => s80 (L AV 2) (s81 (L AV 1) (s82 (L AV 0) (sB AV v)))
noncomputable def G11 : XF := fun en κ => g80 (L AV 2) (g81 (L AV 1) (g83 (L AV 0) κ)) en
noncomputable def S11 : DsF := fun v => s80 (L AV 2) (s81 (L AV 1) (s83 (L AV 0) (sB AV v)))
noncomputable def G12 : XF := fun en κ => g80 (L AV 2) (g81 (L AV 1) (g84 (L AV 0) κ)) en
noncomputable def S12 : DsF := fun v => s80 (L AV 2) (s81 (L AV 1) (s84 (L AV 0) (sB AV v)))
noncomputable def G13 : XF := fun en κ => g80 (L AV 2) (g81 (L AV 1) (g85 (L AV 0) κ)) en
noncomputable def S13 : DsF := fun v => s80 (L AV 2) (s81 (L AV 1) (s85 (L AV 0) (sB AV v)))
noncomputable def G14 : XF := fun en κ => g80 (L AV 2) (g81 (L AV 1) (g86 (L AV 0) κ)) en
noncomputable def S14 : DsF := fun v => s80 (L AV 2) (s81 (L AV 1) (s86 (L AV 0) (sB AV v)))
noncomputable def G15 : XF := fun en κ => g80 (L AV 2) (g81 (L AV 1) (g87 (L AV 0) κ)) en
noncomputable def S15 : DsF := fun v => s80 (L AV 2) (s81 (L AV 1) (s87 (L AV 0) (sB AV v)))
noncomputable def G16 : XF := fun en κ => g80 (L AV 2) (g82 (L AV 1) (g80 (L AV 0) κ)) en
noncomputable def S16 : DsF := fun v => s80 (L AV 2) (s82 (L AV 1) (s80 (L AV 0) (sB AV v)))
noncomputable def G17 : XF := fun en κ => g80 (L AV 2) (g82 (L AV 1) (g81 (L AV 0) κ)) en
noncomputable def S17 : DsF := fun v => s80 (L AV 2) (s82 (L AV 1) (s81 (L AV 0) (sB AV v)))
noncomputable def G18 : XF := fun en κ => g80 (L AV 2) (g82 (L AV 1) (g82 (L AV 0) κ)) en
noncomputable def S18 : DsF := fun v => s80 (L AV 2) (s82 (L AV 1) (s82 (L AV 0) (sB AV v)))
noncomputable def G19 : XF := fun en κ => g80 (L AV 2) (g82 (L AV 1) (g83 (L AV 0) κ)) en
noncomputable def S19 : DsF := fun v => s80 (L AV 2) (s82 (L AV 1) (s83 (L AV 0) (sB AV v)))
noncomputable def G20 : XF := fun en κ => g80 (L AV 2) (g82 (L AV 1) (g84 (L AV 0) κ)) en
noncomputable def S20 : DsF := fun v => s80 (L AV 2) (s82 (L AV 1) (s84 (L AV 0) (sB AV v)))
noncomputable def G21 : XF := fun en κ => g80 (L AV 2) (g82 (L AV 1) (g85 (L AV 0) κ)) en
noncomputable def S21 : DsF := fun v => s80 (L AV 2) (s82 (L AV 1) (s85 (L AV 0) (sB AV v)))
noncomputable def G22 : XF := fun en κ => g80 (L AV 2) (g82 (L AV 1) (g86 (L AV 0) κ)) en
noncomputable def S22 : DsF := fun v => s80 (L AV 2) (s82 (L AV 1) (s86 (L AV 0) (sB AV v)))
noncomputable def G23 : XF := fun en κ => g80 (L AV 2) (g82 (L AV 1) (g87 (L AV 0) κ)) en
noncomputable def S23 : DsF := fun v => s80 (L AV 2) (s82 (L AV 1) (s87 (L AV 0) (sB AV v)))
noncomputable def G24 : XF := fun en κ => g80 (L AV 2) (g83 (L AV 1) (g80 (L AV 0) κ)) en
noncomputable def S24 : DsF := fun v => s80 (L AV 2) (s83 (L AV 1) (s80 (L AV 0) (sB AV v)))
noncomputable def G25 : XF := fun en κ => g80 (L AV 2) (g83 (L AV 1) (g81 (L AV 0) κ)) en
noncomputable def S25 : DsF := fun v => s80 (L AV 2) (s83 (L AV 1) (s81 (L AV 0) (sB AV v)))
noncomputable def G26 : XF := fun en κ => g80 (L AV 2) (g83 (L AV 1) (g82 (L AV 0) κ)) en
noncomputable def S26 : DsF := fun v => s80 (L AV 2) (s83 (L AV 1) (s82 (L AV 0) (sB AV v)))
noncomputable def G27 : XF := fun en κ => g80 (L AV 2) (g83 (L AV 1) (g83 (L AV 0) κ)) en
noncomputable def S27 : DsF := fun v => s80 (L AV 2) (s83 (L AV 1) (s83 (L AV 0) (sB AV v)))
noncomputable def G28 : XF := fun en κ => g80 (L AV 2) (g83 (L AV 1) (g84 (L AV 0) κ)) en
noncomputable def S28 : DsF := fun v => s80 (L AV 2) (s83 (L AV 1) (s84 (L AV 0) (sB AV v)))
noncomputable def G29 : XF := fun en κ => g80 (L AV 2) (g83 (L AV 1) (g85 (L AV 0) κ)) en
noncomputable def S29 : DsF := fun v => s80 (L AV 2) (s83 (L AV 1) (s85 (L AV 0) (sB AV v)))
noncomputable def G30 : XF := fun en κ => g80 (L AV 2) (g83 (L AV 1) (g86 (L AV 0) κ)) en
noncomputable def S30 : DsF := fun v => s80 (L AV 2) (s83 (L AV 1) (s86 (L AV 0) (sB AV v)))
noncomputable def G31 : XF := fun en κ => g80 (L AV 2) (g83 (L AV 1) (g87 (L AV 0) κ)) en
noncomputable def S31 : DsF := fun v => s80 (L AV 2) (s83 (L AV 1) (s87 (L AV 0) (sB AV v)))
noncomputable def G32 : XF := fun en κ => g80 (L AV 2) (g84 (L AV 1) (g80 (L AV 0) κ)) en
noncomputable def S32 : DsF := fun v => s80 (L AV 2) (s84 (L AV 1) (s80 (L AV 0) (sB AV v)))
noncomputable def G33 : XF := fun en κ => g80 (L AV 2) (g84 (L AV 1) (g81 (L AV 0) κ)) en
noncomputable def S33 : DsF := fun v => s80 (L AV 2) (s84 (L AV 1) (s81 (L AV 0) (sB AV v)))
noncomputable def G34 : XF := fun en κ => g80 (L AV 2) (g84 (L AV 1) (g82 (L AV 0) κ)) en
noncomputable def S34 : DsF := fun v => s80 (L AV 2) (s84 (L AV 1) (s82 (L AV 0) (sB AV v)))
noncomputable def G35 : XF := fun en κ => g80 (L AV 2) (g84 (L AV 1) (g83 (L AV 0) κ)) en
noncomputable def S35 : DsF := fun v => s80 (L AV 2) (s84 (L AV 1) (s83 (L AV 0) (sB AV v)))
noncomputable def G36 : XF := fun en κ => g80 (L AV 2) (g84 (L AV 1) (g84 (L AV 0) κ)) en
noncomputable def S36 : DsF := fun v => s80 (L AV 2) (s84 (L AV 1) (s84 (L AV 0) (sB AV v)))
noncomputable def G37 : XF := fun en κ => g80 (L AV 2) (g84 (L AV 1) (g85 (L AV 0) κ)) en
noncomputable def S37 : DsF := fun v => s80 (L AV 2) (s84 (L AV 1) (s85 (L AV 0) (sB AV v)))
noncomputable def G38 : XF := fun en κ => g80 (L AV 2) (g84 (L AV 1) (g86 (L AV 0) κ)) en
noncomputable def S38 : DsF := fun v => s80 (L AV 2) (s84 (L AV 1) (s86 (L AV 0) (sB AV v)))
noncomputable def G39 : XF := fun en κ => g80 (L AV 2) (g84 (L AV 1) (g87 (L AV 0) κ)) en
noncomputable def S39 : DsF := fun v => s80 (L AV 2) (s84 (L AV 1) (s87 (L AV 0) (sB AV v)))
noncomputable def G40 : XF := fun en κ => g80 (L AV 2) (g85 (L AV 1) (g80 (L AV 0) κ)) en
noncomputable def S40 : DsF := fun v => s80 (L AV 2) (s85 (L AV 1) (s80 (L AV 0) (sB AV v)))
noncomputable def G41 : XF := fun en κ => g80 (L AV 2) (g85 (L AV 1) (g81 (L AV 0) κ)) en
noncomputable def S41 : DsF := fun v => s80 (L AV 2) (s85 (L AV 1) (s81 (L AV 0) (sB AV v)))
noncomputable def G42 : XF := fun en κ => g80 (L AV 2) (g85 (L AV 1) (g82 (L AV 0) κ)) en
noncomputable def S42 : DsF := fun v => s80 (L AV 2) (s85 (L AV 1) (s82 (L AV 0) (sB AV v)))
noncomputable def G43 : XF := fun en κ => g80 (L AV 2) (g85 (L AV 1) (g83 (L AV 0) κ)) en
noncomputable def S43 : DsF := fun v => s80 (L AV 2) (s85 (L AV 1) (s83 (L AV 0) (sB AV v)))
noncomputable def G44 : XF := fun en κ => g80 (L AV 2) (g85 (L AV 1) (g84 (L AV 0) κ)) en
noncomputable def S44 : DsF := fun v => s80 (L AV 2) (s85 (L AV 1) (s84 (L AV 0) (sB AV v)))
noncomputable def G45 : XF := fun en κ => g80 (L AV 2) (g85 (L AV 1) (g85 (L AV 0) κ)) en
noncomputable def S45 : DsF := fun v => s80 (L AV 2) (s85 (L AV 1) (s85 (L AV 0) (sB AV v)))
noncomputable def G46 : XF := fun en κ => g80 (L AV 2) (g85 (L AV 1) (g86 (L AV 0) κ)) en
noncomputable def S46 : DsF := fun v => s80 (L AV 2) (s85 (L AV 1) (s86 (L AV 0) (sB AV v)))
noncomputable def G47 : XF := fun en κ => g80 (L AV 2) (g85 (L AV 1) (g87 (L AV 0) κ)) en
noncomputable def S47 : DsF := fun v => s80 (L AV 2) (s85 (L AV 1) (s87 (L AV 0) (sB AV v)))
noncomputable def G48 : XF := fun en κ => g80 (L AV 2) (g86 (L AV 1) (g80 (L AV 0) κ)) en
noncomputable def S48 : DsF := fun v => s80 (L AV 2) (s86 (L AV 1) (s80 (L AV 0) (sB AV v)))
noncomputable def G49 : XF := fun en κ => g80 (L AV 2) (g86 (L AV 1) (g81 (L AV 0) κ)) en
noncomputable def S49 : DsF := fun v => s80 (L AV 2) (s86 (L AV 1) (s81 (L AV 0) (sB AV v)))
noncomputable def G50 : XF := fun en κ => g80 (L AV 2) (g86 (L AV 1) (g82 (L AV 0) κ)) en
noncomputable def S50 : DsF := fun v => s80 (L AV 2) (s86 (L AV 1) (s82 (L AV 0) (sB AV v)))
noncomputable def G51 : XF := fun en κ => g80 (L AV 2) (g86 (L AV 1) (g83 (L AV 0) κ)) en
noncomputable def S51 : DsF := fun v => s80 (L AV 2) (s86 (L AV 1) (s83 (L AV 0) (sB AV v)))
noncomputable def G52 : XF := fun en κ => g80 (L AV 2) (g86 (L AV 1) (g84 (L AV 0) κ)) en
noncomputable def S52 : DsF := fun v => s80 (L AV 2) (s86 (L AV 1) (s84 (L AV 0) (sB AV v)))
noncomputable def G53 : XF := fun en κ => g80 (L AV 2) (g86 (L AV 1) (g85 (L AV 0) κ)) en
noncomputable def S53 : DsF := fun v => s80 (L AV 2) (s86 (L AV 1) (s85 (L AV 0) (sB AV v)))
noncomputable def G54 : XF := fun en κ => g80 (L AV 2) (g86 (L AV 1) (g86 (L AV 0) κ)) en
noncomputable def S54 : DsF := fun v => s80 (L AV 2) (s86 (L AV 1) (s86 (L AV 0) (sB AV v)))
noncomputable def G55 : XF := fun en κ => g80 (L AV 2) (g86 (L AV 1) (g87 (L AV 0) κ)) en
noncomputable def S55 : DsF := fun v => s80 (L AV 2) (s86 (L AV 1) (s87 (L AV 0) (sB AV v)))
noncomputable def G56 : XF := fun en κ => g80 (L AV 2) (g87 (L AV 1) (g80 (L AV 0) κ)) en
noncomputable def S56 : DsF := fun v => s80 (L AV 2) (s87 (L AV 1) (s80 (L AV 0) (sB AV v)))
noncomputable def G57 : XF := fun en κ => g80 (L AV 2) (g87 (L AV 1) (g81 (L AV 0) κ)) en
noncomputable def S57 : DsF := fun v => s80 (L AV 2) (s87 (L AV 1) (s81 (L AV 0) (sB AV v)))
noncomputable def G58 : XF := fun en κ => g80 (L AV 2) (g87 (L AV 1) (g82 (L AV 0) κ)) en
noncomputable def S58 : DsF := fun v => s80 (L AV 2) (s87 (L AV 1) (s82 (L AV 0) (sB AV v)))
noncomputable def G59 : XF := fun en κ => g80 (L AV 2) (g87 (L AV 1) (g83 (L AV 0) κ)) en
noncomputable def S59 : DsF := fun v => s80 (L AV 2) (s87 (L AV 1) (s83 (L AV 0) (sB AV v)))
noncomputable def G60 : XF := fun en κ => g80 (L AV 2) (g87 (L AV 1) (g84 (L AV 0) κ)) en
noncomputable def S60 : DsF := fun v => s80 (L AV 2) (s87 (L AV 1) (s84 (L AV 0) (sB AV v)))
noncomputable def G61 : XF := fun en κ => g80 (L AV 2) (g87 (L AV 1) (g85 (L AV 0) κ)) en
noncomputable def S61 : DsF := fun v => s80 (L AV 2) (s87 (L AV 1) (s85 (L AV 0) (sB AV v)))
noncomputable def G62 : XF := fun en κ => g80 (L AV 2) (g87 (L AV 1) (g86 (L AV 0) κ)) en
noncomputable def S62 : DsF := fun v => s80 (L AV 2) (s87 (L AV 1) (s86 (L AV 0) (sB AV v)))
noncomputable def G63 : XF := fun en κ => g80 (L AV 2) (g87 (L AV 1) (g87 (L AV 0) κ)) en
noncomputable def S63 : DsF := fun v => s80 (L AV 2) (s87 (L AV 1) (s87 (L AV 0) (sB AV v)))
noncomputable def G64 : XF := fun en κ => g81 (L AV 2) (g80 (L AV 1) (g80 (L AV 0) κ)) en
noncomputable def S64 : DsF := fun v => s81 (L AV 2) (s80 (L AV 1) (s80 (L AV 0) (sB AV v)))
noncomputable def G65 : XF := fun en κ => g81 (L AV 2) (g80 (L AV 1) (g81 (L AV 0) κ)) en
noncomputable def S65 : DsF := fun v => s81 (L AV 2) (s80 (L AV 1) (s81 (L AV 0) (sB AV v)))
noncomputable def G66 : XF := fun en κ => g81 (L AV 2) (g80 (L AV 1) (g82 (L AV 0) κ)) en
noncomputable def S66 : DsF := fun v => s81 (L AV 2) (s80 (L AV 1) (s82 (L AV 0) (sB AV v)))
noncomputable def G67 : XF := fun en κ => g81 (L AV 2) (g80 (L AV 1) (g83 (L AV 0) κ)) en
noncomputable def S67 : DsF := fun v => s81 (L AV 2) (s80 (L AV 1) (s83 (L AV 0) (sB AV v)))
noncomputable def G68 : XF := fun en κ => g81 (L AV 2) (g80 (L AV 1) (g84 (L AV 0) κ)) en
noncomputable def S68 : DsF := fun v => s81 (L AV 2) (s80 (L AV 1) (s84 (L AV 0) (sB AV v)))
noncomputable def G69 : XF := fun en κ => g81 (L AV 2) (g80 (L AV 1) (g85 (L AV 0) κ)) en
noncomputable def S69 : DsF := fun v => s81 (L AV 2) (s80 (L AV 1) (s85 (L AV 0) (sB AV v)))
noncomputable def G70 : XF := fun en κ => g81 (L AV 2) (g80 (L AV 1) (g86 (L AV 0) κ)) en
noncomputable def S70 : DsF := fun v => s81 (L AV 2) (s80 (L AV 1) (s86 (L AV 0) (sB AV v)))
noncomputable def G71 : XF := fun en κ => g81 (L AV 2) (g80 (L AV 1) (g87 (L AV 0) κ)) en
noncomputable def S71 : DsF := fun v => s81 (L AV 2) (s80 (L AV 1) (s87 (L AV 0) (sB AV v)))
noncomputable def G72 : XF := fun en κ => g81 (L AV 2) (g81 (L AV 1) (g80 (L AV 0) κ)) en
noncomputable def S72 : DsF := fun v => s81 (L AV 2) (s81 (L AV 1) (s80 (L AV 0) (sB AV v)))
noncomputable def G73 : XF := fun en κ => g81 (L AV 2) (g81 (L AV 1) (g81 (L AV 0) κ)) en
noncomputable def S73 : DsF := fun v => s81 (L AV 2) (s81 (L AV 1) (s81 (L AV 0) (sB AV v)))
noncomputable def G74 : XF := fun en κ => g81 (L AV 2) (g81 (L AV 1) (g82 (L AV 0) κ)) en
noncomputable def S74 : DsF := fun v => s81 (L AV 2) (s81 (L AV 1) (s82 (L AV 0) (sB AV v)))
noncomputable def G75 : XF := fun en κ => g81 (L AV 2) (g81 (L AV 1) (g83 (L AV 0) κ)) en
noncomputable def S75 : DsF := fun v => s81 (L AV 2) (s81 (L AV 1) (s83 (L AV 0) (sB AV v)))
noncomputable def G76 : XF := fun en κ => g81 (L AV 2) (g81 (L AV 1) (g84 (L AV 0) κ)) en
noncomputable def S76 : DsF := fun v => s81 (L AV 2) (s81 (L AV 1) (s84 (L AV 0) (sB AV v)))
noncomputable def G77 : XF := fun en κ => g81 (L AV 2) (g81 (L AV 1) (g85 (L AV 0) κ)) en
noncomputable def S77 : DsF := fun v => s81 (L AV 2) (s81 (L AV 1) (s85 (L AV 0) (sB AV v)))
noncomputable def G78 : XF := fun en κ => g81 (L AV 2) (g81 (L AV 1) (g86 (L AV 0) κ)) en
noncomputable def S78 : DsF := fun v => s81 (L AV 2) (s81 (L AV 1) (s86 (L AV 0) (sB AV v)))
noncomputable def G79 : XF := fun en κ => g81 (L AV 2) (g81 (L AV 1) (g87 (L AV 0) κ)) en
noncomputable def S79 : DsF := fun v => s81 (L AV 2) (s81 (L AV 1) (s87 (L AV 0) (sB AV v)))
noncomputable def G80 : XF := fun en κ => g81 (L AV 2) (g82 (L AV 1) (g80 (L AV 0) κ)) en
noncomputable def S80 : DsF := fun v => s81 (L AV 2) (s82 (L AV 1) (s80 (L AV 0) (sB AV v)))
noncomputable def G81 : XF := fun en κ => g81 (L AV 2) (g82 (L AV 1) (g81 (L AV 0) κ)) en
noncomputable def S81 : DsF := fun v => s81 (L AV 2) (s82 (L AV 1) (s81 (L AV 0) (sB AV v)))
noncomputable def G82 : XF := fun en κ => g81 (L AV 2) (g82 (L AV 1) (g82 (L AV 0) κ)) en
noncomputable def S82 : DsF := fun v => s81 (L AV 2) (s82 (L AV 1) (s82 (L AV 0) (sB AV v)))
noncomputable def G83 : XF := fun en κ => g81 (L AV 2) (g82 (L AV 1) (g83 (L AV 0) κ)) en
noncomputable def S83 : DsF := fun v => s81 (L AV 2) (s82 (L AV 1) (s83 (L AV 0) (sB AV v)))
noncomputable def G88 : XF := fun en κ => g81 (L AV 2) (g83 (L AV 1) (g80 (L AV 0) κ)) en
noncomputable def S88 : DsF := fun v => s81 (L AV 2) (s83 (L AV 1) (s80 (L AV 0) (sB AV v)))
noncomputable def G89 : XF := fun en κ => g81 (L AV 2) (g83 (L AV 1) (g81 (L AV 0) κ)) en
noncomputable def S89 : DsF := fun v => s81 (L AV 2) (s83 (L AV 1) (s81 (L AV 0) (sB AV v)))
noncomputable def G96 : XF := fun en κ => g81 (L AV 2) (g84 (L AV 1) (g80 (L AV 0) κ)) en
noncomputable def S96 : DsF := fun v => s81 (L AV 2) (s84 (L AV 1) (s80 (L AV 0) (sB AV v)))
noncomputable def G99 : XF := fun en κ => g81 (L AV 2) (g84 (L AV 1) (g83 (L AV 0) κ)) en
noncomputable def S99 : DsF := fun v => s81 (L AV 2) (s84 (L AV 1) (s83 (L AV 0) (sB AV v)))
noncomputable def G100 : XF := fun en κ => g81 (L AV 2) (g84 (L AV 1) (g84 (L AV 0) κ)) en
noncomputable def S100 : DsF := fun v => s81 (L AV 2) (s84 (L AV 1) (s84 (L AV 0) (sB AV v)))
noncomputable def G101 : XF := fun en κ => g81 (L AV 2) (g84 (L AV 1) (g85 (L AV 0) κ)) en
noncomputable def S101 : DsF := fun v => s81 (L AV 2) (s84 (L AV 1) (s85 (L AV 0) (sB AV v)))
noncomputable def G102 : XF := fun en κ => g81 (L AV 2) (g84 (L AV 1) (g86 (L AV 0) κ)) en
noncomputable def S102 : DsF := fun v => s81 (L AV 2) (s84 (L AV 1) (s86 (L AV 0) (sB AV v)))
noncomputable def G103 : XF := fun en κ => g81 (L AV 2) (g84 (L AV 1) (g87 (L AV 0) κ)) en
noncomputable def S103 : DsF := fun v => s81 (L AV 2) (s84 (L AV 1) (s87 (L AV 0) (sB AV v)))
noncomputable def G134 : XF := fun en κ => g82 (L AV 2) (g80 (L AV 1) (g86 (L AV 0) κ)) en
noncomputable def S134 : DsF := fun v => s82 (L AV 2) (s80 (L AV 1) (s86 (L AV 0) (sB AV v)))
noncomputable def G135 : XF := fun en κ => g82 (L AV 2) (g80 (L AV 1) (g87 (L AV 0) κ)) en
noncomputable def S135 : DsF := fun v => s82 (L AV 2) (s80 (L AV 1) (s87 (L AV 0) (sB AV v)))
noncomputable def G136 : XF := fun en κ => g82 (L AV 2) (g81 (L AV 1) (g80 (L AV 0) κ)) en
noncomputable def S136 : DsF := fun v => s82 (L AV 2) (s81 (L AV 1) (s80 (L AV 0) (sB AV v)))
noncomputable def G137 : XF := fun en κ => g82 (L AV 2) (g81 (L AV 1) (g81 (L AV 0) κ)) en
noncomputable def S137 : DsF := fun v => s82 (L AV 2) (s81 (L AV 1) (s81 (L AV 0) (sB AV v)))
noncomputable def G138 : XF := fun en κ => g82 (L AV 2) (g81 (L AV 1) (g82 (L AV 0) κ)) en
noncomputable def S138 : DsF := fun v => s82 (L AV 2) (s81 (L AV 1) (s82 (L AV 0) (sB AV v)))
noncomputable def G148 : XF := fun en κ => g82 (L AV 2) (g82 (L AV 1) (g84 (L AV 0) κ)) en
noncomputable def S148 : DsF := fun v => s82 (L AV 2) (s82 (L AV 1) (s84 (L AV 0) (sB AV v)))
noncomputable def G149 : XF := fun en κ => g82 (L AV 2) (g82 (L AV 1) (g85 (L AV 0) κ)) en
noncomputable def S149 : DsF := fun v => s82 (L AV 2) (s82 (L AV 1) (s85 (L AV 0) (sB AV v)))
noncomputable def G150 : XF := fun en κ => g82 (L AV 2) (g82 (L AV 1) (g86 (L AV 0) κ)) en
noncomputable def S150 : DsF := fun v => s82 (L AV 2) (s82 (L AV 1) (s86 (L AV 0) (sB AV v)))
noncomputable def G151 : XF := fun en κ => g82 (L AV 2) (g82 (L AV 1) (g87 (L AV 0) κ)) en
noncomputable def S151 : DsF := fun v => s82 (L AV 2) (s82 (L AV 1) (s87 (L AV 0) (sB AV v)))
noncomputable def G152 : XF := fun en κ => g82 (L AV 2) (g83 (L AV 1) (g80 (L AV 0) κ)) en
noncomputable def S152 : DsF := fun v => s82 (L AV 2) (s83 (L AV 1) (s80 (L AV 0) (sB AV v)))
noncomputable def G153 : XF := fun en κ => g82 (L AV 2) (g83 (L AV 1) (g81 (L AV 0) κ)) en
noncomputable def S153 : DsF := fun v => s82 (L AV 2) (s83 (L AV 1) (s81 (L AV 0) (sB AV v)))
end Go.AM

namespace Go.AM
open Go
noncomputable def W159 : AFn := .mk (.seq (.rg (.fin (sOp S0 (oMv (xC (.b false))) <| sNil))) (.seq (.rg (.fin (sOp S5 (oBld [(.i 3 (.ofNat 0)), (.i 3 (.ofNat 0)), (.i 3 (.ofNat 0)), (.i 3 (.ofNat 0)), (.i 6 (.ofNat 0))] (pPt 0 1 (xC (.i 3 (.ofNat 2))) <| pPt 1 1 (xC (.i 3 (.ofNat 9))) <| pPt 2 1 (xC (.i 3 (.ofNat 1))) <| pNil)) <| sOp S6 (oBld [(.i 3 (.ofNat 0)), (.i 3 (.ofNat 0)), (.i 3 (.ofNat 0)), (.i 3 (.ofNat 0)), (.i 6 (.ofNat 0))] pNil) <| sOp S7 (oBld [(.i 3 (.ofNat 0)), (.i 3 (.ofNat 0)), (.i 3 (.ofNat 0)), (.i 3 (.ofNat 0)), (.i 6 (.ofNat 0))] pNil) <| sOp S8 (oBld [(.i 3 (.ofNat 0)), (.i 3 (.ofNat 0)), (.i 3 (.ofNat 0)), (.i 3 (.ofNat 0)), (.i 6 (.ofNat 0))] pNil) <| sOp S9 (oBld [(.i 3 (.ofNat 0)), (.i 3 (.ofNat 0)), (.i 3 (.ofNat 0)), (.i 3 (.ofNat 0)), (.i 6 (.ofNat 0))] pNil) <| sOp S10 (oBld [(.i 3 (.ofNat 0)), (.i 3 (.ofNat 0)), (.i 3 (.ofNat 0)), (.i 3 (.ofNat 0)), (.i 6 (.ofNat 0))] pNil) <| sOp S11 (oBld [(.i 3 (.ofNat 0)), (.i 3 (.ofNat 0)), (.i 3 (.ofNat 0)), (.i 3 (.ofNat 0)), (.i 6 (.ofNat 0))] pNil) <| sOp S12 (oBld [(.i 3 (.ofNat 0)), (.i 3 (.ofNat 0)), (.i 3 (.ofNat 0)), (.i 3 (.ofNat 0)), (.i 6 (.ofNat 0))] pNil) <| sOp S13 (oBsl [(.i 3 (.ofNat 0)), (.i 3 (.ofNat 0)), (.i 3 (.ofNat 0)), (.i 3 (.ofNat 0)), (.i 6 (.ofNat 0)), (.i 3 (.ofNat 0)), (.i 3 (.ofNat 0)), (.i 3 (.ofNat 0)), (.i 3 (.ofNat 0)), (.i 6 (.ofNat 0)), (.i 3 (.ofNat 0)), (.i 3 (.ofNat 0)), (.i 3 (.ofNat 0)), (.i 3 (.ofNat 0)), (.i 6 (.ofNat 0)), (.i 3 (.ofNat 0)), (.i 3 (.ofNat 0)), (.i 3 (.ofNat 0)), (.i 3 (.ofNat 0)), (.i 6 (.ofNat 0)), (.i 3 (.ofNat 0)), (.i 3 (.ofNat 0)), (.i 3 (.ofNat 0)), (.i 3 (.ofNat 0)), (.i 6 (.ofNat 0)), (.i 3 (.ofNat 0)), (.i 3 (.ofNat 0)), (.i 3 (.ofNat 0)), (.i 3 (.ofNat 0)), (.i 6 (.ofNat 0)), (.i 3 (.ofNat 0)), (.i 3 (.ofNat 0)), (.i 3 (.ofNat 0)), (.i 3 (.ofNat 0)), (.i 6 (.ofNat 0)), (.i 3 (.ofNat 0)), (.i 3 (.ofNat 0)), (.i 3 (.ofNat 0)), (.i 3 (.ofNat 0)), (.i 6 (.ofNat 0))] 40 8 (pPt 0 5 G5 <| pPt 5 5 G6 <| pPt 10 5 G7 <| pPt 15 5 G8 <| pPt 20 5 G9 <| pPt 25 5 G10 <| pPt 30 5 G11 <| pPt 35 5 G12 <| pNil)) <| sOp S14 (oBsl [.ns] 1 1 (pPt 0 1 G13 <| pNil)) <| sOp S15 (oBld [.ns] (pPt 0 1 G14 <| pNil)) <| sOp S16 (oBld [(.i 3 (.ofNat 0)), (.i 3 (.ofNat 0)), (.s []), .ns, .ns, .ns, .ns] (pPt 1 1 (xC (.i 3 (.ofNat 1))) <| pPt 3 1 G15 <| pNil)) <| sOp S1 (oAl [(.i 3 (.ofNat 0)), (.i 3 (.ofNat 0)), (.s []), .ns, .ns, .ns, .ns] 7) <| sOp dN (oSt G1 G16 7) <| sNil))) (.seq (.rg (.call (sOp S17 (oLd G1 7) <| sOp S18 (oMks (xC (.i 3 (.ofNat 64))) (xC (.i 3 (.ofNat 64))) 1 [(.i 4 (.ofNat 0))] 1) <| sNil) gN S19 15 (xsC G17 <| xsC G18 <| xsN) <| .fin (sOp S2 (oMv G19) <| sNil))) (.seq (.rg (.call (sOp S21 (oLd G1 7) <| sOp S22 (oMks (xC (.i 3 (.ofNat 64))) (xC (.i 3 (.ofNat 64))) 1 [(.i 4 (.ofNat 0))] 1) <| sOp S3 (oAl [(.i 3 (.ofNat 0)), (.i 3 (.ofNat 0)), (.s []), .ns, .ns, .ns, .ns] 7) <| sNil) gN S23 16 (xsC G21 <| xsC G22 <| xsN) <| .fin (sOp S20 (oMv G23) <| sOp S24 (oExt G20 0) <| sOp S25 (oExt G20 1) <| sOp dN (oSt G3 G24 7) <| sOp S4 (oMv G25) <| sNil))) (.seq (.rg (.call (sOp S26 (oMv G2) <| sOp S27 (oLenl G26) <| sOp S28 (oEq false 3 G27 (xC (.i 3 (.ofNat 3)))) <| sOp S29 (oMv G28) <| sOpG (gG G29 true) S30 (oMv G2) <| sOpG (gG G29 true) S31 (oIas G30 (xC (.i 3 (.ofNat 0))) 3) <| sOpG (gG G29 true) S32 (oLd G31 3) <| sOpG (gG G29 true) S33 (oBld [(.i 3 (.ofNat 0)), (.i 3 (.ofNat 0)), (.i 3 (.ofNat 0))] (pPt 0 1 (xC (.i 3 (.ofNat 1))) <| pPt 2 1 (xC (.i 3 (.negSucc 0))) <| pNil)) <| sOpG (gG G29 true) S34 (oEqs false (eqT true [3, 3, 3]) G32 G33) <| sOp S35 (oPick G29 G34 (xC (.b false))) <| sOp S36 (oMv G35) <| sOpG (gG G36 true) S37 (oMv G4) <| sNil) (gG G36 true) S38 12 (xsC G37 <| xsN) <| .call (sOpG (gG G36 true) S39 (oEq false 3 G38 (xC (.i 3 (.ofNat 0)))) <| sOp S40 (oPick G36 G39 (xC (.b false))) <| sOp S41 (oMv G40) <| sOpG (gG G41 true) S42 (oFa G3 3) <| sOpG (gG G41 true) S43 (oLd G42 1) <| sNil) (gG G41 true) S44 22 (xsC G43 <| xsC (xC (.i 3 (.ofNat 0))) <| xsN) <| .fin (sOpG (gG G41 true) S45 (oFl1 G44 0) <| sOpG (gG G41 true) S46 (oEq false 3 G45 (xC (.i 3 (.ofNat 1)))) <| sOp S47 (oPick G41 G46 (xC (.b false))) <| sOp S0 (oMv G47) <| sNil))) (.ret)))))) (r1 (.t 0))
noncomputable def W1510 : AFn := .mk (.seq (.rg (.fin (sOp S3 (oBx G0) <| sOp S6 (oMv (xC .ns)) <| sOp S7 (oMv (xC (.i 3 (.ofNat 0)))) <| sNil))) (.seq (.seq (.rg (.call (sOp S12 (oLd G3 5) <| sOp S13 (oMv G2) <| sNil) gN S14 23 (xsC G12 <| xsC G13 <| xsN) <| .fin (sOp S15 (oNt G14) <| sNil))) (.cond G15 (.bad) (.skip))) (.seq (.rg (.fin (sOp S16 (oMv G2) <| sOp S17 (oShl 3 (xC (.i 3 (.ofNat 16))) G16) <| sOp S8 (oMv G17) <| sNil))) (.seq (.seq (.rg (.fin (sOp S18 (oFa G3 0) <| sOp S19 (oLd1 G18) <| sOp S20 (oEq false 3 G19 (xC (.i 3 (.ofNat 0)))) <| sOp S21 (oMv G20) <| sOpG (gG G21 false) S22 (oFa G3 0) <| sOpG (gG G21 false) S23 (oLd1 G22) <| sOpG (gG G21 false) S24 (oEq false 3 G23 (xC (.i 3 (.ofNat 1)))) <| sOp S25 (oPick G21 (xC (.b true)) G24) <| sNil))) (.cond G25 (.bad) (.skip))) (.seq (.seq (.rg (.fin (sOp S28 (oFa G3 1) <| sOp S29 (oLd1 G28) <| sOp S30 (oFa G3 2) <| sOp S31 (oLd1 G30) <| sOp S32 (oAr arAdd 3 G29 G31) <| sOp S33 (oMv G1) <| sOp S34 (oLenl G33) <| sOp S35 (oAr arQuo 3 G34 (xC (.i 3 (.ofNat 16)))) <| sOp S36 (oGt 3 G32 G35) <| sNil))) (.cond G36 (.seq (.rg (.fin (sOp S6 (oMv (xC .ns)) <| sOp S7 (oMv (xC (.i 3 (.ofNat 6)))) <| sNil))) (.ret)) (.skip))) (.seq (.rg (.call (sOp S37 (oMv G1) <| sOp S38 (oFa G3 1) <| sOp S39 (oLd1 G38) <| sOp S40 (oAr arMul 3 G39 (xC (.i 3 (.ofNat 16)))) <| sOp S41 (oFa G3 1) <| sOp S42 (oLd1 G41) <| sOp S43 (oFa G3 2) <| sOp S44 (oLd1 G43) <| sOp S45 (oAr arAdd 3 G42 G44) <| sOp S46 (oAr arMul 3 G45 (xC (.i 3 (.ofNat 16)))) <| sOp S47 (oSlc G37 (bX G40) (bX G46) bNo true 1) <| sNil) gN S48 24 (xsC G47 <| xsN) <| .fin (sOp S9 (oMv G48) <| sNil))) (.seq (.seq (.rg (.fin (sOp S49 (oFa G3 0) <| sOp S50 (oLd1 G49) <| sOp S51 (oEq false 3 G50 (xC (.i 3 (.ofNat 3)))) <| sNil))) (.cond G51 (.bad) (.skip))) (.seq (.seq (.rg (.call (sOp S64 (oMv G9) <| sOp S65 (oLenl G64) <| sOp S66 (oMv G8) <| sOp S67 (oEq true 3 G65 G66) <| sOp S68 (oMv G67) <| sOpG (gG G68 false) S69 (oMv G9) <| sOpG (gG G68 false) S71 (oFa G3 4) <| sOpG (gG G68 false) S72 (oLd1 G71) <| sNil) (gG G68 false) S70 26 (xsC G69 <| xsN) <| .fin (sAg (gG G68 false) G72 (oLd1 G71) <| sOpG (gG G68 false) S73 (oEq true 6 G70 G72) <| sOp S74 (oPick G68 (xC (.b true)) G73) <| sNil))) (.cond G74 (.seq (.rg (.fin (sOp S6 (oMv (xC .ns)) <| sOp S7 (oMv (xC (.i 3 (.ofNat 13)))) <| sNil))) (.ret)) (.skip))) (.seq (.rg (.fin (sOp S75 (oMv G9) <| sOp S6 (oMv G75) <| sOp S7 (oMv (xC (.i 3 (.ofNat 0)))) <| sNil))) (.ret)))))))))) (dRs [.t 6, .t 7])
noncomputable def W1512 : AFn := .mk (.seq (.rg (.fin (sOp S2 (oMv (xC (.i 3 (.ofNat 0)))) <| sNil))) (.seq (.rg (.fin (sOp S3 (oMv G0) <| sOp S2 (oMv G3) <| sNil))) (.ret))) (r1 (.t 2))
noncomputable def W1515 : AFn := .mk (.seq (.rg (.fin (sOp S2 (oBx G0) <| sOp S4 (oMv (xC .ns)) <| sNil))) (.seq (.seq (.rg (.call (sOp S14 (oLd G2 7) <| sNil) gN S15 37 (xsC G14 <| xsN) <| .fin (sOp S16 (oNt G15) <| sNil))) (.cond G16 (.bad) (.skip))) (.seq (.rg (.call (sOp S17 (oMv G1) <| sNil) gN S18 38 (xsC G17 <| xsN) <| .fin (sOp S1 (oMv G18) <| sNil))) (.seq (.rg (.call (sOp S19 (oLd G2 7) <| sOp S20 (oMv G1) <| sNil) gN S21 39 (xsC G19 <| xsC G20 <| xsN) <| .fin (sOp S5 (oMv G21) <| sNil))) (.seq (.rg (.fin (sOp S6 (oMv (xC .ns)) <| sNil))) (.seq (.seq (.rg (.fin (sOp S22 (oMv G5) <| sOp S23 (oLenl G22) <| sOp S24 (oMv (xC (.i 3 (.ofNat 0)))) <| sNil))) (.blk 0 (.loop (.seq (.rg (.fin (sOp S25 (oLt 3 G24 G23) <| sNil))) (.seq (.cond G25 (.skip) (.exit 0)) (.seq (.blk 1 (.seq (.rg (.fin (sOp S26 (oIas G22 G24 2) <| sOp S27 (oLd G26 2) <| sOp S8 (oAl [(.i 3 (.ofNat 0)), (.i 3 (.ofNat 0))] 2) <| sOp dN (oSt G8 G27 2) <| sNil))) (.rg (.fin (sOp S28 (oMv G6) <| sOp S29 (oFa G8 1) <| sOp S30 (oLd1 G29) <| sOp S31 (oFa G8 0) <| sOp S32 (oLd1 G31) <| sOp S33 (oBld [(.i 3 (.ofNat 0)), (.i 3 (.ofNat 0)), (.i 3 (.ofNat 0))] (pPt 0 1 (xC (.i 3 (.ofNat 1))) <| pPt 1 1 G30 <| pPt 2 1 G32 <| pNil)) <| sOp S34 (oBsl [(.i 3 (.ofNat 0)), (.i 3 (.ofNat 0)), (.i 3 (.ofNat 0))] 3 1 (pPt 0 3 G33 <| pNil)) <| sOp S35 (oApn G28 G34 3 24) <| sOp S6 (oMv G35) <| sNil))))) (.rg (.fin (sOp S36 (oAr arAdd 3 G24 (xC (.i 3 (.ofNat 1)))) <| sOp S24 (oMv G36) <| sNil))))))))) (.seq (.rg (.fin (sOp S37 (oMv G1) <| sOp S38 (oLenl G37) <| sOp S39 (oAr arQuo 3 G38 (xC (.i 3 (.ofNat 16)))) <| sOp S9 (oMv G39) <| sNil))) (.seq (.rg (.fin (sOp S40 (oMv G9) <| sOp S41 (oFa G2 6) <| sOp S42 (oLd1 G41) <| sOp S43 (oLenl G42) <| sOp S44 (oMm true (xsC G40 <| xsC G43 <| xsN)) <| sOp S10 (oMv G44) <| sNil))) (.seq (.seq (.rg (.call (sOp S45 (oLd G2 7) <| sOp S46 (oMv G5) <| sOp S47 (oBld [(.i 3 (.ofNat 0)), (.i 3 (.ofNat 0)), (.i 3 (.ofNat 0)), (.i 3 (.ofNat 0)), (.i 6 (.ofNat 0))] (pPt 0 1 (xC (.i 3 (.ofNat 1))) <| pNil)) <| sNil) gN S48 41 (xsC G45 <| xsC G46 <| xsC G47 <| xsN) <| .call (sOp S49 (oMv G10) <| sNil) gN S50 40 (xsC G48 <| xsC G49 <| xsN) <| .fin (sOp S51 (oLenl G50) <| sOp S52 (oMv (xC (.i 3 (.ofNat 0)))) <| sNil))) (.blk 2 (.loop (.seq (.rg (.fin (sOp S53 (oLt 3 G52 G51) <| sNil))) (.seq (.cond G53 (.skip) (.exit 2)) (.seq (.blk 3 (.seq (.rg (.fin (sOp S54 (oMv G52) <| sOp S55 (oIas G50 G52 1) <| sOp S56 (oLd1 G55) <| sOp S11 (oMv G54) <| sOp S12 (oMv G56) <| sNil))) (.seq (.seq (.rg (.fin (sOp S57 (oMv G11) <| sOp S58 (oMv G9) <| sOp S59 (oGe 3 G57 G58) <| sNil))) (.cond G59 (.bad) (.skip))) (.seq (.rg (.fin (sOp S13 (oMv (xC (.i 3 (.ofNat 0)))) <| sNil))) (.seq (.seq (.rg (.fin (sOp S60 (oMv G11) <| sOp S61 (oFa G2 6) <| sOp S62 (oLd1 G61) <| sOp S63 (oLenl G62) <| sOp S64 (oLt 3 G60 G63) <| sNil))) (.cond G64 (.bad) (.skip))) (.blk 4 (.seq (.rg (.fin (sOp S71 (oMv G13) <| sOp S72 (oMv G12) <| sOp S73 (oLt 3 G71 G72) <| sOp S70 (oMv G73) <| sNil))) (.cond G70 (.rg (.fin (sOp S74 (oMv G6) <| sOp S75 (oMv G11) <| sOp S76 (oBld [(.i 3 (.ofNat 0)), (.i 3 (.ofNat 0)), (.i 3 (.ofNat 0))] (pPt 0 1 (xC (.i 3 (.ofNat 2))) <| pPt 1 1 G75 <| pNil)) <| sOp S77 (oBsl [(.i 3 (.ofNat 0)), (.i 3 (.ofNat 0)), (.i 3 (.ofNat 0))] 3 1 (pPt 0 3 G76 <| pNil)) <| sOp S78 (oApn G74 G77 3 24) <| sOp S6 (oMv G78) <| sNil))) (.seq (.rg (.fin (sOp S80 (oMv G13) <| sOp S81 (oMv G12) <| sOp S82 (oGt 3 G80 G81) <| sOp S79 (oMv G82) <| sNil))) (.cond G79 (.bad) (.skip))))))))))) (.rg (.fin (sOp S88 (oAr arAdd 3 G52 (xC (.i 3 (.ofNat 1)))) <| sOp S52 (oMv G88) <| sNil))))))))) (.seq (.rg (.fin (sOp S89 (oMv G6) <| sOp S4 (oMv G89) <| sNil))) (.ret))))))))))) (r1 (.t 4))
noncomputable def W1516 : AFn := .mk (.seq (.rg (.fin (sOp S2 (oBx G0) <| sOp S4 (oAl [(.i 3 (.ofNat 0)), (.i 3 (.ofNat 0)), (.s []), .ns, .ns, .ns, .ns] 7) <| sOp S5 (oMv (xC (.i 3 (.ofNat 0)))) <| sNil))) (.seq (.seq (.rg (.call (sOp S8 (oLd G2 7) <| sNil) gN S9 37 (xsC G8 <| xsN) <| .fin (sOp S10 (oNt G9) <| sNil))) (.cond G10 (.bad) (.skip))) (.seq (.rg (.call (sOp S12 (oMv G1) <| sNil) gN S13 38 (xsC G12 <| xsN) <| .fin (sOp S1 (oMv G13) <| sNil))) (.seq (.rg (.call (sOp S14 (oLd G2 7) <| sOp S15 (oLd G2 7) <| sOp S16 (oMv G1) <| sOp S18 (oBld [(.i 3 (.ofNat 0)), (.i 3 (.ofNat 0)), (.i 3 (.ofNat 0)), (.i 3 (.ofNat 0)), (.i 6 (.ofNat 0))] (pPt 0 1 (xC (.i 3 (.ofNat 1))) <| pNil)) <| sNil) gN S17 39 (xsC G15 <| xsC G16 <| xsN) <| .call (sAg gN G14 (oLd G2 7) <| sNil) gN S19 41 (xsC G14 <| xsC G17 <| xsC G18 <| xsN) <| .fin (sOp dN (oSt G2 G19 7) <| sNil))) (.seq (.seq (.rg (.fin (sOp S20 (oFa G2 4) <| sOp S21 (oLd1 G20) <| sOp S22 (oLenl G21) <| sOp S23 (oMv (xC (.i 3 (.ofNat 0)))) <| sNil))) (.blk 0 (.loop (.seq (.rg (.fin (sOp S24 (oLt 3 G23 G22) <| sNil))) (.seq (.cond G24 (.skip) (.exit 0)) (.bad)))))) (.seq (.rg (.call (sOp S39 (oFa G2 5) <| sOp S40 (oLd1 G39) <| sNil) gN S41 43 (xsC G40 <| xsN) <| .fin (sOp S42 (oFa G2 5) <| sOp dN (oSt G42 G41 1) <| sNil))) (.seq (.seq (.rg (.fin (sOp S43 (oFa G2 5) <| sOp S44 (oLd1 G43) <| sOp S45 (oLenl G44) <| sOp S46 (oMv (xC (.i 3 (.ofNat 0)))) <| sNil))) (.blk 2 (.loop (.seq (.rg (.fin (sOp S47 (oLt 3 G46 G45) <| sNil))) (.seq (.cond G47 (.skip) (.exit 2)) (.bad)))))) (.seq (.rg (.call (sOp S62 (oLd G2 7) <| sOp S63 (oMv G1) <| sOp S64 (oLenl G63) <| sOp S65 (oAr arQuo 3 G64 (xC (.i 3 (.ofNat 16)))) <| sNil) gN S66 40 (xsC G62 <| xsC G65 <| xsN) <| .fin (sOp S67 (oFa G2 6) <| sOp dN (oSt G67 G66 1) <| sNil))) (.seq (.rg (.fin (sOp S68 (oLd G2 7) <| sOp dN (oSt G4 G68 7) <| sOp S5 (oMv (xC (.i 3 (.ofNat 0)))) <| sNil))) (.ret)))))))))) (dRs [.c 4 7, .t 5])
noncomputable def W1522 : AFn := .mk (.seq (.rg (.fin (sOp S2 (oBx G0) <| sOp S4 (oAl [(.i 3 (.ofNat 0)), (.i 3 (.ofNat 0)), (.i 3 (.ofNat 0)), (.i 3 (.ofNat 0)), (.i 6 (.ofNat 0))] 5) <| sNil))) (.seq (.seq (.rg (.fin (sOp S5 (oMv G1) <| sOp S6 (oLt 3 G5 (xC (.i 3 (.ofNat 0)))) <| sOp S7 (oMv G6) <| sOpG (gG G7 false) S8 (oMv G1) <| sOpG (gG G7 false) S9 (oAr arQuo 3 G8 (xC (.i 3 (.ofNat 8)))) <| sOpG (gG G7 false) S10 (oFa G2 0) <| sOpG (gG G7 false) S11 (oLd1 G10) <| sOpG (gG G7 false) S12 (oLenl G11) <| sOpG (gG G7 false) S13 (oGe 3 G9 G12) <| sOp S14 (oPick G7 (xC (.b true)) G13) <| sOp S15 (oMv G14) <| sOpG (gG G15 false) S16 (oMv G1) <| sOpG (gG G15 false) S17 (oRem 3 G16 (xC (.i 3 (.ofNat 8)))) <| sOpG (gG G15 false) S18 (oFa G2 0) <| sOpG (gG G15 false) S19 (oLd1 G18) <| sOpG (gG G15 false) S20 (oMv G1) <| sOpG (gG G15 false) S21 (oAr arQuo 3 G20 (xC (.i 3 (.ofNat 8)))) <| sOpG (gG G15 false) S22 (oIas G19 G21 1) <| sOpG (gG G15 false) S23 (oLd1 G22) <| sOpG (gG G15 false) S24 (oLenl G23) <| sOpG (gG G15 false) S25 (oGe 3 G17 G24) <| sOp S26 (oPick G15 (xC (.b true)) G25) <| sNil))) (.cond G26 (.bad) (.skip))) (.seq (.rg (.fin (sOp S28 (oFa G2 0) <| sOp S29 (oLd1 G28) <| sOp S30 (oMv G1) <| sOp S31 (oAr arQuo 3 G30 (xC (.i 3 (.ofNat 8)))) <| sOp S32 (oIas G29 G31 1) <| sOp S33 (oLd1 G32) <| sOp S34 (oMv G1) <| sOp S35 (oRem 3 G34 (xC (.i 3 (.ofNat 8)))) <| sOp S36 (oIas G33 G35 5) <| sOp S37 (oLd G36 5) <| sOp dN (oSt G4 G37 5) <| sNil))) (.ret)))) (r1 (.c 4 5))
noncomputable def W1523 : AFn := .mk (.seq (.rg (.fin (sOp S2 (oBx G0) <| sOp S4 (oMv (xC (.b false))) <| sNil))) (.seq (.seq (.rg (.fin (sOp S7 (oMv G1) <| sOp S8 (oLt 3 G7 (xC (.i 3 (.ofNat 0)))) <| sOp S9 (oMv G8) <| sOpG (gG G9 false) S10 (oMv G1) <| sOpG (gG G9 false) S11 (oGt 3 G10 (xC (.i 3 (.ofNat 6)))) <| sOp S12 (oPick G9 (xC (.b true)) G11) <| sNil))) (.cond G12 (.bad) (.skip))) (.seq (.rg (.fin (sOp S13 (oMv G1) <| sOp S14 (oShl 3 (xC (.i 3 (.ofNat 1))) G13) <| sOp S5 (oMv G14) <| sNil))) (.seq (.rg (.fin (sOp S6 (oMv (xC (.b true))) <| sNil))) (.seq (.seq (.rg (.fin (sOp S15 (oFa G2 0) <| sOp S16 (oLd1 G15) <| sNil))) (.blk 0 (.seq (.blk 5 (.seq (.blk 4 (.seq (.blk 3 (.seq (.blk 2 (.blk 1 (.seq (.seq (.seq (.rg (.fin (sOp S18 (oEq false 3 G16 (xC (.i 3 (.ofNat 0)))) <| sOp S17 (oMv G18) <| sNil))) (.cond G17 (.exit 1) (.skip))) (.seq (.seq (.rg (.fin (sOp S20 (oEq false 3 G16 (xC (.i 3 (.ofNat 1)))) <| sOp S19 (oMv G20) <| sNil))) (.cond G19 (.exit 2) (.skip))) (.seq (.seq (.rg (.fin (sOp S22 (oEq false 3 G16 (xC (.i 3 (.ofNat 2)))) <| sOp S21 (oMv G22) <| sNil))) (.cond G21 (.exit 3) (.skip))) (.bad)))) (.bad)))) (.seq (.seq (.rg (.fin (sOp S25 (oLd G2 5) <| sOp S26 (oFa G2 0) <| sOp S27 (oLd1 G26) <| sOp S28 (oBld [(.i 3 (.ofNat 0)), (.i 3 (.ofNat 0)), (.i 3 (.ofNat 0)), (.i 3 (.ofNat 0)), (.i 6 (.ofNat 0))] (pPt 0 1 G27 <| pNil)) <| sOp S29 (oEqs false (eqT true [3, 3, 3, 3, 6]) G25 G28) <| sOp S4 (oMv G29) <| sNil))) (.ret)) (.bad)))) (.seq (.rg (.fin (sOp S30 (oFa G2 2) <| sOp S31 (oLd1 G30) <| sOp S32 (oMv G5) <| sOp S33 (oEq false 3 G31 G32) <| sOp S34 (oMv G33) <| sOpG (gG G34 true) S35 (oFa G2 3) <| sOpG (gG G34 true) S36 (oLd1 G35) <| sOpG (gG G34 true) S37 (oEq false 3 G36 (xC (.i 3 (.ofNat 0)))) <| sOp S38 (oPick G34 G37 (xC (.b false))) <| sOp S6 (oMv G38) <| sNil))) (.exit 0)))) (.bad))) (.bad)))) (.seq (.rg (.call (sOp S70 (oMv G6) <| sOp S71 (oMv G70) <| sOpG (gG G71 true) S72 (oLd G2 5) <| sNil) (gG G71 true) S73 49 (xsC G72 <| xsN) <| .fin (sOp S74 (oPick G71 G73 (xC (.b false))) <| sOp S4 (oMv G74) <| sNil))) (.ret))))))) (r1 (.t 4))
noncomputable def W1524 : AFn := .mk (.seq (.rg (.fin (sOp S2 (oMv (xC .ns)) <| sNil))) (.seq (.seq (.rg (.fin (sOp S3 (oMv G0) <| sOp S4 (oEqn false 1 G3 (xC .ns)) <| sNil))) (.cond G4 (.bad) (.skip))) (.seq (.rg (.fin (sOp S5 (oBsl [] 0 0 pNil) <| sOp S6 (oMv G0) <| sOp S7 (oApn G5 G6 1 1) <| sOp S2 (oMv G7) <| sNil))) (.ret)))) (r1 (.t 2))
noncomputable def W1526 : AFn := .mk (.seq (.rg (.fin (sOp S2 (oMv (xC (.i 6 (.ofNat 0)))) <| sNil))) (.seq (.rg (.call (sOp S3 (oMv G0) <| sNil) gN S4 52 (xsC (xC (.i 6 (.ofNat 0))) <| xsC G3 <| xsN) <| .fin (sOp S2 (oMv G4) <| sNil))) (.ret))) (r1 (.t 2))
noncomputable def W1537 : AFn := .mk (.seq (.rg (.fin (sOp S1 (oBx G0) <| sOp S2 (oMv (xC (.b false))) <| sNil))) (.seq (.seq (.rg (.call (sOp S11 (oFa G1 0) <| sOp S12 (oLd1 G11) <| sOp S13 (oLt 3 G12 (xC (.i 3 (.ofNat 0)))) <| sOp S14 (oMv G13) <| sOpG (gG G14 false) S15 (oFa G1 0) <| sOpG (gG G14 false) S16 (oLd1 G15) <| sOpG (gG G14 false) S17 (oGt 3 G16 (xC (.i 3 (.ofNat 6)))) <| sOp S18 (oPick G14 (xC (.b true)) G17) <| sOp S19 (oMv G18) <| sOpG (gG G19 false) S20 (oFa G1 1) <| sOpG (gG G19 false) S21 (oLd1 G20) <| sOpG (gG G19 false) S22 (oFa G1 0) <| sOpG (gG G19 false) S23 (oLd1 G22) <| sNil) (gG G19 false) S24 56 (xsC G21 <| xsC G23 <| xsN) <| .call (sOpG (gG G19 false) S25 (oNt G24) <| sOp S26 (oPick G19 (xC (.b true)) G25) <| sOp S27 (oMv G26) <| sOpG (gG G27 false) S28 (oFa G1 2) <| sOpG (gG G27 false) S29 (oLd1 G28) <| sOpG (gG G27 false) S30 (oSQ true G29 (xC (.s []))) <| sOpG (gG G27 false) S31 (oMv G30) <| sOpG (gG G31 true) S32 (oFa G1 2) <| sOpG (gG G31 true) S33 (oLd1 G32) <| sNil) (gG G31 true) S34 57 (xsC G33 <| xsN) <| .fin (sOpG (gG G31 true) S35 (oNt G34) <| sOpG (gG G27 false) S36 (oPick G31 G35 (xC (.b false))) <| sOp S37 (oPick G27 (xC (.b true)) G36) <| sNil))) (.cond G37 (.bad) (.skip))) (.seq (.seq (.rg (.call (sOp S38 (oFa G1 3) <| sOp S39 (oLd G38 1) <| sOp S40 (oFa G1 1) <| sOp S41 (oLd1 G40) <| sOp S42 (oFa G1 0) <| sOp S43 (oLd1 G42) <| sOp S44 (oShr 3 G41 G43) <| sOp S45 (oFa G1 0) <| sOp S46 (oLd1 G45) <| sNil) gN S47 58 (xsC G39 <| xsC G44 <| xsC G46 <| xsN) <| .fin (sOp S48 (oNt G47) <| sOp S49 (oMv G48) <| sOpG (gG G49 false) S50 (oFa G1 4) <| sOpG (gG G49 false) S51 (oLd1 G50) <| sOpG (gG G49 false) S52 (oLenl G51) <| sOpG (gG G49 false) S53 (oGt 3 G52 (xC (.i 3 (.ofNat 8)))) <| sOp S54 (oPick G49 (xC (.b true)) G53) <| sOp S55 (oMv G54) <| sOpG (gG G55 false) S56 (oFa G1 5) <| sOpG (gG G55 false) S57 (oLd1 G56) <| sOpG (gG G55 false) S58 (oLenl G57) <| sOpG (gG G55 false) S59 (oGt 3 G58 (xC (.i 3 (.ofNat 8)))) <| sOp S60 (oPick G55 (xC (.b true)) G59) <| sOp S61 (oMv G60) <| sOpG (gG G61 false) S62 (oFa G1 6) <| sOpG (gG G61 false) S63 (oLd1 G62) <| sOpG (gG G61 false) S64 (oLenl G63) <| sOpG (gG G61 false) S65 (oGt 3 G64 (xC (.i 3 (.ofNat 65536)))) <| sOp S66 (oPick G61 (xC (.b true)) G65) <| sNil))) (.cond G66 (.bad) (.skip))) (.seq (.rg (.fin (sOp S3 (oMv (xC .ns)) <| sOp S4 (oMv (xC .ns)) <| sNil))) (.seq (.seq (.rg (.fin (sOp S67 (oFa G1 4) <| sOp S68 (oLd1 G67) <| sOp S69 (oLenl G68) <| sOp S70 (oMv (xC (.i 3 (.ofNat 0)))) <| sNil))) (.blk 0 (.loop (.seq (.rg (.fin (sOp S71 (oLt 3 G70 G69) <| sNil))) (.seq (.cond G71 (.skip) (.exit 0)) (.bad)))))) (.seq (.seq (.rg (.fin (sOp S99 (oFa G1 5) <| sOp S100 (oLd1 G99) <| sOp S101 (oLenl G100) <| sOp S102 (oMv (xC (.i 3 (.ofNat 0)))) <| sNil))) (.blk 2 (.loop (.seq (.rg (.fin (sOp S103 (oLt 3 G102 G101) <| sNil))) (.seq (.cond G103 (.skip) (.exit 2)) (.bad)))))) (.seq (.seq (.rg (.fin (sOp S134 (oFa G1 6) <| sOp S135 (oLd1 G134) <| sOp S136 (oLenl G135) <| sOp S137 (oMv (xC (.i 3 (.ofNat 0)))) <| sNil))) (.blk 4 (.loop (.seq (.rg (.fin (sOp S138 (oLt 3 G137 G136) <| sNil))) (.seq (.cond G138 (.skip) (.exit 4)) (.bad)))))) (.seq (.rg (.call (sOp S148 (oMv G3) <| sNil) gN S149 60 (xsC G148 <| xsN) <| .call (sOp S150 (oMv G149) <| sOpG (gG G150 true) S151 (oMv G4) <| sNil) (gG G150 true) S152 60 (xsC G151 <| xsN) <| .fin (sOp S153 (oPick G150 G152 (xC (.b false))) <| sOp S2 (oMv G153) <| sNil))) (.ret))))))))) (r1 (.t 2))
noncomputable def W1538 : AFn := .mk (.seq (.rg (.fin (sOp S2 (oMv (xC .ns)) <| sNil))) (.seq (.rg (.fin (sOp S3 (oMv G0) <| sOp S4 (oMv G0) <| sOp S5 (oLenl G4) <| sOp S6 (oAr arQuo 3 G5 (xC (.i 3 (.ofNat 16)))) <| sOp S7 (oMm false (xsC G6 <| xsC (xC (.i 3 (.ofNat 65536))) <| xsN)) <| sOp S8 (oAr arMul 3 G7 (xC (.i 3 (.ofNat 16)))) <| sOp S9 (oSlc G3 bNo (bX G8) bNo true 1) <| sOp S2 (oMv G9) <| sNil))) (.ret))) (r1 (.t 2))
noncomputable def W1539 : AFn := .mk (.seq (.rg (.fin (sOp S2 (oBx G0) <| sOp S4 (oMv (xC .ns)) <| sNil))) (.seq (.rg (.fin (sOp S5 (oMv (xC .ns)) <| sNil))) (.seq (.rg (.fin (sOp S6 (oMv (xC .ns)) <| sNil))) (.seq (.rg (.fin (sOp S16 (oMkm) <| sOp S7 (oMv G16) <| sNil))) (.seq (.seq (.rg (.call (sOp S17 (oLd G2 7) <| sNil) gN S18 61 (xsC G17 <| xsN) <| .fin (sOp S19 (oLenl G18) <| sOp S20 (oMv (xC (.i 3 (.ofNat 0)))) <| sNil))) (.blk 0 (.loop (.seq (.rg (.fin (sOp S21 (oLt 3 G20 G19) <| sNil))) (.seq (.cond G21 (.skip) (.exit 0)) (.seq (.blk 1 (.seq (.rg (.fin (sOp S22 (oIas G18 G20 7) <| sOp S23 (oLd G22 7) <| sOp S9 (oAl [(.i 3 (.ofNat 0)), (.i 3 (.ofNat 0)), (.i 3 (.ofNat 0)), (.i 3 (.ofNat 0)), (.i 3 (.ofNat 0)), (.i 3 (.ofNat 0)), (.i 6 (.ofNat 0))] 7) <| sOp dN (oSt G9 G23 7) <| sNil))) (.sc (.seq (.rg (.fin (sOp S24 (oFa G9 2) <| sOp S25 (oFa G24 1) <| sOp S26 (oLd1 G25) <| sOp S27 (oFa G9 2) <| sOp S28 (oFa G27 2) <| sOp S29 (oLd1 G28) <| sOp S30 (oBld [(.i 3 (.ofNat 0)), (.i 3 (.ofNat 0))] (pPt 0 1 G26 <| pPt 1 1 G29 <| pNil)) <| sOp S10 (oAl [(.i 3 (.ofNat 0)), (.i 3 (.ofNat 0))] 2) <| sOp dN (oSt G10 G30 2) <| sNil))) (.seq (.rg (.call (sOp S32 (oFa G9 2) <| sOp S33 (oLd G32 5) <| sOp S34 (oMv G1) <| sOp S35 (oFa G2 0) <| sOp S36 (oLd1 G35) <| sNil) gN S37 10 (xsC G33 <| xsC G34 <| xsC G36 <| xsN) <| .fin (sOp S31 (oMv G37) <| sOp S38 (oExt G31 0) <| sOp S39 (oExt G31 1) <| sOp S11 (oMv G38) <| sOp S12 (oMv G39) <| sNil))) (.seq (.rg (.fin (sOp S40 (oMv G12) <| sOp S41 (oEq true 3 G40 (xC (.i 3 (.ofNat 0)))) <| sOp S13 (oMv G41) <| sNil))) (.seq (.skip) (.seq (.seq (.rg (.fin (sOp S42 (oMv G6) <| sOp S43 (oLenl G42) <| sOp S44 (oMv (xC (.i 3 (.ofNat 0)))) <| sNil))) (.blk 2 (.loop (.seq (.rg (.fin (sOp S45 (oLt 3 G44 G43) <| sNil))) (.seq (.cond G45 (.skip) (.exit 2)) (.bad)))))) (.seq (.seq (.rg (.fin (sOp S52 (oMv G13) <| sNil))) (.cond G52 (.seq (.rg (.fin (sOp S53 (oMv G5) <| sOp S54 (oFa G9 0) <| sOp S55 (oLd1 G54) <| sOp S56 (oFa G9 1) <| sOp S57 (oLd1 G56) <| sOp S58 (oBld [(.i 3 (.ofNat 0)), (.i 3 (.ofNat 0))] (pPt 0 1 G55 <| pPt 1 1 G57 <| pNil)) <| sOp S59 (oBsl [(.i 3 (.ofNat 0)), (.i 3 (.ofNat 0))] 2 1 (pPt 0 2 G58 <| pNil)) <| sOp S60 (oApn G53 G59 2 16) <| sOp S5 (oMv G60) <| sNil))) (.exit 1)) (.skip))) (.bad)))))))))) (.rg (.fin (sOp S75 (oAr arAdd 3 G20 (xC (.i 3 (.ofNat 1)))) <| sOp S20 (oMv G75) <| sNil))))))))) (.seq (.rg (.fin (sOp S76 (oMv G5) <| sOp S4 (oMv G76) <| sNil))) (.ret))))))) (r1 (.t 4))
noncomputable def W1540 : AFn := .mk (.seq (.rg (.fin (sOp S2 (oBx G0) <| sOp S4 (oMv (xC .ns)) <| sNil))) (.seq (.seq (.rg (.fin (sOp S12 (oMv G1) <| sOp S13 (oLt 3 G12 (xC (.i 3 (.ofNat 0)))) <| sOp S14 (oMv G13) <| sOpG (gG G14 false) S15 (oMv G1) <| sOpG (gG G14 false) S16 (oGt 3 G15 (xC (.i 3 (.ofNat 65536)))) <| sOp S17 (oPick G14 (xC (.b true)) G16) <| sNil))) (.cond G17 (.bad) (.skip))) (.seq (.rg (.fin (sOp S18 (oMv G1) <| sOp S19 (oMks G18 G18 1 [(.i 3 (.ofNat 0))] 8) <| sOp S5 (oMv G19) <| sNil))) (.seq (.seq (.rg (.fin (sOp S20 (oMv G1) <| sOp S21 (oMm false (xsC G20 <| xsC (xC (.i 3 (.ofNat 2))) <| xsN)) <| sOp S22 (oMv (xC (.i 3 (.ofNat 0)))) <| sNil))) (.blk 0 (.loop (.seq (.rg (.fin (sOp S23 (oLt 3 G22 G21) <| sNil))) (.seq (.cond G23 (.skip) (.exit 0)) (.seq (.blk 1 (.seq (.rg (.fin (sOp S24 (oMv G22) <| sOp S6 (oMv G24) <| sNil))) (.rg (.fin (sOp S25 (oMv G5) <| sOp S26 (oMv G6) <| sOp S27 (oIas G25 G26 1) <| sOp S28 (oLd1 G27) <| sOp S29 (oAr arAdd 3 G28 (xC (.i 3 (.ofNat 1)))) <| sOp S30 (oIas G25 G26 1) <| sOp dN (oSt G30 G29 1) <| sNil))))) (.rg (.fin (sOp S31 (oAr arAdd 3 G22 (xC (.i 3 (.ofNat 1)))) <| sOp S22 (oMv G31) <| sNil))))))))) (.seq (.seq (.rg (.call (sOp S32 (oLd G2 7) <| sNil) gN S33 61 (xsC G32 <| xsN) <| .fin (sOp S34 (oLenl G33) <| sOp S35 (oMv (xC (.i 3 (.ofNat 0)))) <| sNil))) (.blk 2 (.loop (.seq (.rg (.fin (sOp S36 (oLt 3 G35 G34) <| sNil))) (.seq (.cond G36 (.skip) (.exit 2)) (.bad)))))) (.seq (.rg (.fin (sOp S96 (oMv G5) <| sOp S4 (oMv G96) <| sNil))) (.ret))))))) (r1 (.t 4))
noncomputable def W1541 : AFn := .mk (.seq (.rg (.fin (sOp S3 (oBx G0) <| sOp S5 (oBx G2) <| sOp S6 (oAl [(.i 3 (.ofNat 0)), (.i 3 (.ofNat 0)), (.s []), .ns, .ns, .ns, .ns] 7) <| sNil))) (.seq (.rg (.call (sOp S10 (oFa G3 3) <| sOp S11 (oLd G10 1) <| sNil) gN S12 42 (xsC G11 <| xsC (xC (.i 3 (.ofNat 4096))) <| xsN) <| .fin (sOp S13 (oFa G3 3) <| sOp dN (oSt G13 G12 1) <| sNil))) (.seq (.rg (.call (sOp S14 (oFa G3 4) <| sOp S15 (oLd1 G14) <| sNil) gN S16 63 (xsC G15 <| xsN) <| .fin (sOp S17 (oFa G3 4) <| sOp dN (oSt G17 G16 1) <| sNil))) (.seq (.seq (.rg (.fin (sOp S18 (oMv G1) <| sOp S19 (oLenl G18) <| sOp S20 (oMv (xC (.i 3 (.ofNat 0)))) <| sNil))) (.blk 0 (.loop (.seq (.rg (.fin (sOp S21 (oLt 3 G20 G19) <| sNil))) (.seq (.cond G21 (.skip) (.exit 0)) (.seq (.blk 1 (.seq (.rg (.fin (sOp S22 (oIas G18 G20 2) <| sOp S23 (oLd G22 2) <| sOp S8 (oAl [(.i 3 (.ofNat 0)), (.i 3 (.ofNat 0))] 2) <| sOp dN (oSt G8 G23 2) <| sNil))) (.seq (.seq (.rg (.fin (sOp S24 (oFa G8 0) <| sOp S25 (oLd1 G24) <| sOp S26 (oLt 3 G25 (xC (.i 3 (.ofNat 0)))) <| sNil))) (.cond G26 (.seq (.rg (.call (sOp S27 (oFa G3 3) <| sOp S28 (oLd G27 1) <| sOp S29 (oFa G8 1) <| sOp S30 (oLd1 G29) <| sOp S31 (oLd G5 5) <| sNil) gN S32 64 (xsC G28 <| xsC G30 <| xsC G31 <| xsN) <| .fin (sOp S33 (oFa G3 3) <| sOp dN (oSt G33 G32 1) <| sNil))) (.exit 1)) (.skip))) (.bad)))) (.rg (.fin (sOp S50 (oAr arAdd 3 G20 (xC (.i 3 (.ofNat 1)))) <| sOp S20 (oMv G50) <| sNil))))))))) (.seq (.rg (.fin (sOp S51 (oLd G3 7) <| sOp dN (oSt G6 G51 7) <| sNil))) (.ret)))))) (r1 (.c 6 7))
noncomputable def W1542 : AFn := .mk (.seq (.rg (.fin (sOp S2 (oBx G0) <| sOp S4 (oAl [.ns] 1) <| sNil))) (.seq (.seq (.rg (.fin (sOp S6 (oMv G1) <| sOp S7 (oMm true (xsC G6 <| xsC (xC (.i 3 (.ofNat 0))) <| xsN)) <| sOp S5 (oMv G7) <| sNil))) (.blk 0 (.loop (.seq (.seq (.rg (.fin (sOp S8 (oMv G5) <| sOp S9 (oFa G2 0) <| sOp S10 (oLd1 G9) <| sOp S11 (oLenl G10) <| sOp S12 (oAr arMul 3 G11 (xC (.i 3 (.ofNat 8)))) <| sOp S13 (oMm false (xsC G12 <| xsC (xC (.i 3 (.ofNat 4096))) <| xsN)) <| sOp S14 (oLt 3 G8 G13) <| sNil))) (.cond G14 (.skip) (.exit 0))) (.bad))))) (.seq (.rg (.call (sOp S26 (oLd G2 1) <| sNil) gN S27 67 (xsC G26 <| xsN) <| .fin (sOp dN (oSt G4 G27 1) <| sNil))) (.ret)))) (r1 (.c 4 1))
noncomputable def W1543 : AFn := .mk (.seq (.rg (.fin (sOp S2 (oMv (xC .ns)) <| sNil))) (.seq (.seq (.rg (.fin (sOp S3 (oMv G0) <| sOp S4 (oEqn false 1 G3 (xC .ns)) <| sNil))) (.cond G4 (.seq (.rg (.fin (sOp S2 (oMv (xC .ns)) <| sNil))) (.ret)) (.skip))) (.bad))) (r1 (.t 2))
noncomputable def W1549 : AFn := .mk (.seq (.rg (.fin (sOp S1 (oBx G0) <| sOp S2 (oMv (xC (.b false))) <| sNil))) (.seq (.rg (.fin (sOp S3 (oFa G1 1) <| sOp S4 (oLd1 G3) <| sOp S5 (oGe 3 G4 (xC (.i 3 (.ofNat 2)))) <| sOp S6 (oMv G5) <| sOpG (gG G6 true) S7 (oFa G1 1) <| sOpG (gG G6 true) S8 (oLd1 G7) <| sOpG (gG G6 true) S9 (oLe 3 G8 (xC (.i 3 (.ofNat 65536)))) <| sOp S10 (oPick G6 G9 (xC (.b false))) <| sOp S11 (oMv G10) <| sOpG (gG G11 true) S12 (oFa G1 2) <| sOpG (gG G11 true) S13 (oLd1 G12) <| sOpG (gG G11 true) S14 (oGe 3 G13 (xC (.i 3 (.ofNat 0)))) <| sOp S15 (oPick G11 G14 (xC (.b false))) <| sOp S16 (oMv G15) <| sOpG (gG G16 true) S17 (oFa G1 2) <| sOpG (gG G16 true) S18 (oLd1 G17) <| sOpG (gG G16 true) S19 (oFa G1 1) <| sOpG (gG G16 true) S20 (oLd1 G19) <| sOpG (gG G16 true) S21 (oAr arSub 3 (xC (.i 3 (.ofNat 65536))) G20) <| sOpG (gG G16 true) S22 (oLe 3 G18 G21) <| sOp S23 (oPick G16 G22 (xC (.b false))) <| sOp S2 (oMv G23) <| sNil))) (.ret))) (r1 (.t 2))
noncomputable def W1552 : AFn := .mk (.seq (.rg (.fin (sOp S4 (oMv (xC (.i 6 (.ofNat 0)))) <| sNil))) (.seq (.rg (.fin (sOp S5 (oAl [(.i 6 (.ofNat 0)), (.i 2 (.ofNat 0)), (.i 6 (.ofNat 0)), (.i 6 (.ofNat 0)), (.i 6 (.ofNat 0)), (.i 6 (.ofNat 0)), (.i 6 (.ofNat 0)), (.i 6 (.ofNat 0)), (.i 6 (.ofNat 0)), (.i 6 (.ofNat 0)), (.i 6 (.ofNat 0)), (.i 6 (.ofNat 0)), (.i 6 (.ofNat 0)), (.i 6 (.ofNat 0)), (.i 6 (.ofNat 0)), (.i 6 (.ofNat 0)), (.i 6 (.ofNat 0)), (.i 6 (.ofNat 0)), (.i 6 (.ofNat 0))] 19) <| sNil))) (.seq (.rg (.fin (sOp S9 (oMv G0) <| sOp S10 (oCm G9) <| sOp S6 (oMv G10) <| sNil))) (.seq (.seq (.rg (.fin (sOp S11 (oMv G1) <| sOp S12 (oLenl G11) <| sOp S13 (oMv (xC (.i 3 (.ofNat 0)))) <| sNil))) (.blk 0 (.loop (.seq (.rg (.fin (sOp S14 (oLt 3 G13 G12) <| sNil))) (.seq (.cond G14 (.skip) (.exit 0)) (.seq (.blk 1 (.seq (.rg (.fin (sOp S15 (oIas G11 G13 1) <| sOp S16 (oLd1 G15) <| sOp S8 (oMv G16) <| sNil))) (.seq (.rg (.fin (sOp S17 (oMv G6) <| sOp S18 (oMv G8) <| sOp S19 (oCvi 6 G18) <| sOp S20 (oAr arXor 6 G17 G19) <| sOp S6 (oMv G20) <| sNil))) (.seq (.rg (.call (sOp S21 (oMv G6) <| sNil) gN S22 68 (xsC G5 <| xsC G21 <| xsN) <| .fin (sOp S23 (oMv G6) <| sOp S24 (oShr 6 G23 (xC (.i 7 (.ofNat 4)))) <| sOp S25 (oAr arXor 6 G22 G24) <| sOp S6 (oMv G25) <| sNil))) (.rg (.call (sOp S26 (oMv G6) <| sNil) gN S27 68 (xsC G5 <| xsC G26 <| xsN) <| .fin (sOp S28 (oMv G6) <| sOp S29 (oShr 6 G28 (xC (.i 7 (.ofNat 4)))) <| sOp S30 (oAr arXor 6 G27 G29) <| sOp S6 (oMv G30) <| sNil))))))) (.rg (.fin (sOp S31 (oAr arAdd 3 G13 (xC (.i 3 (.ofNat 1)))) <| sOp S13 (oMv G31) <| sNil))))))))) (.seq (.rg (.fin (sOp S32 (oMv G6) <| sOp S33 (oCm G32) <| sOp S4 (oMv G33) <| sNil))) (.ret)))))) (r1 (.t 4))
noncomputable def W1556 : AFn := .mk (.seq (.rg (.fin (sOp S4 (oMv (xC (.b false))) <| sNil))) (.seq (.rg (.fin (sOp S5 (oMv G0) <| sOp S6 (oGe 3 G5 (xC (.i 3 (.ofNat 0)))) <| sOp S7 (oMv G6) <| sOpG (gG G7 true) S8 (oMv G0) <| sOpG (gG G7 true) S9 (oLe 3 G8 (xC (.i 3 (.ofNat 4096)))) <| sOp S10 (oPick G7 G9 (xC (.b false))) <| sOp S11 (oMv G10) <| sOpG (gG G11 true) S12 (oMv G0) <| sOpG (gG G11 true) S13 (oMv G1) <| sOpG (gG G11 true) S14 (oShl 3 (xC (.i 3 (.ofNat 1))) G13) <| sOpG (gG G11 true) S15 (oRem 3 G12 G14) <| sOpG (gG G11 true) S16 (oEq false 3 G15 (xC (.i 3 (.ofNat 0)))) <| sOp S17 (oPick G11 G16 (xC (.b false))) <| sOp S4 (oMv G17) <| sNil))) (.ret))) (r1 (.t 4))
noncomputable def W1558 : AFn := .mk (.seq (.rg (.fin (sOp S3 (oBx G0) <| sOp S6 (oMv (xC (.b false))) <| sNil))) (.seq (.seq (.rg (.fin (sOp S12 (oMv G1) <| sOp S13 (oLt 3 G12 (xC (.i 3 (.ofNat 0)))) <| sOp S14 (oMv G13) <| sOpG (gG G14 false) S15 (oMv G1) <| sOpG (gG G14 false) S16 (oGt 3 G15 (xC (.i 3 (.ofNat 4096)))) <| sOp S17 (oPick G14 (xC (.b true)) G16) <| sOp S18 (oMv G17) <| sOpG (gG G18 false) S19 (oMv G2) <| sOpG (gG G18 false) S20 (oLt 3 G19 (xC (.i 3 (.ofNat 0)))) <| sOp S21 (oPick G18 (xC (.b true)) G20) <| sOp S22 (oMv G21) <| sOpG (gG G22 false) S23 (oMv G2) <| sOpG (gG G22 false) S24 (oGt 3 G23 (xC (.i 3 (.ofNat 6)))) <| sOp S25 (oPick G22 (xC (.b true)) G24) <| sNil))) (.cond G25 (.bad) (.skip))) (.seq (.seq (.rg (.fin (sOp S26 (oFa G3 0) <| sOp S27 (oLd1 G26) <| sOp S28 (oLenl G27) <| sOp S29 (oMv (xC (.i 3 (.ofNat 0)))) <| sNil))) (.blk 0 (.loop (.seq (.rg (.fin (sOp S30 (oLt 3 G29 G28) <| sNil))) (.seq (.cond G30 (.skip) (.exit 0)) (.seq (.blk 1 (.seq (.rg (.fin (sOp S31 (oMv G29) <| sOp S32 (oIas G27 G29 1) <| sOp S33 (oLd1 G32) <| sOp S7 (oMv G31) <| sOp S8 (oMv G33) <| sNil))) (.seq (.seq (.rg (.fin (sOp S34 (oMv G8) <| sOp S35 (oLenl G34) <| sOp S36 (oEq false 3 G35 (xC (.i 3 (.ofNat 0)))) <| sOp S37 (oMv G36) <| sOpG (gG G37 true) S38 (oMv G7) <| sOpG (gG G37 true) S39 (oFa G3 0) <| sOpG (gG G37 true) S40 (oLd1 G39) <| sOpG (gG G37 true) S41 (oLenl G40) <| sOpG (gG G37 true) S42 (oAr arSub 3 G41 (xC (.i 3 (.ofNat 1)))) <| sOpG (gG G37 true) S43 (oLt 3 G38 G42) <| sOp S44 (oPick G37 G43 (xC (.b false))) <| sNil))) (.cond G44 (.bad) (.skip))) (.seq (.seq (.rg (.fin (sOp S45 (oMv G8) <| sOp S46 (oLenl G45) <| sOp S47 (oEq true 3 G46 (xC (.i 3 (.ofNat 8)))) <| sNil))) (.cond G47 (.bad) (.skip))) (.seq (.rg (.fin (sOp S9 (oMv (xC (.b false))) <| sNil))) (.seq (.seq (.rg (.fin (sOp S48 (oMv G8) <| sOp S49 (oLenl G48) <| sOp S50 (oMv (xC (.i 3 (.ofNat 0)))) <| sNil))) (.blk 2 (.loop (.seq (.rg (.fin (sOp S51 (oLt 3 G50 G49) <| sNil))) (.seq (.cond G51 (.skip) (.exit 2)) (.seq (.blk 3 (.seq (.rg (.fin (sOp S52 (oMv G50) <| sOp S53 (oIas G48 G50 5) <| sOp S54 (oLd G53 5) <| sOp S11 (oAl [(.i 3 (.ofNat 0)), (.i 3 (.ofNat 0)), (.i 3 (.ofNat 0)), (.i 3 (.ofNat 0)), (.i 6 (.ofNat 0))] 5) <| sOp S10 (oMv G52) <| sOp dN (oSt G11 G54 5) <| sNil))) (.seq (.seq (.rg (.call (sOp S55 (oLd G11 5) <| sOp S56 (oMv G2) <| sNil) gN S57 23 (xsC G55 <| xsC G56 <| xsN) <| .call (sOp S58 (oNt G57) <| sOp S59 (oMv G58) <| sOpG (gG G59 false) S60 (oLd G11 5) <| sNil) (gG G59 false) S61 65 (xsC G60 <| xsN) <| .fin (sOpG (gG G59 false) S62 (oNt G61) <| sOpG (gG G59 false) S63 (oMv G62) <| sOpG (gG G63 true) S64 (oMv G7) <| sOpG (gG G63 true) S65 (oAr arMul 3 G64 (xC (.i 3 (.ofNat 8)))) <| sOpG (gG G63 true) S66 (oMv G10) <| sOpG (gG G63 true) S67 (oAr arAdd 3 G65 G66) <| sOpG (gG G63 true) S68 (oMv G1) <| sOpG (gG G63 true) S69 (oGe 3 G67 G68) <| sOpG (gG G59 false) S70 (oPick G63 G69 (xC (.b false))) <| sOp S71 (oPick G59 (xC (.b true)) G70) <| sNil))) (.cond G71 (.bad) (.skip))) (.rg (.call (sOp S72 (oMv G9) <| sOp S73 (oMv G72) <| sOpG (gG G73 false) S74 (oLd G11 5) <| sNil) (gG G73 false) S75 65 (xsC G74 <| xsN) <| .fin (sOpG (gG G73 false) S76 (oNt G75) <| sOp S77 (oPick G73 (xC (.b true)) G76) <| sOp S9 (oMv G77) <| sNil)))))) (.rg (.fin (sOp S78 (oAr arAdd 3 G50 (xC (.i 3 (.ofNat 1)))) <| sOp S50 (oMv G78) <| sNil))))))))) (.seq (.rg (.fin (sOp S79 (oMv G9) <| sOp S80 (oNt G79) <| sNil))) (.cond G80 (.bad) (.skip))))))))) (.rg (.fin (sOp S81 (oAr arAdd 3 G29 (xC (.i 3 (.ofNat 1)))) <| sOp S29 (oMv G81) <| sNil))))))))) (.seq (.rg (.fin (sOp S6 (oMv (xC (.b true))) <| sNil))) (.ret))))) (r1 (.t 6))
noncomputable def W1560 : AFn := .mk (.seq (.rg (.fin (sOp S2 (oMv (xC (.b false))) <| sNil))) (.seq (.rg (.fin (sOp S6 (oMkm) <| sOp S3 (oMv G6) <| sNil))) (.seq (.seq (.rg (.fin (sOp S7 (oMv G0) <| sOp S8 (oLenl G7) <| sOp S9 (oMv (xC (.i 3 (.ofNat 0)))) <| sNil))) (.blk 0 (.loop (.seq (.rg (.fin (sOp S10 (oLt 3 G9 G8) <| sNil))) (.seq (.cond G10 (.skip) (.exit 0)) (.bad)))))) (.seq (.rg (.fin (sOp S2 (oMv (xC (.b true))) <| sNil))) (.ret))))) (r1 (.t 2))
noncomputable def W1561 : AFn := .mk (.seq (.rg (.fin (sOp S1 (oBx G0) <| sOp S2 (oMv (xC .ns)) <| sNil))) (.seq (.rg (.call (sOp S6 (oFa G1 3) <| sOp S7 (oLd G6 1) <| sNil) gN S8 71 (xsC (xC (.i 3 (.negSucc 0))) <| xsC G7 <| xsN) <| .call (sNil) gN S9 70 (xsC G8 <| xsN) <| .fin (sOp S3 (oMv G9) <| sNil))) (.seq (.seq (.rg (.fin (sOp S10 (oFa G1 4) <| sOp S11 (oLd1 G10) <| sOp S12 (oLenl G11) <| sOp S13 (oMv (xC (.i 3 (.ofNat 0)))) <| sNil))) (.blk 0 (.loop (.seq (.rg (.fin (sOp S14 (oLt 3 G13 G12) <| sNil))) (.seq (.cond G14 (.skip) (.exit 0)) (.bad)))))) (.seq (.rg (.fin (sOp S25 (oMv G3) <| sOp S2 (oMv G25) <| sNil))) (.ret))))) (r1 (.t 2))
noncomputable def W1563 : AFn := .mk (.seq (.rg (.fin (sOp S2 (oMv (xC .ns)) <| sNil))) (.seq (.seq (.rg (.fin (sOp S3 (oMv G0) <| sOp S4 (oEqn false 1 G3 (xC .ns)) <| sNil))) (.cond G4 (.seq (.rg (.fin (sOp S2 (oMv (xC .ns)) <| sNil))) (.ret)) (.skip))) (.bad))) (r1 (.t 2))
noncomputable def W1564 : AFn := .mk (.seq (.rg (.fin (sOp S3 (oBx G0) <| sOp S5 (oBx G2) <| sOp S6 (oAl [.ns] 1) <| sNil))) (.seq (.rg (.call (sOp S10 (oLd G3 1) <| sNil) gN S11 67 (xsC G10 <| xsN) <| .fin (sOp S7 (oAl [.ns] 1) <| sOp dN (oSt G7 G11 1) <| sNil))) (.seq (.seq (.rg (.call (sOp S12 (oMv G1) <| sOp S13 (oLt 3 G12 (xC (.i 3 (.ofNat 0)))) <| sOp S14 (oMv G13) <| sOpG (gG G14 false) S15 (oMv G1) <| sOpG (gG G14 false) S16 (oGe 3 G15 (xC (.i 3 (.ofNat 4096)))) <| sOp S17 (oPick G14 (xC (.b true)) G16) <| sOp S18 (oMv G17) <| sOpG (gG G18 false) S19 (oLd G3 1) <| sOpG (gG G18 false) S20 (oLd G5 5) <| sNil) (gG G18 false) S21 73 (xsC G19 <| xsC G20 <| xsN) <| .fin (sOpG (gG G18 false) S22 (oNt G21) <| sOp S23 (oPick G18 (xC (.b true)) G22) <| sNil))) (.cond G23 (.bad) (.skip))) (.seq (.blk 0 (.loop (.seq (.seq (.rg (.fin (sOp S25 (oFa G7 0) <| sOp S26 (oLd1 G25) <| sOp S27 (oLenl G26) <| sOp S28 (oMv G1) <| sOp S29 (oAr arQuo 3 G28 (xC (.i 3 (.ofNat 8)))) <| sOp S30 (oLe 3 G27 G29) <| sNil))) (.cond G30 (.skip) (.exit 0))) (.bad)))) (.seq (.rg (.fin (sOp S36 (oFa G7 0) <| sOp S37 (oLd1 G36) <| sOp S38 (oMv G1) <| sOp S39 (oAr arQuo 3 G38 (xC (.i 3 (.ofNat 8)))) <| sOp S40 (oIas G37 G39 1) <| sOp S41 (oLd1 G40) <| sOp S8 (oMv G41) <| sNil))) (.seq (.seq (.rg (.fin (sOp S42 (oMv G8) <| sOp S43 (oLenl G42) <| sOp S44 (oEq false 3 G43 (xC (.i 3 (.ofNat 0)))) <| sNil))) (.cond G44 (.bad) (.skip))) (.seq (.rg (.fin (sOp S46 (oMv G8) <| sOp S47 (oMv G1) <| sOp S48 (oRem 3 G47 (xC (.i 3 (.ofNat 8)))) <| sOp S49 (oLd G5 5) <| sOp S50 (oIas G46 G48 5) <| sOp dN (oSt G50 G49 5) <| sNil))) (.seq (.seq (.rg (.call (sOp S51 (oMv G8) <| sNil) gN S52 74 (xsC G51 <| xsC (xC (.fn 75 [])) <| xsN) <| .fin (sOp S53 (oNt G52) <| sNil))) (.cond G53 (.bad) (.skip))) (.seq (.rg (.fin (sOp S54 (oFa G7 0) <| sOp S55 (oLd1 G54) <| sOp S56 (oMv G1) <| sOp S57 (oAr arQuo 3 G56 (xC (.i 3 (.ofNat 8)))) <| sOp S58 (oMv G8) <| sOp S59 (oIas G55 G57 1) <| sOp dN (oSt G59 G58 1) <| sNil))) (.seq (.seq (.rg (.fin (sOp S60 (oFa G7 0) <| sOp S61 (oLd1 G60) <| sOp S62 (oLenl G61) <| sOp S9 (oMv G62) <| sNil))) (.blk 2 (.loop (.seq (.seq (.rg (.fin (sOp S63 (oMv G9) <| sOp S64 (oGt 3 G63 (xC (.i 3 (.ofNat 0)))) <| sOp S65 (oMv G64) <| sOpG (gG G65 true) S66 (oFa G7 0) <| sOpG (gG G65 true) S67 (oLd1 G66) <| sOpG (gG G65 true) S68 (oMv G9) <| sOpG (gG G65 true) S69 (oAr arSub 3 G68 (xC (.i 3 (.ofNat 1)))) <| sOpG (gG G65 true) S70 (oIas G67 G69 1) <| sOpG (gG G65 true) S71 (oLd1 G70) <| sOpG (gG G65 true) S72 (oLenl G71) <| sOpG (gG G65 true) S73 (oEq false 3 G72 (xC (.i 3 (.ofNat 0)))) <| sOp S74 (oPick G65 G73 (xC (.b false))) <| sNil))) (.cond G74 (.skip) (.exit 2))) (.bad))))) (.seq (.rg (.fin (sOp S83 (oLd G7 1) <| sOp dN (oSt G6 G83 1) <| sNil))) (.ret)))))))))))) (r1 (.c 6 1))
noncomputable def W1565 : AFn := .mk (.seq (.rg (.fin (sOp S1 (oBx G0) <| sOp S2 (oMv (xC (.b false))) <| sNil))) (.seq (.rg (.fin (sOp S3 (oLd G1 5) <| sOp S4 (oBld [(.i 3 (.ofNat 0)), (.i 3 (.ofNat 0)), (.i 3 (.ofNat 0)), (.i 3 (.ofNat 0)), (.i 6 (.ofNat 0))] pNil) <| sOp S5 (oEqs false (eqT true [3, 3, 3, 3, 6]) G3 G4) <| sOp S2 (oMv G5) <| sNil))) (.ret))) (r1 (.t 2))
noncomputable def W1566 : AFn := .mk (.seq (.rg (.fin (sOp S2 (oBx G0) <| sOp S4 (oAl [(.i 3 (.ofNat 0)), (.i 3 (.ofNat 0)), (.i 3 (.ofNat 0)), (.i 3 (.ofNat 0)), (.i 6 (.ofNat 0))] 5) <| sNil))) (.seq (.seq (.rg (.fin (sOp S6 (oMv G1) <| sOp S7 (oLt 3 G6 (xC (.i 3 (.ofNat 0)))) <| sOp S8 (oMv G7) <| sOpG (gG G8 false) S9 (oMv G1) <| sOpG (gG G8 false) S10 (oAr arQuo 3 G9 (xC (.i 3 (.ofNat 8)))) <| sOpG (gG G8 false) S11 (oFa G2 0) <| sOpG (gG G8 false) S12 (oLd1 G11) <| sOpG (gG G8 false) S13 (oLenl G12) <| sOpG (gG G8 false) S14 (oGe 3 G10 G13) <| sOp S15 (oPick G8 (xC (.b true)) G14) <| sNil))) (.cond G15 (.bad) (.skip))) (.seq (.rg (.fin (sOp S17 (oFa G2 0) <| sOp S18 (oLd1 G17) <| sOp S19 (oMv G1) <| sOp S20 (oAr arQuo 3 G19 (xC (.i 3 (.ofNat 8)))) <| sOp S21 (oIas G18 G20 1) <| sOp S22 (oLd1 G21) <| sOp S5 (oMv G22) <| sNil))) (.seq (.seq (.rg (.fin (sOp S23 (oMv G1) <| sOp S24 (oRem 3 G23 (xC (.i 3 (.ofNat 8)))) <| sOp S25 (oMv G5) <| sOp S26 (oLenl G25) <| sOp S27 (oGe 3 G24 G26) <| sNil))) (.cond G27 (.bad) (.skip))) (.seq (.rg (.fin (sOp S29 (oMv G5) <| sOp S30 (oMv G1) <| sOp S31 (oRem 3 G30 (xC (.i 3 (.ofNat 8)))) <| sOp S32 (oIas G29 G31 5) <| sOp S33 (oLd G32 5) <| sOp dN (oSt G4 G33 5) <| sNil))) (.ret)))))) (r1 (.c 4 5))
noncomputable def W1567 : AFn := .mk (.seq (.rg (.fin (sOp S1 (oBx G0) <| sOp S2 (oAl [.ns] 1) <| sNil))) (.seq (.rg (.fin (sOp S3 (oAl [.ns] 1) <| sNil))) (.seq (.seq (.rg (.fin (sOp S6 (oFa G1 0) <| sOp S7 (oLd1 G6) <| sOp S8 (oLenl G7) <| sOp S9 (oMv (xC (.i 3 (.ofNat 0)))) <| sNil))) (.blk 0 (.loop (.seq (.rg (.fin (sOp S10 (oLt 3 G9 G8) <| sNil))) (.seq (.cond G10 (.skip) (.exit 0)) (.seq (.blk 1 (.seq (.rg (.fin (sOp S11 (oIas G7 G9 1) <| sOp S12 (oLd1 G11) <| sOp S5 (oMv G12) <| sNil))) (.rg (.call (sOp S13 (oFa G3 0) <| sOp S14 (oLd1 G13) <| sOp S15 (oMv G5) <| sNil) gN S16 76 (xsC G15 <| xsN) <| .fin (sAg gN G14 (oLd1 G13) <| sOp S17 (oBsl [.ns] 1 1 (pPt 0 1 G16 <| pNil)) <| sOp S18 (oApn G14 G17 1 24) <| sOp S19 (oFa G3 0) <| sOp dN (oSt G19 G18 1) <| sNil))))) (.rg (.fin (sOp S20 (oAr arAdd 3 G9 (xC (.i 3 (.ofNat 1)))) <| sOp S9 (oMv G20) <| sNil))))))))) (.seq (.rg (.fin (sOp S21 (oLd G3 1) <| sOp dN (oSt G2 G21 1) <| sNil))) (.ret))))) (r1 (.c 2 1))
noncomputable def W1568 : AFn := .mk (.seq (.rg (.fin (sOp S2 (oBx G0) <| sOp S4 (oMv (xC (.i 6 (.ofNat 0)))) <| sNil))) (.seq (.rg (.call (sOp S5 (oLd1 G2) <| sOp S6 (oNc G5) <| sOp S7 (oFa G6 0) <| sOp S8 (oMkf 78 (xsC G2 <| xsN)) <| sNil) gN S9 77 (xsC G7 <| xsC G8 <| xsN) <| .fin (sNil))) (.seq (.rg (.fin (sOp S10 (oLd1 G2) <| sOp S11 (oMv G1) <| sOp S12 (oRem 6 G11 (xC (.i 6 (.ofNat 16)))) <| sOp S13 (oNc G10) <| sOp S14 (oFa G13 3) <| sOp S15 (oIaa G14 G12 16 1) <| sOp S16 (oLd1 G15) <| sOp S4 (oMv G16) <| sNil))) (.ret)))) (r1 (.t 4))
noncomputable def W1570 : AFn := .mk (.seq (.rg (.fin (sOp S2 (oMv (xC .ns)) <| sNil))) (.seq (.rg (.call (sOp S3 (oMv G0) <| sNil) gN S4 72 (xsC (xC .ns) <| xsC G3 <| xsN) <| .fin (sOp S2 (oMv G4) <| sNil))) (.ret))) (r1 (.t 2))
noncomputable def W1571 : AFn := .mk (.seq (.rg (.fin (sOp S2 (oBx G0) <| sOp S3 (oBx G1) <| sOp S4 (oMv (xC .nf)) <| sNil))) (.seq (.rg (.fin (sOp S5 (oMkf 79 (xsC G3 <| xsC G2 <| xsN)) <| sOp S4 (oMv G5) <| sNil))) (.ret))) (r1 (.t 4))
noncomputable def W1572 : AFn := .mk (.seq (.rg (.fin (sOp S2 (oBx G0) <| sOp S4 (oMv (xC .ns)) <| sNil))) (.seq (.seq (.rg (.fin (sOp S6 (oMv G1) <| sNil))) (.blk 0 (.rf G6 1152))) (.seq (.rg (.fin (sOp S12 (oLd1 G2) <| sOp S4 (oMv G12) <| sNil))) (.ret)))) (r1 (.t 4))
noncomputable def W15l1152 : ALp := .mk (asC 7 <| asN0) (.rg (.fin (sOp S5 (oAl [(.i 3 (.ofNat 0)), (.i 3 (.ofNat 0)), (.i 3 (.ofNat 0)), (.i 3 (.ofNat 0)), (.i 3 (.ofNat 0)), (.i 3 (.ofNat 0)), (.i 6 (.ofNat 0))] 7) <| sOp dN (oSt G5 G7 7) <| sNil))) (.blk 1 (.rg (.fin (sOp S8 (oLd1 G2) <| sOp S9 (oLd G5 7) <| sOp S10 (oBsl [(.i 3 (.ofNat 0)), (.i 3 (.ofNat 0)), (.i 3 (.ofNat 0)), (.i 3 (.ofNat 0)), (.i 3 (.ofNat 0)), (.i 3 (.ofNat 0)), (.i 6 (.ofNat 0))] 7 1 (pPt 0 7 G9 <| pNil)) <| sOp S11 (oApn G8 G10 7 56) <| sOp dN (oSt G2 G11 1) <| sNil))))
noncomputable def W1573 : AFn := .mk (.seq (.rg (.fin (sOp S2 (oBx G0) <| sOp S3 (oBx G1) <| sOp S4 (oMv (xC (.b false))) <| sNil))) (.seq (.seq (.rg (.fin (sOp S6 (oMv (xC (.i 3 (.ofNat 0)))) <| sNil))) (.blk 0 (.loop (.seq (.rg (.fin (sOp S7 (oLt 3 G6 (xC (.i 3 (.ofNat 7)))) <| sNil))) (.seq (.cond G7 (.skip) (.bad)) (.seq (.blk 1 (.seq (.rg (.fin (sOp S8 (oMv G6) <| sOp S5 (oMv G8) <| sNil))) (.seq (.rg (.call (sOp S9 (oLd G3 5) <| sOp S10 (oMv G5) <| sNil) gN S11 23 (xsC G9 <| xsC G10 <| xsN) <| .call (sOp S12 (oMv G11) <| sOpG (gG G12 true) S13 (oLd G2 1) <| sOpG (gG G12 true) S14 (oMv G5) <| sNil) (gG G12 true) S15 58 (xsC G13 <| xsC (xC (.i 3 (.ofNat 4096))) <| xsC G14 <| xsN) <| .fin (sOp S16 (oPick G12 G15 (xC (.b false))) <| sNil))) (.cond G16 (.seq (.rg (.fin (sOp S4 (oMv (xC (.b true))) <| sNil))) (.ret)) (.skip))))) (.bad))))))) (.bad))) (r1 (.t 4))
noncomputable def W1574 : AFn := .mk (.seq (.rg (.fin (sOp S4 (oMv (xC (.b false))) <| sNil))) (.seq (.rg (.call (sOp S5 (oMv G0) <| sOp S6 (oMv G1) <| sNil) gN S7 80 (xsC G5 <| xsC G6 <| xsN) <| .fin (sOp S8 (oGe 3 G7 (xC (.i 3 (.ofNat 0)))) <| sOp S4 (oMv G8) <| sNil))) (.ret))) (r1 (.t 4))
noncomputable def W1575 : AFn := .mk (.seq (.rg (.fin (sOp S1 (oBx G0) <| sOp S2 (oMv (xC (.b false))) <| sNil))) (.seq (.rg (.call (sOp S3 (oLd G1 5) <| sNil) gN S4 65 (xsC G3 <| xsN) <| .fin (sOp S5 (oNt G4) <| sOp S2 (oMv G5) <| sNil))) (.ret))) (r1 (.t 2))
noncomputable def W1576 : AFn := .mk (.seq (.rg (.fin (sOp S2 (oMv (xC .ns)) <| sNil))) (.seq (.seq (.rg (.fin (sOp S3 (oMv G0) <| sOp S4 (oEqn false 1 G3 (xC .ns)) <| sNil))) (.cond G4 (.bad) (.skip))) (.seq (.rg (.fin (sOp S5 (oBsl [] 0 0 pNil) <| sOp S6 (oMv G0) <| sOp S7 (oApn G5 G6 5 40) <| sOp S2 (oMv G7) <| sNil))) (.ret)))) (r1 (.t 2))
noncomputable def W1577 : AFn := .mk (.seq (.rg (.call (sOp S4 (oMv G0) <| sOp S5 (oNc G4) <| sOp S6 (oFa G5 0) <| sNil) gN S7 81 (xsC G6 <| xsN) <| .fin (sOp S8 (oNt G7) <| sNil))) (.cond G8 (.rg (.call (sOp S9 (oMv G0) <| sOp S10 (oMv G1) <| sNil) gN S11 82 (xsC G9 <| xsC G10 <| xsN) <| .fin (sNil))) (.skip))) (dRs [])
noncomputable def W1578 : AFn := .mk (.seq (.rg (.fin (sOp S4 (oMv (xC (.i 3 (.ofNat 0)))) <| sNil))) (.blk 0 (.loop (.seq (.rg (.fin (sOp S5 (oLt 3 G4 (xC (.i 3 (.ofNat 16)))) <| sNil))) (.seq (.cond G5 (.skip) (.exit 0)) (.seq (.blk 1 (.seq (.rg (.fin (sOp S6 (oMv G4) <| sOp S1 (oMv G6) <| sNil))) (.seq (.rg (.fin (sOp S7 (oMv G1) <| sOp S8 (oCvi 6 G7) <| sOp S2 (oMv G8) <| sNil))) (.seq (.seq (.rg (.fin (sOp S9 (oMv (xC (.i 3 (.ofNat 0)))) <| sNil))) (.blk 2 (.loop (.seq (.rg (.fin (sOp S10 (oLt 3 G9 (xC (.i 3 (.ofNat 4)))) <| sNil))) (.seq (.cond G10 (.skip) (.exit 2)) (.seq (.blk 3 (.seq (.rg (.fin (sOp S11 (oMv G2) <| sOp S12 (oAr arAnd 6 G11 (xC (.i 6 (.ofNat 1)))) <| sOp S3 (oMv G12) <| sNil))) (.seq (.rg (.fin (sOp S13 (oMv G2) <| sOp S14 (oShr 6 G13 (xC (.i 7 (.ofNat 1)))) <| sOp S2 (oMv G14) <| sNil))) (.seq (.rg (.fin (sOp S15 (oMv G3) <| sOp S16 (oEq false 6 G15 (xC (.i 6 (.ofNat 1)))) <| sNil))) (.cond G16 (.rg (.fin (sOp S17 (oMv G2) <| sOp S18 (oAr arXor 6 G17 (xC (.i 6 (.ofNat 2197175160)))) <| sOp S2 (oMv G18) <| sNil))) (.skip)))))) (.rg (.fin (sOp S19 (oAr arAdd 3 G9 (xC (.i 3 (.ofNat 1)))) <| sOp S9 (oMv G19) <| sNil))))))))) (.rg (.fin (sOp S20 (oLd1 G0) <| sOp S21 (oMv G1) <| sOp S22 (oMv G2) <| sOp S23 (oNc G20) <| sOp S24 (oFa G23 3) <| sOp S25 (oIaa G24 G21 16 1) <| sOp dN (oSt G25 G22 1) <| sNil))))))) (.rg (.fin (sOp S26 (oAr arAdd 3 G4 (xC (.i 3 (.ofNat 1)))) <| sOp S4 (oMv G26) <| sNil))))))))) (dRs [])
noncomputable def W1579 : AFn := .mk (.seq (.rg (.fin (sOp S6 (oFa G1 0) <| sOp S7 (oLd1 G6) <| sOp S8 (oLenl G7) <| sOp S9 (oAr arMul 3 G8 (xC (.i 3 (.ofNat 8)))) <| sOp S10 (oMv (xC (.i 3 (.ofNat 0)))) <| sNil))) (.blk 0 (.loop (.seq (.rg (.fin (sOp S11 (oLt 3 G10 G9) <| sNil))) (.seq (.cond G11 (.skip) (.exit 0)) (.seq (.blk 1 (.seq (.rg (.fin (sOp S12 (oMv G10) <| sOp S4 (oMv G12) <| sNil))) (.seq (.rg (.call (sOp S13 (oLd G1 1) <| sOp S14 (oMv G4) <| sNil) gN S15 66 (xsC G13 <| xsC G14 <| xsN) <| .fin (sOp S5 (oAl [(.i 3 (.ofNat 0)), (.i 3 (.ofNat 0)), (.i 3 (.ofNat 0)), (.i 3 (.ofNat 0)), (.i 6 (.ofNat 0))] 5) <| sOp dN (oSt G5 G15 5) <| sNil))) (.seq (.rg (.calv (sOp S16 (oFa G5 0) <| sOp S17 (oLd1 G16) <| sOp S18 (oEq false 3 G17 (xC (.i 3 (.ofNat 2)))) <| sOp S19 (oMv G18) <| sOpG (gG G19 false) S20 (oFa G5 0) <| sOpG (gG G19 false) S21 (oLd1 G20) <| sOpG (gG G19 false) S22 (oEq false 3 G21 (xC (.i 3 (.ofNat 3)))) <| sOp S23 (oPick G19 (xC (.b true)) G22) <| sOp S24 (oMv G23) <| sOpG (gG G24 true) S25 (oMv G0) <| sOpG (gG G24 true) S26 (oLd1 G2) <| sOpG (gG G24 true) S27 (oMv G4) <| sOpG (gG G24 true) S28 (oLd G5 5) <| sOpG (gG G24 true) S29 (oBld [(.i 3 (.ofNat 0)), (.i 3 (.ofNat 0)), (.i 3 (.ofNat 0)), (.i 3 (.ofNat 0)), (.i 3 (.ofNat 0)), (.i 3 (.ofNat 0)), (.i 6 (.ofNat 0))] (pPt 0 1 G26 <| pPt 1 1 G27 <| pPt 2 5 G28 <| pNil)) <| sNil) (gG G24 true) S30 G25 (xsC G29 <| xsN) <| .fin (sOpG (gG G24 true) S31 (oNt G30) <| sOp S32 (oPick G24 G31 (xC (.b false))) <| sNil))) (.cond G32 (.ret) (.skip)))))) (.rg (.fin (sOp S33 (oAr arAdd 3 G10 (xC (.i 3 (.ofNat 1)))) <| sOp S10 (oMv G33) <| sNil))))))))) (dRs [])
noncomputable def W1580 : AFn := .mk (.seq (.rg (.fin (sOp S4 (oMv (xC (.i 3 (.ofNat 0)))) <| sNil))) (.seq (.seq (.rg (.fin (sOp S6 (oMv G0) <| sOp S7 (oLenl G6) <| sOp S8 (oMv (xC (.i 3 (.ofNat 0)))) <| sNil))) (.blk 0 (.loop (.seq (.rg (.fin (sOp S9 (oLt 3 G8 G7) <| sNil))) (.seq (.cond G9 (.skip) (.bad)) (.seq (.blk 1 (.seq (.rg (.fin (sOp S10 (oMv G8) <| sOp S5 (oMv G10) <| sNil))) (.seq (.rg (.calv (sOp S11 (oMv G1) <| sOp S12 (oMv G0) <| sOp S13 (oMv G5) <| sOp S14 (oIas G12 G13 5) <| sOp S15 (oLd G14 5) <| sNil) gN S16 G11 (xsC G15 <| xsN) <| .fin (sNil))) (.cond G16 (.seq (.rg (.fin (sOp S17 (oMv G5) <| sOp S4 (oMv G17) <| sNil))) (.ret)) (.skip))))) (.bad))))))) (.bad))) (r1 (.t 4))
noncomputable def W1581 : AFn := .mk (.seq (.rg (.fin (sOp S2 (oMv (xC (.b false))) <| sNil))) (.seq (.rg (.fin (sOp S3 (oMv G0) <| sOp S4 (oNc G3) <| sOp S5 (oFa G4 0) <| sOp S6 (oAld 6 G5) <| sOp S7 (oEq true 6 G6 (xC (.i 6 (.ofNat 0)))) <| sOp S2 (oMv G7) <| sNil))) (.ret))) (r1 (.t 2))
noncomputable def W1582 : AFn := .mk (.seq (.rg (.call (sOp S4 (oMv G0) <| sOp S5 (oNc G4) <| sOp S6 (oFa G5 1) <| sNil) gN S7 84 (xsC G6 <| xsN) <| .fin (sNil))) (.seq (.rg (.dfr (sOp S8 (oMv G0) <| sOp S9 (oNc G8) <| sOp S10 (oFa G9 1) <| sNil) gN dN (xC (.fn 85 [])) (xsC G10 <| xsN) <| .fin (sNil))) (.seq (.rg (.call (sOp S11 (oMv G0) <| sOp S12 (oNc G11) <| sOp S13 (oFa G12 0) <| sNil) gN S14 81 (xsC G13 <| xsN) <| .fin (sOp S15 (oNt G14) <| sNil))) (.cond G15 (.seq (.rg (.dfr (sOp S16 (oMv G0) <| sOp S17 (oNc G16) <| sOp S18 (oFa G17 0) <| sNil) gN dN (xC (.fn 86 [])) (xsC G18 <| xsC (xC (.b true)) <| xsN) <| .fin (sNil))) (.rg (.calv (sOp S19 (oMv G1) <| sNil) gN S20 G19 xsN <| .fin (sNil)))) (.skip))))) (dRs [])
noncomputable def W1584 : AFn := .mk (.rg (.call (sOp S2 (oMv G0) <| sOp S3 (oNc G2) <| sOp S4 (oFa G3 0) <| sNil) gN S5 87 (xsC G4 <| xsN) <| .fin (sNil))) (dRs [])
noncomputable def W1585 : AFn := .mk (.rg (.call (sOp S2 (oMv G0) <| sOp S3 (oNc G2) <| sOp S4 (oFa G3 0) <| sNil) gN S5 88 (xsC G4 <| xsN) <| .fin (sNil))) (dRs [])
noncomputable def W1586 : AFn := .mk (.rg (.call (sOp S4 (oMv G0) <| sOp S5 (oNc G4) <| sOp S6 (oFa G5 0) <| sOp S7 (oMv G1) <| sNil) gN S8 90 (xsC G7 <| xsN) <| .fin (sOp S9 (oAst G6 G8) <| sNil))) (dRs [])
noncomputable def W1587 : AFn := .mk (.seq (.rg (.fin (sOp S2 (oNop) <| sNil))) (.seq (.seq (.rg (.fin (sOp S3 (oMv G0) <| sOp S4 (oNc G3) <| sOp S5 (oFa G4 0) <| sOp S6 (oAcs 2 G5 (xC (.i 2 (.ofNat 0))) (xC (.i 2 (.ofNat 1)))) <| sNil))) (.cond G6 (.seq (.cond (xC (.b true)) (.seq (.rg (.fin (sOp S7 (oNop) <| sNil))) (.rg (.fin (sOp S8 (oMv G0) <| sOp S9 (oUptr G8) <| sOp S10 (oNopp G9) <| sNil)))) (.skip)) (.ret)) (.skip))) (.bad))) (dRs [])
noncomputable def W1588 : AFn := .mk (.seq (.cond (xC (.b true)) (.seq (.rg (.fin (sOp S3 (oMv G0) <| sOp S4 (oNc G3) <| sOp S5 (oFa G4 0) <| sOp S6 (oLd1 G5) <| sNil))) (.seq (.rg (.fin (sOp S7 (oMv G0) <| sOp S8 (oUptr G7) <| sOp S9 (oNopp G8) <| sNil))) (.rg (.fin (sOp S10 (oNop) <| sNil))))) (.skip)) (.seq (.rg (.fin (sOp S11 (oMv G0) <| sOp S12 (oNc G11) <| sOp S13 (oFa G12 0) <| sOp S14 (oAad 2 G13 (xC (.i 2 (.negSucc 0)))) <| sOp S2 (oMv G14) <| sNil))) (.seq (.seq (.rg (.fin (sOp S15 (oMv G2) <| sOp S16 (oEq true 2 G15 (xC (.i 2 (.ofNat 0)))) <| sNil))) (.cond G16 (.bad) (.skip))) (.rg (.fin (sOp S20 (oNop) <| sNil)))))) (dRs [])
noncomputable def W1590 : AFn := .mk (.seq (.rg (.fin (sOp S2 (oMv (xC (.i 6 (.ofNat 0)))) <| sNil))) (.seq (.seq (.rg (.fin (sOp S3 (oMv G0) <| sNil))) (.cond G3 (.seq (.rg (.fin (sOp S2 (oMv (xC (.i 6 (.ofNat 1)))) <| sNil))) (.ret)) (.skip))) (.bad))) (r1 (.t 2))
end Go.AM

namespace Go.AM
open Go
noncomputable def W15T : Tb := .mk (@N8.mk (L (Option AFn) 3) (@N8.mk (L (Option AFn) 2) (@N8.mk (L (Option AFn) 1) (repL (Option AFn) none 1) (@N8.mk (L (Option AFn) 0) (repL (Option AFn) none 0) (some W159) (some W1510) (repL (Option AFn) none 0) (some W1512) (repL (Option AFn) none 0) (repL (Option AFn) none 0) (some W1515)) (@N8.mk (L (Option AFn) 0) (some W1516) (repL (Option AFn) none 0) (repL (Option AFn) none 0) (repL (Option AFn) none 0) (repL (Option AFn) none 0) (repL (Option AFn) none 0) (some W1522) (some W1523)) (@N8.mk (L (Option AFn) 0) (some W1524) (repL (Option AFn) none 0) (some W1526) (repL (Option AFn) none 0) (repL (Option AFn) none 0) (repL (Option AFn) none 0) (repL (Option AFn) none 0) (repL (Option AFn) none 0)) (@N8.mk (L (Option AFn) 0) (repL (Option AFn) none 0) (repL (Option AFn) none 0) (repL (Option AFn) none 0) (repL (Option AFn) none 0) (repL (Option AFn) none 0) (some W1537) (some W1538) (some W1539)) (@N8.mk (L (Option AFn) 0) (some W1540) (some W1541) (some W1542) (some W1543) (repL (Option AFn) none 0) (repL (Option AFn) none 0) (repL (Option AFn) none 0) (repL (Option AFn) none 0)) (@N8.mk (L (Option AFn) 0) (repL (Option AFn) none 0) (some W1549) (repL (Option AFn) none 0) (repL (Option AFn) none 0) (some W1552) (repL (Option AFn) none 0) (repL (Option AFn) none 0) (repL (Option AFn) none 0)) (@N8.mk (L (Option AFn) 0) (some W1556) (repL (Option AFn) none 0) (some W1558) (repL (Option AFn) none 0) (some W1560) (some W1561) (repL (Option AFn) none 0) (some W1563))) (@N8.mk (L (Option AFn) 1) (@N8.mk (L (Option AFn) 0) (some W1564) (some W1565) (some W1566) (some W1567) (some W1568) (repL (Option AFn) none 0) (some W1570) (some W1571)) (@N8.mk (L (Option AFn) 0) (some W1572) (some W1573) (some W1574) (some W1575) (some W1576) (some W1577) (some W1578) (some W1579)) (@N8.mk (L (Option AFn) 0) (some W1580) (some W1581) (some W1582) (repL (Option AFn) none 0) (some W1584) (some W1585) (some W1586) (some W1587)) (@N8.mk (L (Option AFn) 0) (some W1588) (repL (Option AFn) none 0) (some W1590) (repL (Option AFn) none 0) (repL (Option AFn) none 0) (repL (Option AFn) none 0) (repL (Option AFn) none 0) (repL (Option AFn) none 0)) (repL (Option AFn) none 1) (repL (Option AFn) none 1) (repL (Option AFn) none 1) (repL (Option AFn) none 1)) (repL (Option AFn) none 2) (repL (Option AFn) none 2) (repL (Option AFn) none 2) (repL (Option AFn) none 2) (repL (Option AFn) none 2) (repL (Option AFn) none 2)) (repL (Option AFn) none 3) (repL (Option AFn) none 3) (repL (Option AFn) none 3) (repL (Option AFn) none 3) (repL (Option AFn) none 3) (repL (Option AFn) none 3) (repL (Option AFn) none 3)) (@N8.mk (L (Option ALp) 4) (@N8.mk (L (Option ALp) 3) (repL (Option ALp) none 3) (repL (Option ALp) none 3) (@N8.mk (L (Option ALp) 2) (repL (Option ALp) none 2) (repL (Option ALp) none 2) (@N8.mk (L (Option ALp) 1) (@N8.mk (L (Option ALp) 0) (some W15l1152) (repL (Option ALp) none 0) (repL (Option ALp) none 0) (repL (Option ALp) none 0) (repL (Option ALp) none 0) (repL (Option ALp) none 0) (repL (Option ALp) none 0) (repL (Option ALp) none 0)) (repL (Option ALp) none 1) (repL (Option ALp) none 1) (repL (Option ALp) none 1) (repL (Option ALp) none 1) (repL (Option ALp) none 1) (repL (Option ALp) none 1) (repL (Option ALp) none 1)) (repL (Option ALp) none 2) (repL (Option ALp) none 2) (repL (Option ALp) none 2) (repL (Option ALp) none 2) (repL (Option ALp) none 2)) (repL (Option ALp) none 3) (repL (Option ALp) none 3) (repL (Option ALp) none 3) (repL (Option ALp) none 3) (repL (Option ALp) none 3)) (repL (Option ALp) none 4) (repL (Option ALp) none 4) (repL (Option ALp) none 4) (repL (Option ALp) none 4) (repL (Option ALp) none 4) (repL (Option ALp) none 4) (repL (Option ALp) none 4)) true
noncomputable def W15fl : List (Nat × AFn) := [(9, W159), (10, W1510), (12, W1512), (15, W1515), (16, W1516), (22, W1522), (23, W1523), (24, W1524), (26, W1526), (37, W1537), (38, W1538), (39, W1539), (40, W1540), (41, W1541), (42, W1542), (43, W1543), (49, W1549), (52, W1552), (56, W1556), (58, W1558), (60, W1560), (61, W1561), (63, W1563), (64, W1564), (65, W1565), (66, W1566), (67, W1567), (68, W1568), (70, W1570), (71, W1571), (72, W1572), (73, W1573), (74, W1574), (75, W1575), (76, W1576), (77, W1577), (78, W1578), (79, W1579), (80, W1580), (81, W1581), (82, W1582), (84, W1584), (85, W1585), (86, W1586), (87, W1587), (88, W1588), (90, W1590)]
noncomputable def W15ll : List (Nat × ALp) := [(1152, W15l1152)]
theorem W15T_eq : W15T = .mk (mkT 4 W15fl) (mkT 5 W15ll) true := by kernel_rfl
end Go.AM

namespace Go.AM
open Go
set_option maxHeartbeats 0
set_option maxRecDepth 100000
theorem W15ok9 : FOk Proofs.Try.prog (9, W159) := fOk (by decide) (by kernel_rfl)
theorem W15ok10 : FOk Proofs.Try.prog (10, W1510) := fOkP (m := (.two .all (.two (.two .all (.two .cut .all)) (.two .all (.two (.two .all (.two .cut .all)) (.two .all (.two .all (.two (.two .all (.two .cut .all)) .all)))))))) (by decide) (by kernel_rfl)
theorem W15ok12 : FOk Proofs.Try.prog (12, W1512) := fOk (by decide) (by kernel_rfl)
theorem W15ok15 : FOk Proofs.Try.prog (15, W1515) := fOkP (m := (.two .all (.two (.two .all (.two .cut .all)) (.two .all (.two .all (.two .all (.two .all (.two .all (.two .all (.two (.two .all (.one (.one (.two .all (.two .all (.two (.one (.two .all (.two (.two .all (.two .cut .all)) (.two .all (.two (.two .all (.two .cut .all)) (.one (.two .all (.two .all (.two .all (.two .cut .all)))))))))) .all)))))) .all)))))))))) (by decide) (by kernel_rfl)
theorem W15ok16 : FOk Proofs.Try.prog (16, W1516) := fOkP (m := (.two .all (.two (.two .all (.two .cut .all)) (.two .all (.two .all (.two (.two .all (.one (.one (.two .all (.two .all .cut))))) (.two .all (.two (.two .all (.one (.one (.two .all (.two .all .cut))))) .all)))))))) (by decide) (by kernel_rfl)
theorem W15ok22 : FOk Proofs.Try.prog (22, W1522) := fOkP (m := (.two .all (.two (.two .all (.two .cut .all)) .all))) (by decide) (by kernel_rfl)
theorem W15ok23 : FOk Proofs.Try.prog (23, W1523) := fOkP (m := (.two .all (.two (.two .all (.two .cut .all)) (.two .all (.two .all (.two (.two .all (.one (.two (.one (.two (.one (.two (.one (.two (.one (.one (.two (.two .all (.two .all (.two .all .cut))) .cut))) (.two .all .cut))) .all)) .cut)) .cut))) .all)))))) (by decide) (by kernel_rfl)
theorem W15ok24 : FOk Proofs.Try.prog (24, W1524) := fOkP (m := (.two .all (.two (.two .all (.two .cut .all)) .all))) (by decide) (by kernel_rfl)
theorem W15ok26 : FOk Proofs.Try.prog (26, W1526) := fOk (by decide) (by kernel_rfl)
theorem W15ok37 : FOk Proofs.Try.prog (37, W1537) := fOkP (m := (.two .all (.two (.two .all (.two .cut .all)) (.two (.two .all (.two .cut .all)) (.two .all (.two (.two .all (.one (.one (.two .all (.two .all .cut))))) (.two (.two .all (.one (.one (.two .all (.two .all .cut))))) (.two (.two .all (.one (.one (.two .all (.two .all .cut))))) .all)))))))) (by decide) (by kernel_rfl)
theorem W15ok38 : FOk Proofs.Try.prog (38, W1538) := fOk (by decide) (by kernel_rfl)
theorem W15ok39 : FOk Proofs.Try.prog (39, W1539) := fOkP (m := (.two .all (.two .all (.two .all (.two .all (.two (.two .all (.one (.one (.two .all (.two .all (.two (.one (.two .all (.one (.two .all (.two .all (.two .all (.two .all (.two (.two .all (.one (.one (.two .all (.two .all .cut))))) (.two .all .cut))))))))) .all)))))) .all)))))) (by decide) (by kernel_rfl)
end Go.AM
namespace Go.AM
open Go
set_option maxHeartbeats 0
set_option maxRecDepth 100000
theorem W15ok40 : FOk Proofs.Try.prog (40, W1540) := fOkP (m := (.two .all (.two (.two .all (.two .cut .all)) (.two .all (.two .all (.two (.two .all (.one (.one (.two .all (.two .all .cut))))) .all)))))) (by decide) (by kernel_rfl)
theorem W15ok41 : FOk Proofs.Try.prog (41, W1541) := fOkP (m := (.two .all (.two .all (.two .all (.two (.two .all (.one (.one (.two .all (.two .all (.two (.one (.two .all (.two .all .cut))) .all)))))) .all))))) (by decide) (by kernel_rfl)
theorem W15ok42 : FOk Proofs.Try.prog (42, W1542) := fOkP (m := (.two .all (.two (.two .all (.one (.one (.two .all .cut)))) .all))) (by decide) (by kernel_rfl)
theorem W15ok43 : FOk Proofs.Try.prog (43, W1543) := fOkP (m := (.two .all (.two .all .cut))) (by decide) (by kernel_rfl)
theorem W15ok49 : FOk Proofs.Try.prog (49, W1549) := fOk (by decide) (by kernel_rfl)
theorem W15ok52 : FOk Proofs.Try.prog (52, W1552) := fOk (by decide) (by kernel_rfl)
theorem W15ok56 : FOk Proofs.Try.prog (56, W1556) := fOk (by decide) (by kernel_rfl)
theorem W15ok58 : FOk Proofs.Try.prog (58, W1558) := fOkP (m := (.two .all (.two (.two .all (.two .cut .all)) (.two (.two .all (.one (.one (.two .all (.two .all (.two (.one (.two .all (.two (.two .all (.two .cut .all)) (.two (.two .all (.two .cut .all)) (.two .all (.two (.two .all (.one (.one (.two .all (.two .all (.two (.one (.two .all (.two (.two .all (.two .cut .all)) .all))) .all)))))) (.two .all (.two .cut .all)))))))) .all)))))) .all)))) (by decide) (by kernel_rfl)
theorem W15ok60 : FOk Proofs.Try.prog (60, W1560) := fOkP (m := (.two .all (.two .all (.two (.two .all (.one (.one (.two .all (.two .all .cut))))) .all)))) (by decide) (by kernel_rfl)
theorem W15ok61 : FOk Proofs.Try.prog (61, W1561) := fOkP (m := (.two .all (.two .all (.two (.two .all (.one (.one (.two .all (.two .all .cut))))) .all)))) (by decide) (by kernel_rfl)
theorem W15ok63 : FOk Proofs.Try.prog (63, W1563) := fOkP (m := (.two .all (.two .all .cut))) (by decide) (by kernel_rfl)
theorem W15ok64 : FOk Proofs.Try.prog (64, W1564) := fOkP (m := (.two .all (.two .all (.two (.two .all (.two .cut .all)) (.two (.one (.one (.two .all .cut))) (.two .all (.two (.two .all (.two .cut .all)) (.two .all (.two (.two .all (.two .cut .all)) (.two .all (.two (.two .all (.one (.one (.two .all .cut)))) .all))))))))))) (by decide) (by kernel_rfl)
end Go.AM
namespace Go.AM
open Go
set_option maxHeartbeats 0
set_option maxRecDepth 100000
theorem W15ok65 : FOk Proofs.Try.prog (65, W1565) := fOk (by decide) (by kernel_rfl)
theorem W15ok66 : FOk Proofs.Try.prog (66, W1566) := fOkP (m := (.two .all (.two (.two .all (.two .cut .all)) (.two .all (.two (.two .all (.two .cut .all)) .all))))) (by decide) (by kernel_rfl)
theorem W15ok67 : FOk Proofs.Try.prog (67, W1567) := fOk (by decide) (by kernel_rfl)
theorem W15ok68 : FOk Proofs.Try.prog (68, W1568) := fOk (by decide) (by kernel_rfl)
theorem W15ok70 : FOk Proofs.Try.prog (70, W1570) := fOk (by decide) (by kernel_rfl)
theorem W15ok71 : FOk Proofs.Try.prog (71, W1571) := fOk (by decide) (by kernel_rfl)
theorem W15ok72 : FOk Proofs.Try.prog (72, W1572) := fOk (by decide) (by kernel_rfl)
theorem W15ok73 : FOk Proofs.Try.prog (73, W1573) := fOkP (m := (.two .all (.two (.two .all (.one (.one (.two .all (.two (.two .all .cut) (.two .all .cut)))))) .cut))) (by decide) (by kernel_rfl)
theorem W15ok74 : FOk Proofs.Try.prog (74, W1574) := fOk (by decide) (by kernel_rfl)
theorem W15ok75 : FOk Proofs.Try.prog (75, W1575) := fOk (by decide) (by kernel_rfl)
theorem W15ok76 : FOk Proofs.Try.prog (76, W1576) := fOkP (m := (.two .all (.two (.two .all (.two .cut .all)) .all))) (by decide) (by kernel_rfl)
theorem W15ok77 : FOk Proofs.Try.prog (77, W1577) := fOk (by decide) (by kernel_rfl)
end Go.AM
namespace Go.AM
open Go
set_option maxHeartbeats 0
set_option maxRecDepth 100000
theorem W15ok78 : FOk Proofs.Try.prog (78, W1578) := fOk (by decide) (by kernel_rfl)
theorem W15ok79 : FOk Proofs.Try.prog (79, W1579) := fOk (by decide) (by kernel_rfl)
theorem W15ok80 : FOk Proofs.Try.prog (80, W1580) := fOkP (m := (.two .all (.two (.two .all (.one (.one (.two .all (.two (.two .all .cut) (.two .all .cut)))))) .cut))) (by decide) (by kernel_rfl)
theorem W15ok81 : FOk Proofs.Try.prog (81, W1581) := fOk (by decide) (by kernel_rfl)
theorem W15ok82 : FOk Proofs.Try.prog (82, W1582) := fOk (by decide) (by kernel_rfl)
theorem W15ok84 : FOk Proofs.Try.prog (84, W1584) := fOk (by decide) (by kernel_rfl)
theorem W15ok85 : FOk Proofs.Try.prog (85, W1585) := fOk (by decide) (by kernel_rfl)
theorem W15ok86 : FOk Proofs.Try.prog (86, W1586) := fOk (by decide) (by kernel_rfl)
theorem W15ok87 : FOk Proofs.Try.prog (87, W1587) := fOkP (m := (.two .all (.two .all .cut))) (by decide) (by kernel_rfl)
theorem W15ok88 : FOk Proofs.Try.prog (88, W1588) := fOkP (m := (.two .all (.two .all (.two (.two .all (.two .cut .all)) .all)))) (by decide) (by kernel_rfl)
theorem W15ok90 : FOk Proofs.Try.prog (90, W1590) := fOkP (m := (.two .all (.two .all .cut))) (by decide) (by kernel_rfl)
theorem W15lok1152 : LOk Proofs.Try.prog (1152, W15l1152) := ⟨by decide, by kernel_rfl⟩
end Go.AM

namespace Go.AM
open Go
set_option maxHeartbeats 0
set_option maxRecDepth 1000000
noncomputable def W15fc0 : List (Nat × AFn) := [(9, W159), (10, W1510), (12, W1512), (15, W1515), (16, W1516), (22, W1522), (23, W1523), (24, W1524), (26, W1526), (37, W1537), (38, W1538), (39, W1539), (40, W1540), (41, W1541), (42, W1542), (43, W1543), (49, W1549), (52, W1552), (56, W1556), (58, W1558), (60, W1560), (61, W1561), (63, W1563), (64, W1564), (65, W1565), (66, W1566), (67, W1567), (68, W1568), (70, W1570), (71, W1571), (72, W1572), (73, W1573), (74, W1574), (75, W1575), (76, W1576), (77, W1577), (78, W1578), (79, W1579), (80, W1580), (81, W1581)]
theorem W15fc0_ok : All (FOk Proofs.Try.prog) W15fc0 := ⟨W15ok9, W15ok10, W15ok12, W15ok15, W15ok16, W15ok22, W15ok23, W15ok24, W15ok26, W15ok37, W15ok38, W15ok39, W15ok40, W15ok41, W15ok42, W15ok43, W15ok49, W15ok52, W15ok56, W15ok58, W15ok60, W15ok61, W15ok63, W15ok64, W15ok65, W15ok66, W15ok67, W15ok68, W15ok70, W15ok71, W15ok72, W15ok73, W15ok74, W15ok75, W15ok76, W15ok77, W15ok78, W15ok79, W15ok80, W15ok81, trivial⟩
noncomputable def W15fc1 : List (Nat × AFn) := [(82, W1582), (84, W1584), (85, W1585), (86, W1586), (87, W1587), (88, W1588), (90, W1590)]
theorem W15fc1_ok : All (FOk Proofs.Try.prog) W15fc1 := ⟨W15ok82, W15ok84, W15ok85, W15ok86, W15ok87, W15ok88, W15ok90, trivial⟩
noncomputable def W15lc0 : List (Nat × ALp) := [(1152, W15l1152)]
theorem W15lc0_ok : All (LOk Proofs.Try.prog) W15lc0 := ⟨W15lok1152, trivial⟩
theorem W15fl_eq : W15fl = W15fc0 ++ (W15fc1 ++ []) := by kernel_rfl
theorem W15ll_eq : W15ll = W15lc0 ++ [] := by kernel_rfl
theorem W15tb : TbOk W15T Proofs.Try.prog := by
  rw [W15T_eq, W15fl_eq, W15ll_eq]
  exact tbOk (All.app W15fc0_ok (All.app W15fc1_ok trivial)) (All.app W15lc0_ok trivial)
end Go.AM

namespace Go.Den
open Go
inductive Ct where
  | int (k : IntKind) | bool | str | sl (m : Bool) (cs : List Ct) | oth
inductive U where
  | i (n : Int) | b (x : Bool) | s (x : ByteArray) | l (xs : List U)
def U.int : U → Int | .i n => n | _ => 0
def U.bool : U → Bool | .b x => x | _ => false
def U.str : U → ByteArray | .s x => x | _ => .empty
def U.list : U → List U | .l xs => xs | _ => []
def nth {α : Type} (d : α) : List α → Nat → α
  | [], _ => d
  | x :: _, 0 => x
  | _ :: r, n + 1 => nth d r n
abbrev U.at (l : List U) (k : Nat) : U := nth (.i 0) l k
@[simp] theorem U.int_i (n : Int) : (U.i n).int = n := rfl
@[simp] theorem U.bool_b (x : Bool) : (U.b x).bool = x := rfl
@[simp] theorem U.str_s (x : ByteArray) : (U.s x).str = x := rfl
@[simp] theorem U.list_l (x : List U) : (U.l x).list = x := rfl
@[simp] theorem nth_zero {α : Type} (d x : α) (l : List α) : nth d (x :: l) 0 = x := rfl
@[simp] theorem nth_succ {α : Type} (d x : α) (l : List α) (n : Nat) : nth d (x :: l) (n + 1) = nth d l n := rfl
@[simp] theorem nth_nil {α : Type} (d : α) (n : Nat) : nth d [] n = d := by cases n <;> rfl
@[simp] theorem nth_tail {α : Type} (d : α) (l : List α) (n : Nat) : nth d l.tail n = nth d l (n + 1) := by cases l <;> simp [nth]
@[simp] theorem nth_drop {α : Type} (d : α) : ∀ (k : Nat) (l : List α) (n : Nat), nth d (l.drop k) n = nth d l (k + n)
  | 0, l, n => by simp
  | k + 1, [], n => by simp
  | k + 1, x :: l, n => by rw [List.drop_succ_cons, nth_drop d k l n, show k + 1 + n = (k + n) + 1 by omega]; rfl
inductive SV where
  | val (c : Ct) (u : U)
  | agg (cs : List SV)
  | nil
  | own (id : Nat)
  | ptr (id : Nat) (off : Nat)
  | aptr (id sz idx off : Nat)
  | osl (id j z : Nat)
  | rptr (cs : List Ct) (us : List U)
  | nilp
  | tup (l : List SV)
  | clo (f : FuncId) (cs : List SV)
  | mp (id : Nat)
  | ifc (t : TypeId) (v : SV)
  | nili
  | und
  | unk
inductive Obj where
  | box (cells : List SV)
  | arr (e : TypeId) (xs : List U)
  | map (t : TypeId) (es : List (U × U))
structure St where
  env : List (Nat × SV)
  objs : List (Nat × Obj)
def get : List (Nat × SV) → Nat → SV
  | [], _ => .unk
  | (k, v) :: r, t => bif Nat.beq k t then v else get r t
def getO : List (Nat × Obj) → Nat → Option Obj
  | [], _ => none
  | (k, v) :: r, t => bif Nat.beq k t then some v else getO r t
def dropO : List (Nat × Obj) → Nat → List (Nat × Obj)
  | [], _ => []
  | (k, v) :: r, t => bif Nat.beq k t then dropO r t else (k, v) :: dropO r t
def St.set (σ : St) (t : Nat) (v : SV) : St := ⟨(t, v) :: σ.env, σ.objs⟩
def St.setO (σ : St) (t : Nat) (v : Obj) : St := ⟨σ.env, (t, v) :: dropO σ.objs t⟩
def SV.sub (id : Nat) (x : SV) : SV → SV
  | .own i => bif Nat.beq i id then x else .own i
  | .ptr i o => bif Nat.beq i id then .unk else .ptr i o
  | .aptr i z j o => bif Nat.beq i id then .unk else .aptr i z j o
  | .osl i j z => bif Nat.beq i id then .unk else .osl i j z
  | .agg cs => .agg (subs id x cs)
  | .tup cs => .tup (subs id x cs)
  | .clo f cs => .clo f (subs id x cs)
  | .mp i => bif Nat.beq i id then .unk else .mp i
  | .ifc t v => .ifc t (SV.sub id x v)
  | v => v
  where subs (id : Nat) (x : SV) : List SV → List SV
    | [] => []
    | v :: r => SV.sub id x v :: subs id x r
def subE (id : Nat) (x : SV) : List (Nat × SV) → List (Nat × SV)
  | [] => []
  | (t, v) :: r => (t, SV.sub id x v) :: subE id x r
def subO (id : Nat) (x : SV) : List (Nat × Obj) → List (Nat × Obj)
  | [] => []
  | (t, .box cs) :: r => (t, .box (SV.sub.subs id x cs)) :: subO id x r
  | (t, o) :: r => (t, o) :: subO id x r
def St.kill (σ : St) (id : Nat) : St := ⟨subE id .unk σ.env, subO id .unk σ.objs⟩
def St.new (σ : St) (id : Nat) (o : Obj) : St := (σ.kill id).setO id o
def St.freeze (σ : St) (id : Nat) (x : SV) : St := ⟨subE id x σ.env, subO id x (dropO σ.objs id)⟩
def elemU (m : Bool) (u : U) : List U := match m with | true => u.list | false => [u]
def ofElem (m : Bool) (us : List U) : U := match m with | true => .l us | false => U.at us 0
@[simp] theorem elemU_true (u : U) : elemU true u = u.list := rfl
@[simp] theorem elemU_false (u : U) : elemU false u = [u] := rfl
@[simp] theorem ofElem_true (us : List U) : ofElem true us = .l us := rfl
@[simp] theorem ofElem_false (us : List U) : ofElem false us = U.at us 0 := rfl
def inK (k : IntKind) (n : Int) : Bool := decide (k.min ≤ n) && decide (n ≤ k.max)
mutual

def okC : Ct → U → Prop
  | .int k, u => k.min ≤ u.int ∧ u.int ≤ k.max
  | .bool, _ => True
  | .str, u => u.str.size ≤ maxLen
  | .sl m cs, u => u.list.length ≤ maxLen ∧ ∀ k, k < u.list.length → okCs cs (elemU m (U.at u.list k))
  | .oth, _ => True
def okCs : List Ct → List U → Prop
  | [], _ => True
  | c :: cs, us => okC c (U.at us 0) ∧ okCs cs us.tail
end
def okS : SV → Prop
  | .val c u => okC c u
  | .agg cs => okSs cs
  | .tup cs => okSs cs
  | .clo _ cs => okSs cs
  | .ifc _ v => okS v
  | .rptr cs us => okCs cs us
  | _ => True
  where okSs : List SV → Prop
    | [] => True
    | v :: r => okS v ∧ okSs r
def ofConst : Value → SV
  | .int k n => bif inK k n then .val (.int k) (.i n) else .unk
  | .bool b => .val .bool (.b b)
  | .string s => bif Nat.ble s.size maxLen then .val .str (.s s) else .unk
  | .slice none 0 0 => .nil
  | .pointer none => .nilp
  | .nilIface => .nili
  | _ => .unk
def ofConsts : List Value → List SV
  | [] => []
  | v :: r => ofConst v :: ofConsts r
def St.ev (σ : St) : Operand → SV
  | .tmp t => get σ.env t
  | .const v => ofConst v
  | .func f => .clo f []
  | .global _ => .unk
def Ct.beq : Ct → Ct → Bool
  | .int .i64, .int .i64 => true
  | .int .u8, .int .u8 => true
  | .int .u32, .int .u32 => true
  | .int .u64, .int .u64 => true
  | .int .i32, .int .i32 => true
  | .int .u16, .int .u16 => true
  | .int .i8, .int .i8 => true
  | .int .i16, .int .i16 => true
  | .bool, .bool => true
  | .str, .str => true
  | .sl true a, .sl true b => beqs a b
  | .sl false a, .sl false b => beqs a b
  | _, _ => false
  where beqs : List Ct → List Ct → Bool
    | [], [] => true
    | a :: r, b :: s => match a.beq b with | true => beqs r s | false => false
    | _, _ => false
def fldCts (f : TypeId → Option (Bool × List Ct)) : List Field → Option (List Ct)
  | [] => some []
  | d :: r => match f d.type, fldCts f r with
    | some (_, cs), some ds => some (cs ++ ds)
    | _, _ => none
def cts (P : Program) : Nat → TypeId → Option (Bool × List Ct)
  | 0, _ => none
  | n + 1, t => match P.underlying t with
    | some (.int k) => some (false, [.int k])
    | some .bool => some (false, [.bool])
    | some .string => some (false, [.str])
    | some (.slice e) => match cts P n e with
      | some (m, cs) => some (false, [.sl m cs])
      | none => none
    | some (.struct fs) => match fldCts (cts P n) fs.toList with
      | some cs => some (true, cs)
      | none => none
    | some _ => some (false, [.oth])
    | none => none
def fldElems (f : TypeId → List (Option TypeId)) : List Field → List (Option TypeId)
  | [] => []
  | d :: r => f d.type ++ fldElems f r
def elemsOf (P : Program) : Nat → TypeId → List (Option TypeId)
  | 0, _ => []
  | n + 1, t => match P.underlying t with
    | some (.slice e) => [some e]
    | some (.struct fs) => fldElems (elemsOf P n) fs.toList
    | _ => [none]
abbrev Cs (P : Program) (t : TypeId) : Option (Bool × List Ct) := cts P 8 t
def okO (P : Program) : Obj → Prop
  | .box cells => okS.okSs cells
  | .arr e xs => xs.length ≤ maxLen ∧ ∀ m cs, Cs P e = some (m, cs) → ∀ k, k < xs.length → okCs cs (elemU m (U.at xs k))
  | .map _ _ => True
def okOs (P : Program) : List Obj → Prop
  | [] => True
  | o :: r => okO P o ∧ okOs P r
def aggD : TypeDesc → Bool
  | .struct _ => true
  | .array _ _ => true
  | _ => false
inductive Ex where
  | normal | ret | exit (n : Nat)
abbrev LoopF : Type := (SV → St → Prop) → List SV → List Obj → (Ex → St → Prop) → Prop
inductive Out where
  | ret (rs : List SV)
  | pan (v : SV)
abbrev Objs : Type := List (Nat × Obj)
abbrev Tr : Type := List SV → Objs → (Out → Objs → Prop) → Prop
inductive Ext where
  | load | add
structure Ctx where
  P : Program
  exts : FuncId → Option Ext := fun _ => none
  calm : FuncId → Bool := fun _ => false
  trs : FuncId → Option (List Bool × Tr)
  pan : SV → St → Prop
  fns : FuncId → List (List U) → Option (Option Prop × List (List U))
  eqs : TypeId → Option (List IntKind)
  loops : Nat → Option (List Nat × List Nat × LoopF)
  kout : Nat → Option (List Nat × List Nat)
  lout : Nat → Option (List Nat × List Nat)
def plainU (c : Ct) : SV → Option U
  | .val c' u => match c'.beq c with | true => some u | false => none
  | .nil => match c with | .sl _ _ => some (.l []) | _ => none
  | _ => none
def toU (P : Program) (objs : List (Nat × Obj)) (c : Ct) : SV → Option U
  | .own id => match c, getO objs id with
    | .sl m cs, some (.arr e xs) => match Cs P e with
      | some (m', cs') => match (Ct.sl m' cs').beq (.sl m cs) with | true => some (.l xs) | false => none
      | none => none
    | _, _ => none
  | s => plainU c s
def toUs (f : Ct → SV → Option U) : List Ct → List SV → Option (List U)
  | [], [] => some []
  | c :: cs, v :: vs => match f c v, toUs f cs vs with
    | some u, some us => some (u :: us)
    | _, _ => none
  | _, _ => none
def flat (P : Program) (f : Ct → SV → Option U) (t : TypeId) (v : SV) : Option (List U) := match Cs P t with
  | some (true, cs) => match v with
    | .agg vs => toUs f cs vs
    | _ => none
  | some (false, cs) => toUs f cs [v]
  | none => none
def flats (P : Program) (f : Ct → SV → Option U) : List TypeId → List SV → Option (List (List U))
  | [], [] => some []
  | t :: ts, v :: vs => match flat P f t v, flats P f ts vs with
    | some u, some us => some (u :: us)
    | _, _ => none
  | _, _ => none
def vals : List Ct → List U → List SV
  | [], _ => []
  | c :: cs, us => .val c (U.at us 0) :: vals cs us.tail
def unflat (P : Program) (t : TypeId) (us : List U) : Option SV := match Cs P t with
  | some (true, cs) => some (.agg (vals cs us))
  | some (false, [c]) => some (.val c (U.at us 0))
  | _ => none
def unflats (P : Program) : List TypeId → List (List U) → Option (List SV)
  | [], [] => some []
  | t :: ts, u :: us => match unflat P t u, unflats P ts us with
    | some v, some vs => some (v :: vs)
    | _, _ => none
  | _, _ => none
def handles : List SV → List Nat
  | [] => []
  | .own id :: r => id :: handles r
  | _ :: r => handles r
def strays (os : List Nat) : List Nat → List Nat
  | [] => []
  | id :: r => bif inN id os then strays os r else id :: strays os r
  where inN (id : Nat) : List Nat → Bool
    | [] => false
    | x :: r => Nat.beq id x || inN id r
def St.freezes (P : Program) (σ : St) : List Nat → Option St
  | [] => some σ
  | id :: r => match getO σ.objs id with
    | some (.arr e xs) => match Cs P e with
      | some (m, cs) => St.freezes P (σ.freeze id (.val (.sl m cs) (.l xs))) r
      | none => none
    | some (.box _) => none
    | some (.map _ _) => none
    | none => St.freezes P σ r
def cellsV : SV → List SV
  | .agg cs => cs
  | v => [v]
def nilCell (P : Program) (t : TypeId) : Option TypeId := match P.underlying t with | some (.slice e) => some e | _ => none
def cmp (op : BinOp) (x y : Int) : Option Bool := match op with
  | .eql => some (x == y) | .neq => some (x != y) | .lss => some (decide (x < y)) | .leq => some (decide (x ≤ y)) | .gtr => some (decide (x > y)) | .geq => some (decide (x ≥ y))
  | _ => none
def arith (op : BinOp) (k : IntKind) (x y : Int) : Option Int := match op with
  | .add => some (k.wrap (x + y)) | .sub => some (k.wrap (x - y)) | .mul => some (k.wrap (x * y))
  | .and => some (k.wrap (BitVec.ofInt k.bits x &&& BitVec.ofInt k.bits y).toNat)
  | .or => some (k.wrap (BitVec.ofInt k.bits x ||| BitVec.ofInt k.bits y).toNat)
  | .xor => some (k.wrap (BitVec.ofInt k.bits x ^^^ BitVec.ofInt k.bits y).toNat)
  | .andNot => some (k.wrap (BitVec.ofInt k.bits x &&& ~~~ BitVec.ofInt k.bits y).toNat)
  | _ => none
def compl (k : IntKind) (x : Int) : Int := k.wrap (BitVec.ofInt k.bits (bif k.signed then -1 else k.max) ^^^ BitVec.ofInt k.bits x).toNat
def IntKind.same : IntKind → IntKind → Bool
  | .i64, .i64 => true | .u8, .u8 => true | .u32, .u32 => true | .u64, .u64 => true | .i32, .i32 => true | .u16, .u16 => true | .i8, .i8 => true | .i16, .i16 => true
  | _, _ => false
def eqCells : List IntKind → List SV → List SV → Option Bool
  | [], [], [] => some true
  | k :: ks, .val (.int k1) x :: xs, .val (.int k2) y :: ys => match IntKind.same k k1, IntKind.same k k2, eqCells ks xs ys with
    | true, true, some b => some ((x.int == y.int) && b)
    | _, _, _ => none
  | _, _, _ => none
structure NilOr (e x y : Prop) : Prop where
  t : e → x
  f : y
section
def bin (C : Ctx) (op : BinOp) (t : TypeId) (x y : SV) (k : SV → Prop) : Prop :=
  match x, y with
  | .val (.int i) a, .val (.int j) b => match op with
    | .shl => bif decide (b.int < 0) then False else k (.val (.int i) (.i (i.wrap (a.int * 2 ^ (min b.int.toNat i.bits)))))
    | .shr => bif decide (b.int < 0) then False else k (.val (.int i) (.i (a.int.fdiv (2 ^ (min b.int.toNat i.bits)))))
    | _ => match IntKind.same i j with
      | false => False
      | true => match op with
        | .quo => bif decide (b.int = 0) then False else k (.val (.int i) (.i (i.wrap (a.int.tdiv b.int))))
        | .rem => bif decide (b.int = 0) then False else k (.val (.int i) (.i (a.int.tmod b.int)))
        | _ => match arith op i a.int b.int with
          | some n => k (.val (.int i) (.i n))
          | none => match cmp op a.int b.int with
            | some r => k (.val .bool (.b r))
            | none => False
  | .val .str a, .val .str b => match op with
    | .eql => k (.val .bool (.b (a.str.toList == b.str.toList)))
    | .neq => k (.val .bool (.b !(a.str.toList == b.str.toList)))
    | _ => False
  | .val .bool a, .val .bool b => match C.P.underlying t with
    | some .bool => match op with
      | .eql => k (.val .bool (.b (a.bool == b.bool)))
      | .neq => k (.val .bool (.b !(a.bool == b.bool)))
      | _ => False
    | _ => False
  | .agg xs, .agg ys => match C.eqs t with
    | some ks => match eqCells ks xs ys with
      | some b => match op with
        | .eql => k (.val .bool (.b b))
        | .neq => k (.val .bool (.b !b))
        | _ => False
      | none => False
    | none => False
  | .val (.sl _ _) a, .nil => match C.P.underlying t with
    | some (.slice _) => match op with
      | .eql => NilOr (a.list = []) (k (.val .bool (.b true))) (k (.val .bool (.b false)))
      | .neq => NilOr (a.list = []) (k (.val .bool (.b false))) (k (.val .bool (.b true)))
      | _ => False
    | _ => False
  | _, _ => False
def fieldOf (P : Program) (s : TypeId) (f : Nat) : Option Field := match P.underlying s with
  | some (.struct fs) => fs[f]?
  | _ => none
def sizeT (P : Program) (t : TypeId) : Option Nat := match P.info? t with | some i => some i.size | none => none
def isSize (P : Program) (t : TypeId) (n : Nat) : Bool := match sizeT P t with | some k => Nat.beq k n | none => false
def part (P : Program) (t : TypeId) (cells : List SV) (off : Nat) : Option SV := match sizeT P t, P.underlying t with
  | some n, some d => match aggD d with
    | true => bif Nat.ble (off + n) cells.length then some (.agg ((cells.drop off).take n)) else none
    | false => bif Nat.blt off cells.length then some (nth .unk cells off) else none
  | _, _ => none
def isCell : SV → Bool
  | .agg _ => false
  | .osl _ _ _ => false
  | .tup _ => false
  | .und => false
  | .unk => false
  | _ => true
def areCells : List SV → Bool
  | [] => true
  | v :: r => match isCell v with | true => areCells r | false => false
def patch (cells : List SV) (off : Nat) (news : List SV) : List SV := cells.take off ++ news ++ cells.drop (off + news.length)
def firsts (us : List U) : Nat → List U
  | 0 => []
  | n + 1 => U.at us 0 :: firsts us.tail n
def patchU (us : List U) (off : Nat) (news : List U) : List U := firsts us off ++ news ++ us.drop (off + news.length)
def source (P : Program) (objs : List (Nat × Obj)) (m : Bool) (cs : List Ct) (str : Bool) (s : SV) : Option (List U) := match str with
  | true => match s with
    | .val .str u => match (Ct.sl m cs).beq (.sl false [.int .u8]) with
      | true => some (u.str.data.toList.map fun b => .i b.toNat)
      | false => none
    | _ => none
  | false => match toU P objs (.sl m cs) s with
    | some u => some u.list
    | none => none
def room : Nat := 1073741824
def smallType (P : Program) (e : TypeId) : Bool := match P.info? e, Cs P e with
  | some i, some (_, cs) => match i.zero with
    | some z => Nat.ble i.bytes 128 && Nat.beq i.size cs.length && Nat.beq z.cells.size cs.length && Nat.blt 0 cs.length
    | none => false
  | _, _ => false
def isNil : SV → Bool
  | .nil => true
  | _ => false
def owned (P : Program) : Nat → List (Option TypeId) → List SV → List SV → St → Option (List SV × St)
  | _, [], acc, r, σ => some (acc ++ r, σ)
  | _, _ :: _, acc, [], σ => some (acc, σ)
  | id, some e :: es, acc, v :: r, σ => match isNil v with
      | true => match smallType P e with
        | true => owned P (id + 1) es (SV.sub.subs (2 * id) .unk acc ++ [.own (2 * id)]) (SV.sub.subs (2 * id) .unk r) (σ.new (2 * id) (.arr e []))
        | false => none
      | false => owned P (id + 1) es (acc ++ [v]) r σ
  | id, none :: es, acc, v :: r, σ => owned P (id + 1) es (acc ++ [v]) r σ
def zeroCells (P : Program) (e : TypeId) : Option (List SV) := match P.info? e with
  | some i => match i.zero with
    | some z => some (ofConsts z.cells.toList)
    | none => none
  | none => none
def zeroElem (P : Program) (e : TypeId) : Option U := match zeroCells P e, Cs P e with
  | some z, some (m, cs) => match toUs plainU cs z with
    | some us => some (ofElem m us)
    | none => none
  | _, _ => none
def aggV (m : Bool) : SV → Bool
  | .agg _ => m
  | _ => !m
def setD (σ : St) (d : Option Nat) (v : SV) : St := match d with | some t => σ.set t v | none => σ
def sizesOk (P : Program) : List Field → Bool
  | [] => true
  | f :: r => match sizeT P f.type with | some _ => sizesOk P r | none => false
def fillParts (P : Program) (fs : List Field) : List (Nat × SV) → List SV → Option (List SV)
  | [], cells => some cells
  | (i, v) :: r, cells => match fs[i]? with
    | some f => match sizeT P f.type with
      | some n => bif Nat.beq (cellsV v).length n && Nat.ble (f.offset + n) cells.length && areCells (cellsV v) then fillParts P fs r (patch cells f.offset (cellsV v)) else none
      | none => none
    | none => none
def litElems (m : Bool) (cs : List Ct) : List (Nat × SV) → List U → Option (List U)
  | [], xs => some xs
  | (i, v) :: r, xs => match toUs plainU cs (cellsV v) with
    | some us => bif Nat.blt i xs.length then litElems m cs r (xs.set i (ofElem m us)) else none
    | none => none
def lst (σ : St) : Option Operand → Option (Option Int)
  | none => some none
  | some x => match σ.ev x with
    | .val (.int _) u => some (some u.int)
    | _ => none
def evs (σ : St) : List Operand → List SV
  | [] => []
  | x :: r => σ.ev x :: evs σ r
def evps (σ : St) : List (Nat × Operand) → List (Nat × SV)
  | [] => []
  | (i, x) :: r => (i, σ.ev x) :: evps σ r
def handleCells : List (Nat × SV) → List Nat
  | [] => []
  | (_, v) :: r => handles (cellsV v) ++ handleCells r
def scalarC : Ct → Bool
  | .sl _ _ => false
  | .oth => false
  | _ => true
def scalarCs : List Ct → Bool
  | [] => true
  | c :: r => match scalarC c with | true => scalarCs r | false => false
def scalars (P : Program) : List TypeId → Bool
  | [] => true
  | t :: r => match Cs P t with
    | some (_, cs) => match scalarCs cs with | true => scalars P r | false => false
    | none => false
def handlesAll : List SV → List Nat
  | [] => []
  | v :: r => handles (cellsV v) ++ handlesAll r
def withP : Option Prop → Prop → Prop
  | none, q => q
  | some p, q => p ∧ q
def opCallIn (C : Ctx) (g : Ct → SV → Option U) (d : Option Nat) (f : FuncId) (fn : Func) (xs : List Operand) (σ : St) (k : St → Prop) : Prop :=
  match flats C.P g fn.params.toList (evs σ xs) with
  | none => False
  | some us => match C.fns f us with
    | none => False
    | some (p, rs) => match unflats C.P fn.resultTypes.toList rs with
      | none => False
      | some [v] => withP p (k (setD σ d v))
      | some vs => withP p (k (setD σ d (.tup vs)))
def memB (n : Nat) : List Nat → Bool
  | [] => false
  | m :: r => bif Nat.beq n m then true else memB n r
def nodupB : List Nat → Bool
  | [] => true
  | n :: r => bif memB n r then false else nodupB r
def SV.hs : SV → List Nat
  | .own i => [i]
  | .ptr i _ => [i]
  | .aptr i _ _ _ => [i]
  | .osl i _ _ => [i]
  | .mp i => [i]
  | .agg cs => hss cs
  | .tup cs => hss cs
  | .clo _ cs => hss cs
  | .ifc _ v => SV.hs v
  | _ => []
  where hss : List SV → List Nat
    | [] => []
    | v :: r => SV.hs v ++ hss r
def Obj.hs : Obj → List Nat
  | .box cs => SV.hs.hss cs
  | _ => []
def reach (objs : Objs) : Nat → List Nat → List Nat → List Nat
  | 0, _, acc => acc
  | _, [], acc => acc
  | n + 1, i :: r, acc => bif memB i acc then reach objs n r acc else match getO objs i with
    | none => reach objs n r acc
    | some o => reach objs n (o.hs ++ r) (acc ++ [i])
def lk : List (Nat × Nat) → Nat → Option Nat
  | [], _ => none
  | (a, b) :: r, i => bif Nat.beq a i then some b else lk r i
def SV.ren (m : List (Nat × Nat)) : SV → SV
  | .own i => match lk m i with | some j => .own j | none => .unk
  | .ptr i o => match lk m i with | some j => .ptr j o | none => .unk
  | .aptr i z k o => match lk m i with | some j => .aptr j z k o | none => .unk
  | .osl i k z => match lk m i with | some j => .osl j k z | none => .unk
  | .mp i => match lk m i with | some j => .mp j | none => .unk
  | .agg cs => .agg (rens m cs)
  | .tup cs => .tup (rens m cs)
  | .clo f cs => .clo f (rens m cs)
  | .ifc t v => .ifc t (SV.ren m v)
  | v => v
  where rens (m : List (Nat × Nat)) : List SV → List SV
    | [] => []
    | v :: r => SV.ren m v :: rens m r
def Obj.ren (m : List (Nat × Nat)) : Obj → Obj
  | .box cs => .box (SV.ren.rens m cs)
  | o => o
def canonAt (k : Nat) : Obj → Nat
  | .arr _ _ => 2 * (1048576 + 64 * k)
  | _ => 2 * (1048576 + 64 * k) + 1
def canonMap (objs : Objs) : Nat → List Nat → List (Nat × Nat)
  | _, [] => []
  | k, i :: r => match getO objs i with
    | some o => (i, canonAt k o) :: canonMap objs (k + 1) r
    | none => canonMap objs k r
def pickR (objs : Objs) (m : List (Nat × Nat)) : List (Nat × Nat) → Objs
  | [] => []
  | (i, j) :: r => match getO objs i with
    | some o => (j, o.ren m) :: pickR objs m r
    | none => pickR objs m r
def keysO : Objs → List Nat
  | [] => []
  | (i, _) :: r => i :: keysO r
def Out.hs : Out → List Nat
  | .ret rs => SV.hs.hss rs
  | .pan v => v.hs
def Out.ren (m : List (Nat × Nat)) : Out → Out
  | .ret rs => .ret (SV.ren.rens m rs)
  | .pan v => .pan (v.ren m)
def fsts : List (Nat × Nat) → List Nat
  | [] => []
  | (a, _) :: r => a :: fsts r
def snds : List (Nat × Nat) → List Nat
  | [] => []
  | (_, b) :: r => b :: snds r
def oddB (n : Nat) : Bool := Nat.beq (n % 2) 1
def canonOk : Objs → Bool
  | [] => true
  | (i, o) :: r => bif memB i (keysO r) then false else bif (match o with | .arr _ _ => !oddB i | _ => oddB i) then canonOk r else false
def finMap (objs0 objs : Objs) : Nat → List Nat → List (Nat × Nat)
  | _, [] => []
  | k, i :: r => bif memB i (keysO objs0) then (i, i) :: finMap objs0 objs k r else match getO objs i with
    | some o => (i, canonAt k o) :: finMap objs0 objs (k + 1) r
    | none => finMap objs0 objs k r
def finT (objs0 : Objs) (R : Out → Objs → Prop) (out : Out) (objs : Objs) : Prop :=
  let ids := reach objs 400 (keysO objs0 ++ out.hs) []
  let m := finMap objs0 objs objs0.length ids
  bif nodupB (fsts m) && nodupB (snds m) && clear objs0 m then R (out.ren m) (pickR objs m m) else False
  where clear (objs0 : Objs) : List (Nat × Nat) → Bool
    | [] => true
    | (i, j) :: r => bif Nat.beq i j || !memB j (keysO objs0) then clear objs0 r else false
def plainV (P : Program) (t : TypeId) (v : SV) : SV := match flat P plainU t v with
  | some us => match unflat P t us with
    | some v' => v'
    | none => v
  | none => v
def plainVs (P : Program) : List Bool → List TypeId → List SV → List SV
  | _, _, [] => []
  | _, [], v :: vs => v :: vs
  | fs, t :: ts, v :: vs => (match nth false fs 0 with | true => v | false => plainV P t v) :: plainVs P fs.tail ts vs
def frozenArgs : List Bool → List SV → List Nat
  | _, [] => []
  | fs, v :: vs => (match nth false fs 0 with | true => [] | false => handles (cellsV v)) ++ frozenArgs fs.tail vs
def dropsO (objs : Objs) : List (Nat × Nat) → Objs
  | [] => objs
  | (i, _) :: r => dropsO (dropO objs i) r
def St.wipe (σ : St) : List Nat → St
  | [] => σ
  | id :: r => St.wipe ⟨subE id .unk σ.env, subO id .unk (dropO σ.objs id)⟩ r
def layO (objs : Objs) : Objs → Objs
  | [] => objs
  | (id, o) :: r => layO ((id, o) :: dropO objs id) r
def backMap (m : List (Nat × Nat)) : Nat → List Nat → List (Nat × Nat)
  | _, [] => []
  | b, c :: r => match lk m c with
    | some i => (c, i) :: backMap m b r
    | none => (c, 2 * b) :: backMap m (b + 1) r
def swaps : List (Nat × Nat) → List (Nat × Nat)
  | [] => []
  | (a, b) :: r => (b, a) :: swaps r
def newNames (m : List (Nat × Nat)) : List (Nat × Nat) → List Nat
  | [] => []
  | (c, i) :: r => match lk m c with
    | some _ => newNames m r
    | none => i :: newNames m r
def evenNames : List (Nat × Nat) → List Nat
  | [] => []
  | (i, j) :: r => bif oddB j then evenNames r else i :: evenNames r
def allEven : List Nat → Bool
  | [] => true
  | i :: r => bif oddB i then false else allEven r
def forceN (n : Nat) (k : Nat → Prop) : Prop := match n with
  | 0 => k 0
  | m + 1 => k (m + 1)
def forceSV : SV → (SV → Prop) → Prop
  | .val c u, k => k (.val c u)
  | .agg cs, k => forceSVs cs fun cs => k (.agg cs)
  | .nil, k => k .nil
  | .own i, k => forceN i fun i => k (.own i)
  | .ptr i o, k => forceN i fun i => forceN o fun o => k (.ptr i o)
  | .aptr i z j o, k => forceN i fun i => forceN z fun z => forceN o fun o => k (.aptr i z j o)
  | .osl i j z, k => forceN i fun i => forceN z fun z => k (.osl i j z)
  | .rptr cs us, k => k (.rptr cs us)
  | .nilp, k => k .nilp
  | .tup l, k => forceSVs l fun l => k (.tup l)
  | .clo f cs, k => forceSVs cs fun cs => k (.clo f cs)
  | .mp i, k => forceN i fun i => k (.mp i)
  | .ifc t v, k => forceSV v fun v => k (.ifc t v)
  | .nili, k => k .nili
  | .und, k => k .und
  | .unk, k => k .unk
  where forceSVs : List SV → (List SV → Prop) → Prop
    | [], k => k []
    | v :: r, k => forceSV v fun v => forceSVs r fun r => k (v :: r)
def forceE : List (Nat × SV) → (List (Nat × SV) → Prop) → Prop
  | [], k => k []
  | (t, v) :: r, k => forceN t fun t => forceSV v fun v => forceE r fun r => k ((t, v) :: r)
def forceOb : Obj → (Obj → Prop) → Prop
  | .box cs, k => forceSV.forceSVs cs fun cs => k (.box cs)
  | .arr e xs, k => forceN e fun e => k (.arr e xs)
  | .map t es, k => forceN t fun t => k (.map t es)
def forceOs : List (Nat × Obj) → (List (Nat × Obj) → Prop) → Prop
  | [], k => k []
  | (t, v) :: r, k => forceN t fun t => forceOb v fun v => forceOs r fun r => k ((t, v) :: r)
def forceM : List (Nat × Nat) → (List (Nat × Nat) → Prop) → Prop
  | [], k => k []
  | (a, b) :: r, k => forceN a fun a => forceN b fun b => forceM r fun r => k ((a, b) :: r)
def St.force (σ : St) (k : St → Prop) : Prop := forceE σ.env fun env => forceOs σ.objs fun objs => k ⟨env, objs⟩
theorem forceN_eq (n : Nat) (k : Nat → Prop) : forceN n k = k n := by cases n <;> rfl
mutual
theorem forceSV_eq : ∀ (v : SV) (k : SV → Prop), forceSV v k = k v
  | .val _ _, _ => rfl
  | .agg cs, k => by rw [forceSV, forceSVs_eq cs]
  | .nil, _ => rfl
  | .own i, k => by rw [forceSV, forceN_eq]
  | .ptr i o, k => by rw [forceSV, forceN_eq, forceN_eq]
  | .aptr i z j o, k => by rw [forceSV, forceN_eq, forceN_eq, forceN_eq]
  | .osl i j z, k => by rw [forceSV, forceN_eq, forceN_eq]
  | .rptr _ _, _ => rfl
  | .nilp, _ => rfl
  | .tup l, k => by rw [forceSV, forceSVs_eq l]
  | .clo f cs, k => by rw [forceSV, forceSVs_eq cs]
  | .mp i, k => by rw [forceSV, forceN_eq]
  | .ifc t v, k => by rw [forceSV, forceSV_eq v]
  | .nili, _ => rfl
  | .und, _ => rfl
  | .unk, _ => rfl
theorem forceSVs_eq : ∀ (l : List SV) (k : List SV → Prop), forceSV.forceSVs l k = k l
  | [], _ => rfl
  | v :: r, k => by rw [forceSV.forceSVs, forceSV_eq v, forceSVs_eq r]
end
theorem forceE_eq : ∀ (l : List (Nat × SV)) (k : List (Nat × SV) → Prop), forceE l k = k l
  | [], _ => rfl
  | (t, v) :: r, k => by rw [forceE, forceN_eq, forceSV_eq, forceE_eq r]
theorem forceOb_eq : ∀ (v : Obj) (k : Obj → Prop), forceOb v k = k v
  | .box cs, k => by rw [forceOb, forceSVs_eq]
  | .arr e xs, k => by rw [forceOb, forceN_eq]
  | .map t es, k => by rw [forceOb, forceN_eq]
theorem forceOs_eq : ∀ (l : List (Nat × Obj)) (k : List (Nat × Obj) → Prop), forceOs l k = k l
  | [], _ => rfl
  | (t, v) :: r, k => by rw [forceOs, forceN_eq, forceOb_eq, forceOs_eq r]
theorem forceM_eq : ∀ (l : List (Nat × Nat)) (k : List (Nat × Nat) → Prop), forceM l k = k l
  | [], _ => rfl
  | (a, b) :: r, k => by rw [forceM, forceN_eq, forceN_eq, forceM_eq r]
theorem force_eq (σ : St) (k : St → Prop) : σ.force k = k σ := by rw [St.force, forceE_eq, forceOs_eq]
def afterCall (C : Ctx) (d : Option Nat) (m : List (Nat × Nat)) (σ : St) (k : St → Prop) (out : Out) (objs : Objs) : Prop :=
  forceM (backMap (swaps m) ((match d with | some d => d | none => 0) * 64 + 8) (keysO objs)) fun b =>
  bif nodupB (fsts b) && nodupB (snds b) && allEven (evenNames m ++ newNames (swaps m) b) then
    (St.mk (St.wipe ⟨σ.env, dropsO σ.objs m⟩ (evenNames m ++ newNames (swaps m) b)).env (layO (St.wipe ⟨σ.env, dropsO σ.objs m⟩ (evenNames m ++ newNames (swaps m) b)).objs (pickR objs b b))).force fun σ' =>
    match out with
    | .ret [v] => forceSV (v.ren b) fun v => k (setD σ' d v)
    | .ret vs => forceSV.forceSVs (SV.ren.rens b vs) fun vs => k (setD σ' d (.tup vs))
    | .pan v => C.pan (v.ren b) σ'
  else False
def isNilM : List (Nat × Nat) → Bool
  | [] => true
  | _ => false
def opCallT (C : Ctx) (d : Option Nat) (q : Bool) (fs : List Bool) (F : Tr) (fn : Func) (xs : List Operand) (cf : Operand) (σ : St) (k : St → Prop) : Prop :=
  match σ.freezes C.P (frozenArgs fs (evs σ xs)) with
  | none => False
  | some σ0 => σ0.force fun σ1 => match σ1.ev cf with
    | .clo _ caps =>
      let vs := plainVs C.P fs fn.params.toList (evs σ1 xs) ++ caps
      forceM (canonMap σ1.objs 0 (reach σ1.objs 400 (SV.hs.hss vs) [])) fun m =>
      bif nodupB (fsts m) && nodupB (snds m) && canonOk (pickR σ1.objs m m) && (!q || isNilM m) then forceSV.forceSVs (SV.ren.rens m vs) fun vs' => forceOs (pickR σ1.objs m m) fun os' => F vs' os' (afterCall C d m σ1 k) else False
    | _ => False
def opExt (d : Option Nat) (e : Ext) (xs : List SV) (σ : St) (k : St → Prop) : Prop :=
  match e, xs with
  | .load, [.ptr id off] => match getO σ.objs id with
    | some (.box cells) => match nth .unk cells off with
      | .val (.int .i64) u => k (setD σ d (.val (.int .i64) u))
      | _ => False
    | _ => False
  | .add, [.ptr id off, .val (.int .i64) y] => match getO σ.objs id with
    | some (.box cells) => match nth .unk cells off with
      | .val (.int .i64) u => k (setD (σ.setO id (.box (patch cells off [.val (.int .i64) (.i (IntKind.wrap .i64 (u.int + y.int)))]))) d (.val (.int .i64) (.i (IntKind.wrap .i64 (u.int + y.int)))))
      | _ => False
    | _ => False
  | _, _ => False
def opCall (C : Ctx) (d : Option Nat) (f : FuncId) (cf : Operand) (xs : List Operand) (σ : St) (k : St → Prop) : Prop :=
  match C.P.funcs[f]? with
  | none => False
  | some fn => match C.exts f with
   | some e => match σ.ev cf with
      | .clo _ [] => opExt d e (evs σ xs) σ k
      | _ => False
   | none => match C.trs f with
    | some (fs, F) => opCallT C d (C.calm f) fs F fn xs cf σ k
    | none => match σ.ev cf with
      | .clo _ [] => match scalars C.P fn.resultTypes.toList with
        | true => opCallIn C (toU C.P σ.objs) d f fn xs σ k
        | false => match σ.freezes C.P (handlesAll (evs σ xs)) with
          | some σ' => opCallIn C plainU d f fn xs σ' k
          | none => False
      | _ => False
def opAppend (C : Ctx) (d : Nat) (e : TypeId) (str : Bool) (s x : SV) (σ : St) (k : St → Prop) : Prop :=
  match Cs C.P e with
  | none => False
  | some (m, cs) => match source C.P σ.objs m cs str x, smallType C.P e with
    | some ys, true => match s with
      | .nil => bif decide (ys.length ≤ room) then k ((σ.new (2 * (d * 64 + 63)) (.arr e ys)).set d (.own (2 * (d * 64 + 63)))) else False
      | .own id => match x with
        | .own id' => bif Nat.beq id' id then False else opAppendOwn id ys
        | _ => opAppendOwn id ys
      | _ => False
    | _, _ => False
  where opAppendOwn (id : Nat) (ys : List U) : Prop := match getO σ.objs id with
    | some (.arr e' xs) => bif Nat.beq e' e then
        bif decide (xs.length + ys.length ≤ room) && !oddB id then k ((σ.new id (.arr e (xs ++ ys))).set d (.own id)) else False
      else False
    | _ => False
def ueq (c : Ct) (a b : U) : Bool := match c with
  | .int _ => decide (a.int = b.int)
  | .bool => a.bool == b.bool
  | _ => a.str.data.toList == b.str.data.toList
def mpos (c : Ct) (k : U) : List (U × U) → Nat
  | [] => 0
  | (a, _) :: r => bif ueq c k a then 0 else mpos c k r + 1
def mhas (c : Ct) (k : U) : List (U × U) → Bool
  | [] => false
  | (a, _) :: r => ueq c k a || mhas c k r
def mval (c : Ct) (k : U) (z : U) : List (U × U) → U
  | [] => z
  | (a, x) :: r => bif ueq c k a then x else mval c k z r
def mput (c : Ct) (k v : U) : List (U × U) → List (U × U)
  | [] => [(k, v)]
  | (a, x) :: r => bif ueq c k a then (k, v) :: r else (a, x) :: mput c k v r
def mset (v : U) : Nat → List (U × U) → List (U × U)
  | _, [] => []
  | 0, (a, _) :: r => (a, v) :: r
  | n + 1, e :: r => e :: mset v n r
def keyCt (P : Program) (t : TypeId) : Option Ct := match P.underlying t with
  | some (.int k) => some (.int k)
  | some .bool => some .bool
  | some .string => some .str
  | _ => none
def mapOf (P : Program) (t : TypeId) : Option (Ct × TypeId × Bool × List Ct) := match P.underlying t with
  | some (.map kt vt) => match keyCt P kt, Cs P vt with
    | some kc, some (vm, vcs) => some (kc, vt, vm, vcs)
    | _, _ => none
  | _ => none
def aggVal : Value → Bool
  | .agg _ => true
  | _ => false
def aggM (m : Bool) (v : Value) : Bool := match m with
  | true => aggVal v
  | false => !aggVal v
def zeroM (P : Program) (vt : TypeId) (vm : Bool) : Option U := match P.info? vt with
  | some i => match i.zero with
    | some zv => bif aggM vm zv then zeroElem P vt else none
    | none => none
  | none => none
def elemSV (m : Bool) (cs : List Ct) (u : U) : SV := match m, cs with
  | true, cs => .agg (vals cs u.list)
  | false, [c] => .val c u
  | false, _ => .unk
def newBox (C : Ctx) (d : Nat) (t : TypeId) (cells : List SV) (σ : St) (k : St → Prop) : Prop :=
  match owned C.P (d * 64 + 1) (elemsOf C.P 8 t) [] cells σ with
  | some (cs, σ') => k ((σ'.new (2 * (d * 64)) (.box (SV.sub.subs (2 * (d * 64)) .unk cs))).set d (.ptr (2 * (d * 64)) 0))
  | none => False
def overU (xs : List U) (j : Nat) (ys : List U) : List U := xs.take j ++ ys.take (xs.length - j) ++ xs.drop (j + (ys.take (xs.length - j)).length)
def opCopy (C : Ctx) (o : Oper) (e : TypeId) (id j : Nat) (ys : List U) (σ : St) (k : St → Prop) : Prop := match getO σ.objs id with
  | some (.arr e' xs) => bif Nat.beq e' e && decide (j ≤ xs.length) then k (setD (σ.setO id (.arr e (overU xs j ys))) o.dst (.val (.int .i64) (.i (((ys.take (xs.length - j)).length : Nat) : Int)))) else False
  | _ => False
def op1 (C : Ctx) (o : Oper) (σ : St) (k : St → Prop) : Prop :=
  match o.op with
  | .move x => k (setD σ o.dst (σ.ev x))
  | .assign x => match isNil (σ.ev x), o.dst, nilCell C.P o.type with
    | true, some d, some e => match smallType C.P e with
      | true => k ((σ.new (2 * (d * 64 + 62)) (.arr e [])).set d (.own (2 * (d * 64 + 62))))
      | false => False
    | _, _, _ => k (setD σ o.dst (σ.ev x))
  | .pick c a b => match σ.ev c with
    | .val .bool u => bif u.bool then k (setD σ o.dst (σ.ev a)) else k (setD σ o.dst (σ.ev b))
    | _ => False
  | .box t x => match o.dst with
    | some d => bif areCells (cellsV (σ.ev x)) then newBox C d t (cellsV (σ.ev x)) σ k else False
    | none => False
  | .alloc t => match o.dst, zeroCells C.P t with
    | some d, some z => newBox C d t z σ k
    | _, _ => False
  | .build t ps => match C.P.underlying t, zeroCells C.P t with
    | some (.struct fs), some z => match sizesOk C.P fs.toList, fillParts C.P fs.toList (evps σ ps.toList) z with
      | true, some cs => k (setD σ o.dst (.agg cs))
      | _, _ => False
    | _, _ => False
  | .buildSlice t n ps => match nilCell C.P t, o.dst with
    | some e, some d => match Cs C.P e, smallType C.P e, σ.freezes C.P (handleCells (evps σ ps.toList)) with
      | some (m, cs), true, some σ' => match n, zeroElem C.P e with
        | 0, some _ => match ps.toList with
          | [] => k ((σ'.new (2 * (d * 64 + 63)) (.arr e [])).set d (.own (2 * (d * 64 + 63))))
          | _ => False
        | 1, some _ => match evps σ' ps.toList with
          | [(0, v)] => match toUs plainU cs (cellsV v) with
            | some us => bif Nat.ble cs.length 16777216 then k ((σ'.new (2 * (d * 64 + 63)) (.arr e [ofElem m us])).set d (.own (2 * (d * 64 + 63)))) else False
            | none => False
          | _ => False
        | n, some z => match litElems m cs (evps σ' ps.toList) (List.replicate n z) with
          | some xs => bif Nat.ble (n * cs.length) 16777216 && Nat.blt 0 n then k ((σ'.new (2 * (d * 64 + 63)) (.arr e xs)).set d (.own (2 * (d * 64 + 63)))) else False
          | none => False
        | _, none => False
      | _, _, _ => False
    | _, _ => False
  | .makeSlice t l c => match nilCell C.P t, o.dst, σ.ev l, σ.ev c with
    | some e, some d, .val (.int _) l, .val (.int _) c => match smallType C.P e, zeroElem C.P e with
      | true, some z => bif decide (0 ≤ l.int ∧ l.int ≤ c.int ∧ c.int ≤ room) then
          k ((σ.new (2 * (d * 64 + 63)) (.arr e (List.replicate l.int.toNat z))).set d (.own (2 * (d * 64 + 63)))) else False
      | _, _ => False
    | _, _, _, _ => False
  | .load t a => match σ.ev a with
    | .ptr id off => match getO σ.objs id with
      | some (.box cells) => match part C.P t cells off with
        | some v => k (setD σ o.dst v)
        | none => False
      | _ => False
    | .aptr id sz j off => match getO σ.objs id with
      | some (.arr e xs) => match Cs C.P e with
        | some (m, cs) => bif Nat.beq cs.length sz && Nat.blt j xs.length then (match part C.P t (vals cs (elemU m (U.at xs j))) off with
            | some v => k (setD σ o.dst v)
            | none => False)
          else False
        | none => False
      | _ => False
    | .rptr cs us => match part C.P t (vals cs us) 0 with
      | some v => k (setD σ o.dst v)
      | none => False
    | _ => False
  | .store t a x => match σ.ev a, sizeT C.P t with
    | .ptr id off, some n => bif Nat.beq (cellsV (σ.ev x)).length n && areCells (cellsV (σ.ev x)) then
        match owned C.P ((id + 65536) * 64 + 1 + off) (elemsOf C.P 8 t) [] (cellsV (σ.ev x)) σ with
        | some (cs, σ') => match σ'.ev a with
          | .ptr id off => match getO σ'.objs id with
            | some (.box cells) => bif Nat.ble (off + n) cells.length then k (σ'.setO id (.box (patch cells off cs))) else False
            | _ => False
          | _ => False
        | none => False
      else False
    | .aptr _ _ _ _, some n => match σ.freezes C.P (handles (cellsV (σ.ev x))) with
      | some σ' => match σ'.ev a with
        | .aptr id sz j off => match getO σ'.objs id with
          | some (.arr e xs) => match Cs C.P e, Cs C.P t with
            | some (m, cs), some (_, ds) => match toUs plainU ds (cellsV (σ'.ev x)), Ct.beq.beqs ((cs.drop off).take n) ds with
              | some us, true => bif Nat.beq us.length n && Nat.beq ds.length n && Nat.ble (off + n) cs.length && Nat.beq cs.length sz && Nat.blt j xs.length then
                  k (σ'.setO id (.arr e (xs.set j (ofElem m (patchU (elemU m (U.at xs j)) off us)))))
                else False
              | _, _ => False
            | _, _ => False
          | _ => False
        | _ => False
      | none => False
    | _, _ => False
  | .nilCheck x => match σ.ev x with
    | .ptr id off => k (setD σ o.dst (.ptr id off))
    | .aptr id sz j off => k (setD σ o.dst (.aptr id sz j off))
    | .rptr cs us => k (setD σ o.dst (.rptr cs us))
    | _ => False
  | .binOp op t x y _ => bin C op t (σ.ev x) (σ.ev y) fun v => k (setD σ o.dst v)
  | .unOp .not _ x => match σ.ev x with
    | .val .bool u => k (setD σ o.dst (.val .bool (.b (!u.bool))))
    | _ => False
  | .unOp .neg _ x => match σ.ev x with
    | .val (.int i) u => k (setD σ o.dst (.val (.int i) (.i (i.wrap (0 - u.int)))))
    | _ => False
  | .unOp .xor _ x => match σ.ev x with
    | .val (.int i) u => k (setD σ o.dst (.val (.int i) (.i (compl i u.int))))
    | _ => False
  | .convert s t x => match C.P.underlying s, C.P.underlying t, σ.ev x with
    | some (.int _), some (.int i), .val (.int _) u => k (setD σ o.dst (.val (.int i) (.i (i.wrap u.int))))
    | some (.slice e), some .string, v => match C.P.underlying e with
      | some (.int .u8) => match toU C.P σ.objs (.sl false [.int .u8]) v with
        | some u => k (setD σ o.dst (.val .str (.s ⟨(u.list.map fun x => UInt8.ofNat x.int.toNat).toArray⟩)))
        | none => False
      | _ => False
    | some .string, some .string, .val .str u => k (setD σ o.dst (.val .str u))
    | _, _, _ => False
  | .fieldAddr s x f => match fieldOf C.P s f with
    | some fd => match sizeT C.P fd.type with
      | some (_ + 1) => match σ.ev x with
        | .ptr id off => k (setD σ o.dst (.ptr id (off + fd.offset)))
        | .aptr id sz j off => k (setD σ o.dst (.aptr id sz j (off + fd.offset)))
        | .rptr cs us => k (setD σ o.dst (.rptr (cs.drop fd.offset) (us.drop fd.offset)))
        | _ => False
      | _ => False
    | none => False
  | .field s x f => match fieldOf C.P s f, σ.ev x with
    | some fd, .agg cells => match part C.P fd.type cells fd.offset with
      | some v => k (setD σ o.dst v)
      | none => False
    | _, _ => False
  | .indexAddr t x i => match C.P.underlying t, σ.ev x, σ.ev i with
    | some (.slice e), .val (.sl m cs) u, .val (.int _) j => bif isSize C.P e cs.length then
        bif decide (0 ≤ j.int ∧ j.int < u.list.length) then k (setD σ o.dst (.rptr cs (elemU m (U.at u.list j.int.toNat)))) else False
      else False
    | some (.slice e'), .own id, .val (.int _) j => match getO σ.objs id with
      | some (.arr e xs) => match Cs C.P e with
        | some (_, cs) => bif isSize C.P e' cs.length then
            bif decide (0 ≤ j.int ∧ j.int < xs.length) then k (setD σ o.dst (.aptr id cs.length j.int.toNat 0)) else False
          else False
        | none => False
      | _ => False
    | _, _, _ => False
  | .index t x i => match C.P.underlying t, σ.ev x, σ.ev i with
    | some .string, .val .str s, .val (.int _) j =>
      bif decide (0 ≤ j.int ∧ j.int < s.str.size) then k (setD σ o.dst (.val (.int .u8) (.i (s.str.data.toList.getD j.int.toNat 0).toNat))) else False
    | _, _, _ => False
  | .extract x i => match σ.ev x with
    | .tup vs => bif Nat.blt i vs.length then k (setD σ o.dst (nth .unk vs i)) else False
    | _ => False
  | .slice t x lo hi mx => match C.P.underlying t, lst σ lo, lst σ hi, lst σ mx with
    | some (.slice e), some lo, some hi, some mx => match σ.ev x with
      | .val (.sl m cs) u => bif isSize C.P e cs.length then sliceK (.sl m cs) u lo hi mx else False
      | .own id => match getO σ.objs id, hi, mx with
        | some (.arr e' xs), none, none => match Cs C.P e' with
          | some (_, cs) => bif isSize C.P e cs.length then bif decide (0 ≤ lo.getD 0 ∧ lo.getD 0 ≤ xs.length) then k (setD σ o.dst (.osl id (lo.getD 0).toNat cs.length)) else False else False
          | none => False
        | _, _, _ => False
      | _ => False
    | some .string, some lo, some hi, some none => match σ.ev x with
      | .val .str u =>
        bif decide (0 ≤ lo.getD 0 ∧ lo.getD 0 ≤ hi.getD u.str.size ∧ hi.getD u.str.size ≤ u.str.size) then
          k (setD σ o.dst (.val .str (.s (u.str.extract (lo.getD 0).toNat (hi.getD u.str.size).toNat)))) else False
      | _ => False
    | _, _, _, _ => False
  | .call { callee := .builtin .len, args := args, argTypes := ts } => match evs σ args.toList, ts.toList with
    | [x], [t] => match C.P.underlying t, x with
      | some (.slice _), .val (.sl _ _) u => k (setD σ o.dst (.val (.int .i64) (.i (u.list.length : Int))))
      | some (.slice _), .own id => match getO σ.objs id with
        | some (.arr _ xs) => k (setD σ o.dst (.val (.int .i64) (.i (xs.length : Int))))
        | _ => False
      | some (.slice _), .nil => k (setD σ o.dst (.val (.int .i64) (.i 0)))
      | some (.map _ _), .mp id => match getO σ.objs id with
        | some (.map _ es) => bif Nat.ble es.length room then k (setD σ o.dst (.val (.int .i64) (.i (es.length : Int)))) else False
        | _ => False
      | some .string, .val .str u => k (setD σ o.dst (.val (.int .i64) (.i (u.str.size : Int))))
      | _, _ => False
    | _, _ => False
  | .call { callee := .builtin .min, args := args, .. } => match evs σ args.toList with
    | [.val (.int i) x, .val (.int j) y] => bif IntKind.same i j then k (setD σ o.dst (.val (.int i) (.i (bif decide (y.int < x.int) then y.int else x.int)))) else False
    | _ => False
  | .call { callee := .builtin .max, args := args, .. } => match evs σ args.toList with
    | [.val (.int i) x, .val (.int j) y] => bif IntKind.same i j then k (setD σ o.dst (.val (.int i) (.i (bif decide (x.int < y.int) then y.int else x.int)))) else False
    | _ => False
  | .call { callee := .builtin .append, args := args, argTypes := ts } => match evs σ args.toList, ts.toList, o.dst with
    | [s, x], [t, tx], some d => match nilCell C.P t, C.P.underlying tx with
      | some e, some (.slice _) => opAppend C d e false s x σ k
      | some e, some .string => opAppend C d e true s x σ k
      | _, _ => False
    | _, _, _ => False
  | .call { callee := .value cf, args := args, .. } => match σ.ev cf with
    | .clo f _ => opCall C o.dst f cf args.toList σ k
    | _ => False
  | .lookup t x i ok => match mapOf C.P t, σ.ev x with
    | some (kc, vt, vm, vcs), .mp id => match getO σ.objs id, plainU kc (σ.ev i), zeroM C.P vt vm with
      | some (.map t' es), some ku, some z => bif Nat.beq t' t then
          (match ok with
          | true => k (setD σ o.dst (.tup [elemSV vm vcs (mval kc ku z es), .val .bool (.b (mhas kc ku es))]))
          | false => k (setD σ o.dst (elemSV vm vcs (mval kc ku z es)))) else False
      | _, _, _ => False
    | _, _ => False
  | .mapUpdate t x i v => match mapOf C.P t, σ.ev x with
    | some (kc, _, vm, vcs), .mp id => match getO σ.objs id, plainU kc (σ.ev i), toUs plainU vcs (cellsV (σ.ev v)) with
      | some (.map t' es), some ku, some us => bif Nat.beq t' t && aggV vm (σ.ev v) then k (σ.setO id (.map t (mput kc ku (ofElem vm us) es))) else False
      | _, _, _ => False
    | _, _ => False
  | .mapEntry t x i => match mapOf C.P t, σ.ev x with
    | some (kc, vt, vm, vcs), .mp id => match getO σ.objs id, plainU kc (σ.ev i), zeroM C.P vt vm with
      | some (.map t' es), some ku, some z => bif Nat.beq t' t && Nat.ble es.length room then
          k (setD (σ.setO id (.map t (mput kc ku (mval kc ku z es) es))) o.dst (.tup [elemSV vm vcs (mval kc ku z es), .val (.int .i64) (.i (mpos kc ku es))])) else False
      | _, _, _ => False
    | _, _ => False
  | .entryStore t x i v => match mapOf C.P t, σ.ev x, σ.ev i with
    | some (_, _, vm, vcs), .mp id, .val (.int _) j => match getO σ.objs id, toUs plainU vcs (cellsV (σ.ev v)) with
      | some (.map t' es), some us => bif Nat.beq t' t && aggV vm (σ.ev v) && decide (0 ≤ j.int ∧ j.int < es.length) then k (σ.setO id (.map t (mset (ofElem vm us) j.int.toNat es))) else False
      | _, _ => False
    | _, _, _ => False
  | .makeFunc (.func f) first caps => match first.toList with
    | [] => k (setD σ o.dst (.clo f (evs σ caps.toList)))
    | _ => False
  | .makeInterface t x => match C.P.underlying t with
    | some (.interface _) => False
    | some _ => k (setD σ o.dst (.ifc t (σ.ev x)))
    | none => False
  | .panic x => match σ.ev x with
    | .ifc t v => C.pan (.ifc t v) σ
    | _ => False
  | .makeMap t none => match o.dst, C.P.underlying t with
    | some d, some (.map kt vt) => match Cs C.P kt, Cs C.P vt with
      | some _, some _ => k ((σ.new (2 * (d * 64)) (.map t [])).set d (.mp (2 * (d * 64))))
      | _, _ => False
    | _, _ => False
  | .call { callee := .builtin .copy, args := args, argTypes := ts } => match evs σ args.toList, ts.toList with
    | [d, s], [t, tx] => match nilCell C.P t, C.P.underlying tx with
      | some e, some (.slice _) => match Cs C.P e, source C.P σ.objs false [.int .u8] false s with
        | some (false, [.int .u8]), some ys => bif isSize C.P e 1 then (match d with
            | .own id => opCopy C o e id 0 ys σ k
            | .osl id j 1 => opCopy C o e id j ys σ k
            | _ => False) else False
        | _, _ => False
      | _, _ => False
    | _, _ => False
  | _ => False
  where sliceK (c : Ct) (u : U) (lo hi mx : Option Int) : Prop :=
      bif decide (0 ≤ lo.getD 0 ∧ lo.getD 0 ≤ hi.getD u.list.length ∧ hi.getD u.list.length ≤ mx.getD (hi.getD u.list.length) ∧ mx.getD (hi.getD u.list.length) ≤ u.list.length) && (match mx, hi with | some _, none => false | _, _ => true) then
        k (setD σ o.dst (.val c (.l ((u.list.take (hi.getD u.list.length).toNat).drop (lo.getD 0).toNat)))) else False
def gslot (all : List Oper) (j : Nat) : Option Nat := match nth none (all.map some) j with
  | some o => o.dst
  | none => none
def execOps (C : Ctx) (all : List Oper) : List Oper → St → (St → Prop) → Prop
  | [], σ, k => k σ
  | o :: r, σ, k => match o.guard with
    | none => op1 C o σ fun σ' => execOps C all r σ' k
    | some (j, want) => match gslot all j with
      | none => False
      | some t => match get σ.env t, want with
        | .val .bool u, true => bif u.bool then op1 C o (σ.set t (.val .bool (.b true))) fun σ' => execOps C all r σ' k
            else execOps C all r (setD (σ.set t (.val .bool (.b false))) o.dst .und) k
        | .val .bool u, false => bif u.bool then execOps C all r (setD (σ.set t (.val .bool (.b true))) o.dst .und) k
            else op1 C o (σ.set t (.val .bool (.b false))) fun σ' => execOps C all r σ' k
        | .und, _ => execOps C all r (setD σ o.dst .und) k
        | _, _ => False
def touchC (C : Ctx) (o : Oper) : Bool := match o.op with
  | .call { callee := .value (.func f), .. } => match C.exts f with | some _ => true | none => match C.trs f with | some _ => !C.calm f | none => false
  | .call { callee := .value _, .. } => true
  | .panic _ => true
  | _ => false
def touchB (C : Ctx) (o : Oper) : Bool := match o.op with
  | .store _ _ _ => true
  | .mapUpdate _ _ _ _ => true
  | .mapEntry _ _ _ => true
  | .entryStore _ _ _ _ => true
  | .insert _ _ _ _ => true
  | _ => touchC C o
def touchA (C : Ctx) (o : Oper) : Bool := match o.op with
  | .store _ _ _ => true
  | .call { callee := .builtin .append, .. } => true
  | .call { callee := .builtin .copy, .. } => true
  | _ => touchC C o
def noneB (C : Ctx) : List Oper → Bool
  | [] => true
  | o :: r => match touchB C o with | true => false | false => noneB C r
def noneA (C : Ctx) : List Oper → Bool
  | [] => true
  | o :: r => match touchA C o with | true => false | false => noneA C r
def quietOp (P : Program) (kb ka : Bool) (σ : St) (o : Oper) : Bool := match o.op with
  | .move _ => true
  | .assign x => !isNil (σ.ev x)
  | .pick _ _ _ => true
  | .load _ x => match σ.ev x with
    | .ptr _ _ => kb
    | .aptr _ _ _ _ => ka
    | .rptr _ _ => true
    | .und => true
    | _ => false
  | .nilCheck _ => true
  | .binOp _ _ _ _ _ => true
  | .unOp _ _ _ => true
  | .convert s _ x => match P.underlying s with
    | some (.slice _) => match σ.ev x with
      | .own _ => false
      | _ => true
    | _ => true
  | .fieldAddr _ _ _ => true
  | .field _ _ _ => true
  | .indexAddr _ _ _ => true
  | .index _ _ _ => true
  | .extract _ _ => true
  | .slice _ x _ _ _ => match σ.ev x with
    | .own _ => false
    | _ => true
  | .build _ _ => true
  | .makeFunc (.func _) _ _ => true
  | .makeInterface _ _ => true
  | .call { callee := .builtin .len, args := args, .. } => match evs σ args.toList with
    | [.mp _] => false
    | _ => true
  | _ => false
def quietG (P : Program) (kb ka : Bool) (all : List Oper) (σ : St) (o : Oper) : Bool := match o.guard with
  | none => quietOp P kb ka σ o
  | some (j, want) => match gslot all j with
    | none => false
    | some t => match get σ.env t with
      | .val .bool _ => quietOp P kb ka (σ.set t (.val .bool (.b want))) o
      | .und => true
      | _ => false
def firstQ (P : Program) (kb ka : Bool) (ops : Array Oper) (listed : Array Bool) (σ : St) : List Nat → Option (Nat × Oper)
  | [] => none
  | i :: r => match ops[i]? with
    | none => none
    | some o => match quietG P kb ka ops.toList σ o, Region.free .any ops listed i with
      | true, true => some (i, o)
      | _, _ => firstQ P kb ka ops listed σ r
structure Alt (x y : Prop) : Prop where
  l : x
  r : y
def allK (f : Nat → Prop) : List Nat → Prop
  | [] => True
  | [i] => f i
  | i :: r => Alt (f i) (allK f r)
def oneK (C : Ctx) (ops : Array Oper) (σ : St) (i : Nat) (k : St → Prop) : Prop := match ops[i]? with
  | some o => execOps C ops.toList [o] σ k
  | none => False
def drawK (C : Ctx) (ops : Array Oper) (kb ka : Bool) : Nat → Array Bool → St → (St → Prop) → Prop
  | 0, listed, σ, k => match Region.ready .any ops listed with
    | [] => k σ
    | _ => False
  | n + 1, listed, σ, k => match Region.ready .any ops listed with
    | [] => k σ
    | rs => match firstQ C.P kb ka ops listed σ rs with
      | some (i, o) => execOps C ops.toList [o] σ fun σ' => drawK C ops kb ka n (listed.setIfInBounds i true) σ' k
      | none => allK (fun i => oneK C ops σ i fun σ' => drawK C ops kb ka n (listed.setIfInBounds i true) σ' k) rs
def keepE (env : List (Nat × SV)) : List Nat → List (Nat × SV)
  | [] => []
  | t :: r => (t, get env t) :: keepE env r
def keepO (objs : List (Nat × Obj)) : List Nat → List (Nat × Obj)
  | [] => []
  | t :: r => match getO objs t with
    | some o => (t, o) :: keepO objs r
    | none => keepO objs r
def mask (σ : St) : Option (List Nat × List Nat) → St
  | none => σ
  | some (ts, os) => ⟨keepE σ.env ts, keepO σ.objs os⟩
def gets (env : List (Nat × SV)) : List Nat → List SV
  | [] => []
  | t :: r => get env t :: gets env r
def getOs (objs : List (Nat × Obj)) : List Nat → Option (List Obj)
  | [] => some []
  | t :: r => match getO objs t, getOs objs r with
    | some o, some os => some (o :: os)
    | _, _ => none
def outOf (C : Ctx) (id : Nat) (k : Ex → St → Prop) : Ex → St → Prop
  | .exit n, σ => bif Nat.beq n id then k .normal (mask σ (C.kout id)) else k (.exit n) σ
  | .normal, σ => k .normal (mask σ (C.kout id))
  | .ret, σ => k .ret σ
def exec (C : Ctx) : Code → Nat → St → (Ex → St → Prop) → Prop
  | .skip, _, σ, k => k .normal σ
  | .ret, _, σ, k => k .ret σ
  | .exit n, _, σ, k => k (.exit n) σ
  | .seq a b, c, σ, k => exec C a c σ fun e σ' => match e with
    | .normal => exec C b c σ' k
    | .ret => k .ret σ'
    | .exit n => k (.exit n) σ'
  | .cond x a b, c, σ, k => match σ.ev x with
    | .val .bool u => bif u.bool then exec C a c σ k else exec C b c σ k
    | _ => False
  | .block id a, _, σ, k => exec C a id σ (outOf C id k)
  | .loop _, c, σ, k => match C.loops c with
    | some (ts, os, F) => match σ.freezes C.P (strays os (handles (gets σ.env ts))) with
      | some σ => match getOs σ.objs os with
        | some l => F C.pan (gets σ.env ts) l k
        | none => False
      | none => False
    | none => False
  | .region _ ops draw, _, σ, k => match draw with
    | false => execOps C ops.toList ops.toList σ fun σ' => k .normal σ'
    | true => drawK C ops (noneB C ops.toList) (noneA C ops.toList) ops.size (Array.replicate ops.size false) σ fun σ' => k .normal σ'
  | _, _, _, _ => False
def retMask (lo lr : Option (List Nat × List Nat)) : Option (List Nat × List Nat) := match lr with | none => lo | some x => some x
def again (P : Program) (lo lr : Option (List Nat × List Nat)) (pan : SV → St → Prop) (ts os : List Nat) (F : LoopF) (μ : List SV → List Obj → Nat) (n : Nat) (k : Ex → St → Prop) : Ex → St → Prop
  | .normal, σ => match σ.freezes P (strays os (handles (gets σ.env ts))) with
    | some σ => match getOs σ.objs os with
      | some l => bif Nat.blt (μ (gets σ.env ts) l) n then F pan (gets σ.env ts) l k else False
      | none => False
    | none => False
  | .ret, σ => k .ret (mask σ (retMask lo lr))
  | .exit m, σ => k (.exit m) (mask σ lo)
end
def resVals (P : Program) (σ : St) : List ResultVar → Option (List SV)
  | [] => some []
  | .tmp t :: r => match resVals P σ r with
    | some l => some (get σ.env t :: l)
    | none => none
  | .cell x t :: r => match get σ.env x, resVals P σ r with
    | .ptr id off, some l => match getO σ.objs id with
      | some (.box cells) => match part P t cells off with
        | some v => some (v :: l)
        | none => none
      | _ => none
    | _, _ => none
def fin (P : Program) (fn : Func) : Ex → St → Option (List (List U))
  | .exit _, _ => none
  | _, σ => match resVals P σ fn.results.toList with
    | some vs => flats P (toU P σ.objs) fn.resultTypes.toList vs
    | none => none
def args (P : Program) : Nat → List TypeId → List (List U) → Option (List (Nat × SV))
  | _, [], [] => some []
  | n, t :: ts, u :: us => match unflat P t u, args P (n + 1) ts us with
    | some v, some vs => some ((n, v) :: vs)
    | _, _ => none
  | _, _, _ => none
def bodyOf (fn : Func) : Code := match fn.body with | some c => c | none => .refuse "no body"
def finK (P : Program) (fn : Func) (R : List (List U) → Prop) (e : Ex) (σ : St) : Prop := match fin P fn e σ with
  | some rs => R rs
  | none => False
def Ctx.panics (C : Ctx) (pan : SV → St → Prop) : Ctx := { C with pan := pan }
def run (C : Ctx) (fn : Func) (us : List (List U)) (R : List (List U) → Prop) : Prop := match args C.P 0 fn.params.toList us with
  | some env => exec (C.panics fun _ _ => False) (bodyOf fn) 0 ⟨env, []⟩ (finK C.P fn R)
  | none => False
def argsT : Nat → List SV → List (Nat × SV)
  | _, [] => []
  | n, v :: r => (n, v) :: argsT (n + 1) r
def endT (P : Program) (fn : Func) (objs0 : Objs) (R : Out → Objs → Prop) (e : Ex) (σ : St) : Prop := match e with
  | .exit _ => False
  | _ => match resVals P σ fn.results.toList with
    | some rs => finT objs0 R (.ret rs) σ.objs
    | none => False
def runD (C : Ctx) (fn : Func) : Tr := fun vs objs R =>
  bif Nat.beq vs.length (fn.params.size + fn.nfree) then
    exec (C.panics fun v σ => finT objs R (.pan v) σ.objs) (bodyOf fn) 0 ⟨argsT 0 vs, objs⟩ (endT C.P fn objs R)
  else False
def loopsOf : Code → Nat → List (Nat × Code)
  | .seq a b, c => loopsOf a c ++ loopsOf b c
  | .cond _ a b, c => loopsOf a c ++ loopsOf b c
  | .block id a, _ => loopsOf a id
  | .loop a, c => (c, a) :: loopsOf a c
  | _, _ => []
def loopBody (fn : Func) (k : Nat) : Code := (nth (0, .skip) (loopsOf (bodyOf fn) 0) k).2
end Go.Den
