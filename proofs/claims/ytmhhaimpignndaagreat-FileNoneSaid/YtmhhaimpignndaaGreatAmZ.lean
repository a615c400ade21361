/-
  AM, 26: steps. Conditions: none.
-/
import Derived.Test.YtmhhaimpignndaaGreatAmY
import Derived.RangeFuncRecord
namespace Go.AM
open Go

section
variable {P : Program} {θ θ' : Th} {f : Nat} {fn : Func} {body : Code} {kd : Bool} {rd : Option Nat} {df : List AD} {a a' : Act} {td : List T} {todo : List Item}
variable {w0 w : World} {cs0 : List Frame} {f0 : F0} {κ : ASt → R} {tb : Tb} {h : H} {nx : Nat} {cs : List AFr} {Fs : List Frame} {q pd : List (Nat × AO)} {en : Env}
variable {b : Frame} {k : List Item} {csM : List Frame}
/-! ### The model's steps that the kit lacks -/
theorem stepR_inScope {c : Code} : step P (lone (b.atR a (.inScope c :: k)) csM w) = .next (lone (b.atR a k) csM w) :=
  step_lone_go (by simp [stepG, stepG.exec, Frame.atR])
theorem stepR_scope {c : Code} : step P (lone (b.atR a (.code (.scope c) :: k)) csM w) = .next (lone (b.atR a (.code c :: .inScope c :: k)) csM w) :=
  step_lone_go (by simp [stepG, stepG.exec, Frame.atR])
theorem stepR_rangeFunc_to {g : Operand} {ps : Array Tmp} {assign body : Code} {l : Nat} {mark : List Deferred} {w₁ : World} {d : Deferred} {n : Next}
    (he : (Instr.enterLoop b.fn a.tmps ps assign body b.roundOf).run P w = .ok (l, mark) w₁)
    (hres : (Deferred.ofValue (a.eval g) #[.func (.yield l) #[] #[]]).run P w₁ = .ok d w₁) (hinv : (invoke d.target d.args).run P w₁ = .ok n w₁) :
    (∀ f args, n = .enter f args → step P (lone (b.atR a (.code (.rangeFunc g ps assign body) :: k)) csM w) = .next (lone (Frame.enter P f args .normal) (b.atR { a with defers := mark ++ a.defers } (.inRangeFunc l :: k) :: csM) w₁)) ∧
    (∀ l2 f tmps x y, n = .round l2 f tmps x y → step P (lone (b.atR a (.code (.rangeFunc g ps assign body) :: k)) csM w) = .next (lone (Frame.round l2 f tmps x y .normal) (b.atR { a with defers := mark ++ a.defers } (.inRangeFunc l :: k) :: csM) w₁)) := by
  have hev := Frame.eval_atR b { a with defers := mark ++ a.defers } (.inRangeFunc l :: k)
  simp only [Frame.atR] at hev
  have hres' : Sem.run P (resolve ({ tmps := a.tmps, defers := mark ++ a.defers } : Act).eval { callee := .value g, args := #[.const (.func (.yield l) #[] #[])], argTypes := #[] } 0) w₁ = .ok d w₁ := by
    have hev2 : ({ tmps := a.tmps, defers := mark ++ a.defers } : Act).eval g = a.eval g := by cases g <;> rfl
    have hev3 : (#[.const (.func (.yield l) #[] #[])] : Array Operand).map ({ tmps := a.tmps, defers := mark ++ a.defers } : Act).eval = #[.func (.yield l) #[] #[]] := by simp [Act.eval]
    simp only [resolve, hev2, hev3]
    exact hres
  constructor
  · rintro f args rfl
    exact step_lone_go (by simp [stepG, stepG.exec, Frame.atR, Sem.runT_eq, he, GStep.bare_after, stepG.apply, hev, Sem.run_bind, hres', hinv, Result.andThen])
  · rintro l2 f tmps x y rfl
    exact step_lone_go (by simp [stepG, stepG.exec, Frame.atR, Sem.runT_eq, he, GStep.bare_after, stepG.apply, hev, Sem.run_bind, hres', hinv, Result.andThen])
theorem run_enterLoop_inner {l : Nat} {r : Loop} (hl : w.heap[l]? = some (.loop r)) (fn : FuncId) (tmps : Array Value) (ps : Array Tmp) (assign body : Code) :
    (Instr.enterLoop fn tmps ps assign body (some l)).run P w = .ok (w.heap.size, []) (w.alloc (.loop { state := .ready, pending := none, fn, tmps, params := ps, assign, body, defers := r.defers })) := by
  unfold Instr.enterLoop
  simp only [Sem.run_bind, run_getLoop hl, run_newObj_alloc, Result.andThen, Sem.run_pure]
theorem step_collected {fr : Frame} {bk : Nat} {ags : Array Value} {ds calls : List Deferred} {w' : World} (hm : fr.mode = .returning) (hd : fr.defers = { target := .collected bk, args := ags } :: ds) (hr : (Instr.takeDeferred bk).run P w = .ok calls w') :
    step P (lone fr csM w) = .next (lone { fr with defers := calls ++ ds } csM w') :=
  step_lone_go (by simp [stepG, unwind, hm, hd, Sem.runT_eq, hr, GStep.bare_after])

/-! ### A loop's record -/
theorem lp_upd (hR : HR P w0 pd θ h nx w) {o : Nat} (ho : θ.has o) {st : LoopState} {j : J} {fnn li : Nat} {en' : Env} {ds : Nat} (hb : obj h o = some (.lp st j fnn li en' ds)) :
    ∃ r : Loop, w.heap[θ.blk o]? = some (.loop r) ∧ r.state = st ∧ r.pending = jCode j ∧ ∀ st' j', HR P w0 pd θ (setO h o (.lp st' j' fnn li en' ds)) nx (w.putObj (θ.blk o) (.loop { r with state := st', pending := jCode j' })) := by
  obtain ⟨fu, code, ps, x, y, tmps, h1, h2, h3, h4, h5, h6, h7, h8⟩ := hR.obj_ ho hb
  refine ⟨_, h5, rfl, rfl, fun st' j' => ?_⟩
  exact map_upd hR ho hb rfl rfl rfl h5 ⟨fu, code, ps, x, y, tmps, h1, h2, h3, h4, heap_set h5, h6, h7, h8⟩
/-- the end of a round -/
theorem endK_ok {o : Nat} {j : J} (e : endK o j false cs h nx κ = true) (hR : HR P w0 pd θ h nx w) (ho : θ.has o) (hC : CsR P θ f0 f false cs Fs pd) {m : Machine}
    (hs : ∀ c rest v w', (Instr.endRound (θ.blk o) (jCode j)).run P w = .ok v w' → Fs ++ cs0 = c :: rest → Steps P m (lone (c.finish v) rest w')) : Goal P w0 cs0 f0 κ m := by
  obtain ⟨ao, g1, g2⟩ := get_true e
  cases ao <;> first | (cases g2; done) | skip
  rename_i st j0 fnn li en' ds
  obtain ⟨r, h1, h2, h3, h4⟩ := lp_upd hR ho g1
  have hrun := run_endRound (P := P) (jCode j) h1
  have go : ∀ (st' : LoopState) (v : AV) (u : Value), VR θ v u → (Instr.endRound (θ.blk o) (jCode j)).run P w = .ok u (w.putObj (θ.blk o) (.loop { r with state := st', pending := jCode j })) →
      backR false v cs (setO h o (.lp st' j fnn li en' ds)) nx κ = true → Goal P w0 cs0 f0 κ m := by
    intro st' v u hv hr e'
    cases cs with
    | nil => cases e'
    | cons c cs =>
      have e' : backK false v (c :: cs) (setO h o (.lp st' j fnn li en' ds)) nx κ = true := e'
      refine back_ok e' (h4 st' j) hv hC (fun _ c' rest => ?_) (fun h => absurd h (by simp)) (fun hn => ?_)
      · by_cases hF : Fs = c' :: rest
        · exact .inl (hs c' (rest ++ cs0) u _ hr (by rw [hF]; rfl))
        · exact .inr hF
      · obtain ⟨en, td, fr⟩ := c
        obtain ⟨F, Fs', q, pd', rfl, _⟩ := hC
        cases hn
  cases j with
  | no =>
    have g2 : put o (.lp .ready .no fnn li en' ds) h (fun h => backR false (.b true) cs h nx κ) = true := g2
    rw [put_eq] at g2
    exact go .ready (.b true) (.bool true) ⟨trivial, rfl⟩ hrun g2
  | ret =>
    have g2 : put o (.lp .done .ret fnn li en' ds) h (fun h => backR false (.b false) cs h nx κ) = true := g2
    rw [put_eq] at g2
    exact go .done (.b false) (.bool false) ⟨trivial, rfl⟩ hrun g2
  | exit id =>
    have g2 : put o (.lp .done (.exit id) fnn li en' ds) h (fun h => backR false (.b false) cs h nx κ) = true := g2
    rw [put_eq] at g2
    exact go .done (.b false) (.bool false) ⟨trivial, rfl⟩ hrun g2
/-- a body left -/
theorem leave_ok {j : J} (e : leaveK j en td (.mk f df kd rd) cs h nx κ = true) (hx : Fx P θ f fn body kd rd df a td todo) (hE : ER θ en a.tmps) (hR : HR P w0 pd θ h nx w) (hC : CsR P θ f0 f kd cs Fs pd) {k : List Item}
    (h1 : rd = none → Steps P (lone ((bF f kd (rd.map θ.blk)).atR a k) (Fs ++ cs0) w) (lone { (bF f kd (rd.map θ.blk)).atR a k with mode := .returning } (Fs ++ cs0) w))
    (h2 : ∀ o, rd = some o → ∀ c rest v w', (Instr.endRound (θ.blk o) (jCode j)).run P w = .ok v w' → Fs ++ cs0 = c :: rest → Steps P (lone ((bF f kd (rd.map θ.blk)).atR a k) (c :: rest) w) (lone (c.finish v) rest w')) :
    Goal P w0 cs0 f0 κ (lone ((bF f kd (rd.map θ.blk)).atR a k) (Fs ++ cs0) w) := by
  cases rd with
  | none =>
    have e : κ (.mk en [.rt] (.mk f df kd none) cs h nx) = true := e
    exact ⟨_, _, h1 rfl, .mk (q := []) hR (.ret hx.hf hx.hd hE) hC, e⟩
  | some o =>
    obtain ⟨ho, hk⟩ := hx.hr o rfl
    subst hk
    have e : endK o j false cs h nx κ = true := e
    refine endK_ok e hR ho hC (fun c rest v w' hr hF => ?_)
    rw [hF]
    exact h2 o rfl c rest v w' hr hF
/-- a call's end, and what was put off before -/
theorem ret_ok (ht : TbOk tb P) (e : retK tb en [] (.mk f df kd none) cs h nx κ = true) (hf : FnC P f fn body) (hd : DsR θ df a.defers) (hE : ER θ en a.tmps) (hR : HR P w0 pd θ h nx w) (hC : CsR P θ f0 f kd cs Fs pd) {todo : List Item} :
    Goal P w0 cs0 f0 κ (lone { (bF f kd none).atR a todo with mode := .returning } (Fs ++ cs0) w) := by
  cases df with
  | nil =>
    have e : fnOf tb f (fun _ rs => rs en h fun v => backK kd v cs h nx κ) = true := e
    obtain ⟨c0, c, rs, h1, _, e1⟩ := ht.fn e
    obtain ⟨fn', body', hf', hu⟩ := trF_some h1
    injection hu with hu1 hu2
    subst hu2
    obtain ⟨v, u, e2, hv, hrun⟩ := res_ok hR hf' hE e1
    have hd : a.defers = [] := hd
    have hkind : ∀ {kd : Bool}, ({ (bF f kd none).atR a todo with mode := FrameMode.returning } : Frame).kind = if kd then .deferred else .normal := rfl
    refine back_ok e2 hR hv hC (fun hk c' rest => ?_) (fun hk c' rest hm => ?_) (fun hn => ?_)
    · subst hk
      by_cases hF : Fs = c' :: rest
      · refine .inl ?_
        rw [hF]
        exact .one (step_leave_returned ⟨rfl, hd, rfl, fn', hf'.hfn, hrun⟩)
      · exact .inr hF
    · subst hk
      by_cases hF : Fs = c' :: rest
      · refine .inl ?_
        rw [hF]
        have hst : step P (lone { (bF f true none).atR a todo with mode := .returning } (c' :: (rest ++ cs0)) w) = .next (lone { c' with mode := settle c'.mode } (rest ++ cs0) w) :=
          step_going_returned rfl ⟨rfl, hd, fn', hf'.hfn, hrun⟩
        have hc : ({ c' with mode := settle c'.mode } : Frame) = c' := by
          obtain ⟨x1, x2, x3, x4, x5, x6, x7⟩ := c'
          have hm : x5 = .returning := hm
          subst hm
          rfl
        rw [hc] at hst
        exact .one hst
      · exact .inr hF
    · subst hn
      cases cs with
      | nil =>
        obtain ⟨hf0, hk, _, hp, hle0⟩ := hC
        subst hk hp
        exact .fin hR hv ⟨rfl, hd, rfl, fn', hf'.hfn, hrun⟩ hf0 hle0
      | cons c cs =>
        obtain ⟨en, td, fr⟩ := c
        obtain ⟨F, Fs', q, pd', hF, _⟩ := hC
        cases hF
  | cons d df =>
    cases d with
    | fn f2 vs =>
      obtain ⟨d, cap, ds', h1, h2, h3, h4, h5⟩ := hd
      have e : enterK tb f2 vs true (.mk en [.rt] (.mk f df kd none) :: cs) h nx κ = true := e
      have hw : WaitR P θ [] en [.rt] (.mk f df kd none) { (bF f kd none).atR { a with defers := ds' } todo with mode := .returning } true :=
        ⟨rfl, fun θ' h' hle => .ret hf (h5.mono hle) (hE.mono hle)⟩
      obtain ⟨fn', body', hf', hg⟩ := enter_ok ht e h4 hR (Fs := { (bF f kd none).atR { a with defers := ds' } todo with mode := .returning } :: Fs) ⟨_, _, [], pd, rfl, rfl, hw, hC⟩
      refine hg.of_steps (.one ?_)
      refine step_defer (fr := { (bF f kd none).atR a todo with mode := .returning }) (by simp) h1 h2 ?_
      rw [h2]
      show (callFunc f2 (d.args ++ cap)).run P w = _
      rw [h3]
      exact run_callFunc hf' _
    | col o =>
      obtain ⟨ds', h1, h2, h3⟩ := hd
      obtain ⟨ao, g1, g2⟩ := get_true (show get o h (fun x => (match x with
        | .df true => put o (.df false) h fun h => κ (.mk en [.rt] (.mk f df kd none) cs h nx)
        | _ => false)) = true from e)
      cases ao <;> first | (cases g2; done) | skip
      rename_i c
      cases c <;> first | (cases g2; done) | skip
      have g2 : put o (.df false) h (fun h => κ (.mk en [.rt] (.mk f df kd none) cs h nx)) = true := g2
      rw [put_eq] at g2
      have hob : w.heap[θ.blk o]? = some (.deferred (some [])) := hR.obj_ h2 g1
      have hR' := map_upd (ob := .deferred none) hR h2 g1 (a' := .df false) rfl rfl rfl hob (heap_set hob)
      refine ⟨_, _, .one (step_collected (fr := { (bF f kd none).atR a todo with mode := .returning }) rfl h1 (run_takeDeferred hob)), .mk (q := []) hR' (FR.ret (a := { a with defers := ds' }) hf h3 hE) hC, g2⟩
end
end Go.AM
