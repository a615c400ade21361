/-
  AM, 27: code stepped through; runs. Conditions: none.
-/
import Derived.Test.YtmhhaimpignndaaGreatAmZ
namespace Go.AM
open Go

section
variable {P : Program} {θ θ' : Th} {f : Nat} {fn : Func} {body : Code} {kd : Bool} {rd : Option Nat} {df : List AD} {a a' : Act} {td : List T} {todo : List Item}
variable {w0 w : World} {cs0 : List Frame} {f0 : F0} {κ : ASt → R} {tb : Tb} {h : H} {nx : Nat} {cs : List AFr} {Fs : List Frame} {q pd : List (Nat × AO)} {en : Env}
/-! ### Ranges over functions -/
theorem rf_ok (ht : TbOk tb P) {g : Operand} {x : X} {li : Nat} {ps : Array Nat} {ca cb : Code} (hg : trX g = some x) (e : rfK tb (dX x) li en td (.mk f df kd rd) cs h nx κ = true) (hx : Fx P θ f fn body kd rd df a td todo) (hS : Sub f body li (.rangeFunc g ps ca cb))
    (hE : ER θ en a.tmps) (hR : HR P w0 pd θ h nx w) (hC : CsR P θ f0 f kd cs Fs pd) : Goal P w0 cs0 f0 κ (lone ((bF f kd (rd.map θ.blk)).atR a (.code (.rangeFunc g ps ca cb) :: todo)) (Fs ++ cs0) w) := by
  have hmem : (li, ps, ca, cb) ∈ rfs (liOf f) body := hS _ (by simp [rfs])
  -- the rest, once the record lies there
  have rest : ∀ {θ2 : Th} {h2 : H} {nx2 l : Nat} {w2 : World} {df2 : List AD} {mark : List Deferred} {v : AV}, θ.le θ2 → VR θ v (a.eval g) → HR P w0 pd θ2 h2 nx2 w2 → θ2.has l → DsR θ2 df2 (mark ++ a.defers) →
      (Instr.enterLoop f a.tmps ps ca cb (rd.map θ.blk)).run P w = .ok (θ2.blk l, mark) w2 → callvK tb v [.yl l] (.mk en (.irf l :: td) (.mk f df2 kd rd) :: cs) h2 nx2 κ = true →
      Goal P w0 cs0 f0 κ (lone ((bF f kd (rd.map θ.blk)).atR a (.code (.rangeFunc g ps ca cb) :: todo)) (Fs ++ cs0) w) := by
    intro θ2 h2 nx2 l w2 df2 mark v hle hv hR2 hl hd2 hrun e2
    have hx2 : Fx P θ2 f fn body kd rd df2 { a with defers := mark ++ a.defers } td todo := ⟨hx.hf, (hx.mono hle).hr, hd2, hx.hs, hx.ht.mono hle⟩
    have hw : WaitR P θ2 [] en (.irf l :: td) (.mk f df2 kd rd) ((bF f kd (rd.map θ.blk)).atR { a with defers := mark ++ a.defers } (.inRangeFunc (θ2.blk l) :: todo)) false := by
      intro θ' h' v u hle' hv
      show FR P θ' h' [] en (.erf l :: td) (.mk f df2 kd rd) _
      rw [finish_atR_inRangeFunc]
      have h3 := (((hx2.mono hle').more (t := .erf l) (i := .endRangeFunc (θ'.blk l)) (.erf (hle'.has l hl)))).run h' ((hE.mono hle).mono hle')
      rw [hx2.rdm hle', hx.rdm hle, hle'.blk l hl] at h3
      exact h3
    obtain ⟨d, n, k1, k2, k3⟩ := callv_ok ht e2 (hv.mono hle) (vs := [.yl l]) ⟨hl, trivial⟩ hR2 (fun _ => ⟨_, Fs, [], pd, rfl, rfl, hw, hC.mono hle⟩)
    have k1 : (Deferred.ofValue (a.eval g) #[.func (.yield (θ2.blk l)) #[] #[]]).run P w2 = .ok d w2 := k1
    obtain ⟨s1, s2⟩ := stepR_rangeFunc_to (b := bF f kd (rd.map θ.blk)) (k := todo) (csM := Fs ++ cs0) (g := g) hrun k1 k2
    rcases k3 with ⟨g2, args, hn, hgo⟩ | ⟨l2, g2, tmps, x2, y2, hn, hgo⟩
    · exact hgo.of_steps (.one (s1 _ _ hn))
    · exact hgo.of_steps (.one (s2 _ _ _ _ _ hn))
  have hsize := hR.size
  cases rd with
  | none =>
    have e : dX x en (fun v => newK (.df true) h nx fun r h nx => newK (.lp .ready .no f li en r) h nx fun l h nx => callvK tb v [.yl l] (.mk en (.irf l :: td) (.mk f (.col r :: df) kd none) :: cs) h nx κ) = true := e
    obtain ⟨v, e1, hv⟩ := arg_ok hg e hE
    obtain ⟨n1, e2⟩ := newK_true e1
    obtain ⟨n2, e3⟩ := newK_true e2
    obtain ⟨hR1, hl1⟩ := hR.new (w' := w.alloc (.deferred (some []))) (ob := .deferred (some [])) rfl ⟨rfl, rfl, rfl⟩ n1 (a := .df true) (bs := 0) (sz := 0) (es := 0) (by show _ = _; rw [Th.put_blk]; exact World.alloc_heap_new w _) (fun x hx => by cases hx)
    have hr1 : (θ.put nx w.heap.size 0 0 0).has nx := Th.put_has ..
    obtain ⟨hR2, hl2⟩ := hR1.new (w' := (w.alloc (.deferred (some []))).alloc (.loop { state := .ready, pending := none, fn := f, tmps := a.tmps, params := ps, assign := ca, body := cb, defers := w.heap.size })) rfl ⟨rfl, rfl, rfl⟩ n2
      (a := .lp .ready .no f li en nx) (bs := 0) (sz := 0) (es := 0) ⟨fn, body, ps, ca, cb, a.tmps, hx.hf.hfn, hx.hf.hbody, hx.hf.nrf, hmem, by
        rw [Th.put_blk, (Th.le_put (θ := θ.put nx w.heap.size 0 0 0) (fun hh => Nat.lt_irrefl _ (hR1.own _ hh).1) _ 0 0 0).blk nx hr1, Th.put_blk]
        exact World.alloc_heap_new _ _, (hE.mono hl1).mono (Th.le_put (fun hh => Nat.lt_irrefl _ (hR1.own _ hh).1) _ 0 0 0), hx.hs, .inr hr1⟩ (fun x hx => by cases hx)
    refine rest (hl1.trans hl2) hv hR2 (Th.put_has ..) (mark := [{ target := .collected w.heap.size, args := #[] }]) ?_ ?_ e3
    · refine ⟨a.defers, ?_, hl2.has nx hr1, hx.hd.mono (hl1.trans hl2)⟩
      rw [hl2.blk nx hr1, Th.put_blk]; rfl
    · have := run_enterLoop_outer (P := P) (w := w) f a.tmps ps ca cb
      rw [Th.put_blk]
      simp only [World.size_alloc]
      exact this
  | some l0 =>
    obtain ⟨hl0, hk⟩ := hx.hr l0 rfl
    have e : dX x en (fun v => get l0 h (asLp fun _ _ _ _ _ ds => newK (.lp .ready .no f li en ds) h nx fun l h nx => callvK tb v [.yl l] (.mk en (.irf l :: td) (.mk f df kd (some l0)) :: cs) h nx κ)) = true := e
    obtain ⟨v, e1, hv⟩ := arg_ok hg e hE
    obtain ⟨ao, g1, g2⟩ := get_true e1
    cases ao <;> first | (cases g2; done) | skip
    rename_i st j0 fnn li0 en' ds
    have g2 : newK (.lp .ready .no f li en ds) h nx (fun l h nx => callvK tb v [.yl l] (.mk en (.irf l :: td) (.mk f df kd (some l0)) :: cs) h nx κ) = true := g2
    obtain ⟨n1, e2⟩ := newK_true g2
    obtain ⟨fu, code, ps', x', y', tmps, h1, h2, h3, h4, h5, h6, h7, h8⟩ := hR.obj_ hl0 g1
    have hnx : ¬ θ.has nx := fun hh => Nat.lt_irrefl _ (hR.own _ hh).1
    obtain ⟨hR1, hl1⟩ := hR.new (w' := w.alloc (.loop { state := .ready, pending := none, fn := f, tmps := a.tmps, params := ps, assign := ca, body := cb, defers := θ.blk ds })) rfl ⟨rfl, rfl, rfl⟩ n1
      (a := .lp .ready .no f li en ds) (bs := 0) (sz := 0) (es := 0) ⟨fn, body, ps, ca, cb, a.tmps, hx.hf.hfn, hx.hf.hbody, hx.hf.nrf, hmem, by
        rw [Th.put_blk, (Th.le_put hnx _ 0 0 0).blk ds h8]
        exact World.alloc_heap_new _ _, hE.mono (Th.le_put hnx _ 0 0 0), hx.hs, .inr h8⟩ (fun x hx => by cases hx)
    refine rest hl1 hv hR1 (Th.put_has ..) (mark := []) (hx.hd.mono hl1) ?_ e2
    rw [Th.put_blk]
    exact run_enterLoop_inner h5 ..
theorem erf_ok {o : Nat} (e : erfK o en td (.mk f df kd rd) cs h nx κ = true) (hx : Fx P θ f fn body kd rd df a td todo) (ho : θ.has o) (hE : ER θ en a.tmps) (hR : HR P w0 pd θ h nx w) (hC : CsR P θ f0 f kd cs Fs pd) :
    Goal P w0 cs0 f0 κ (lone ((bF f kd (rd.map θ.blk)).atR a (.endRangeFunc (θ.blk o) :: todo)) (Fs ++ cs0) w) := by
  obtain ⟨ao, g1, g2⟩ := get_true e
  cases ao <;> first | (cases g2; done) | skip
  rename_i st j fnn li en' ds
  obtain ⟨r, h1, h2, h3, h4⟩ := lp_upd hR ho g1
  have g3 : st ≠ .busy ∧ put o (.lp .exhausted j fnn li en' ds) h (fun h => κ (.mk en (match j with | .no => td | .ret => .c .ret :: td | .exit id => .c (.exit id) :: td) (.mk f df kd rd) cs h nx)) = true := by
    cases st <;> first | (cases g2; done) | skip
    all_goals (refine ⟨by simp, ?_⟩; cases j <;> exact g2)
  obtain ⟨hb, g4⟩ := g3
  rw [put_eq] at g4
  have hrun := run_endLoop (P := P) h1 (by rw [h2]; exact hb)
  rw [h3] at hrun
  refine Goal.of_steps (.one (stepR_endRangeFunc hrun)) (Fx.goal (cs0 := cs0) (hx.tdm ?_) hE ?_ hC g4)
  · cases j with
    | no => exact hx.ht
    | ret => exact .cons (.code (k := 0) (c := .ret) (fun e he => by simp [rfs] at he) (.refl _)) hx.ht
    | exit id => exact .cons (.code (k := 0) (c := .exit id) (fun e he => by simp [rfs] at he) (.refl _)) hx.ht
  · exact h4 .exhausted j
theorem br_ok (e : brK en td (.mk f df kd rd) cs h nx κ = true) (hx : Fx P θ f fn body kd rd df a td todo) (hE : ER θ en a.tmps) (hR : HR P w0 pd θ h nx w) (hC : CsR P θ f0 f kd cs Fs pd) :
    Goal P w0 cs0 f0 κ (lone ((bF f kd (rd.map θ.blk)).atR a (.beginRound :: todo)) (Fs ++ cs0) w) := by
  cases rd with
  | none => cases e
  | some o =>
    obtain ⟨ho, _⟩ := hx.hr o rfl
    obtain ⟨ao, g1, g2⟩ := get_true (show get o h (asLp fun st j fn li en' ds => match st with
      | .ready => put o (.lp .busy j fn li en' ds) h fun h => κ (.mk en td (.mk f df kd (some o)) cs h nx)
      | _ => false) = true from e)
    cases ao <;> first | (cases g2; done) | skip
    rename_i st j fnn li en' ds
    cases st <;> first | (cases g2; done) | skip
    have g2 : put o (.lp .busy j fnn li en' ds) h (fun h => κ (.mk en td (.mk f df kd (some o)) cs h nx)) = true := g2
    rw [put_eq] at g2
    obtain ⟨r, h1, h2, h3, h4⟩ := lp_upd hR ho g1
    have h5 := h4 .busy j
    rw [← h3] at h5
    exact (hx.goal hE h5 hC g2).of_steps (.one (stepR_beginRound (b := bF f kd ((some o).map θ.blk)) rfl (run_beginRound h1 h2)))
theorem exitTo_ok {id : Nat} : ∀ {td : List T} {todo : List Item}, TdR P θ f fn.ntmps body td todo → (∀ k, exitTo' id td = some k → ∃ k', exitTo id todo = some k' ∧ TdR P θ f fn.ntmps body k k') ∧ (exitTo' id td = none → exitTo id todo = none) := by
  intro td todo h
  induction h with
  | nil => exact ⟨(fun k hk => by cases hk), fun _ => rfl⟩
  | @cons t i td todo h r ih =>
    cases h with
    | blk id' =>
      have e1 : exitTo' id (T.blk id' :: td) = @Bool.rec (fun _ => Option (List T)) (exitTo' id td) (some td) (Nat.beq id' id) := rfl
      have e2 : exitTo id (Item.inBlock id' :: todo) = if id' == id then some todo else exitTo id todo := rfl
      rw [e1, e2]
      cases hb : Nat.beq id' id with
      | true =>
        have : (id' == id) = true := beq_iff_eq.2 (Nat.eq_of_beq_eq_true hb)
        rw [this]
        exact ⟨(fun k hk => ⟨todo, rfl, by injection hk with hk; subst hk; exact r⟩), (fun hk => by cases hk)⟩
      | false =>
        have : (id' == id) = false := beq_eq_false_iff_ne.2 (fun e => by rw [e, Nat.beq_refl] at hb; cases hb)
        rw [this]
        exact ih
    | _ => exact ih
/-! ### Code -/
theorem range_get (ops : Array Oper) : (List.range ops.size).filterMap (ops[·]?) = ops.toList := by
  have : ∀ (l : List Oper) (p : List Oper), (List.range' p.length l.length).filterMap ((p ++ l)[·]?) = l := by
    intro l
    induction l with
    | nil => intro p; rfl
    | cons o l ih =>
      intro p
      rw [List.length_cons, List.range'_succ, List.filterMap_cons]
      have e1 : (p ++ o :: l)[p.length]? = some o := by simp
      rw [e1]
      have e2 := ih (p ++ [o])
      simp only [List.length_append, List.length_singleton, List.append_assoc, List.singleton_append] at e2
      rw [e2]
  have h := this ops.toList []
  simp only [List.length_nil, List.nil_append, Array.length_toList] at h
  rw [List.range_eq_range']
  simpa using h
def Tb.lv : Tb → Bool
  | .mk _ _ lv => lv
def Tb.lo : Tb → Tb
  | .mk f l _ => .mk f l false
theorem TbOk.low (ht : TbOk tb P) : TbOk tb.lo P := by
  obtain ⟨f, l, lv⟩ := tb
  exact ⟨fun e => ht.fn e, fun e => ht.lp e, fun e => ht.en e⟩
/-- what the machine without pieces done at once shows -/
def LoOk (P : Program) (w0 : World) (cs0 : List Frame) (f0 : F0) (tb : Tb) : Prop := tb.lv = true → ∀ (n : Nat) (s : ASt) (m : Machine) (κ : ASt → R), StR P w0 cs0 f0 s m → run tb.lo n s κ = true → Goal P w0 cs0 f0 κ m
/-- a piece done at once, or its code -/
theorem spl_case (hlo : LoOk P w0 cs0 f0 tb) {c : Code} {k : Nat} {td : List T} {todo : List Item} {a : Act} {en : Env} {w : World} {C' : C} (hS : Sub f body k c) (hx : Fx P θ f fn body kd rd df a td todo) (hE : ER θ en a.tmps) (hR : HR P w0 pd θ h nx w) (hC : CsR P θ f0 f kd cs Fs pd)
    (hcr : CR C' (dC (trC P fn.ntmps k c))) (e : codeK tb C' en td (.mk f df kd rd) cs h nx κ = true) :
    (∃ C2, CRs C2 (dC (trC P fn.ntmps k c)) ∧ codeK tb C2 en td (.mk f df kd rd) cs h nx κ = true) ∨ Goal P w0 cs0 f0 κ (lone ((bF f kd (rd.map θ.blk)).atR a (.code c :: todo)) (Fs ++ cs0) w) := by
  rcases hcr.inv with ⟨s, rfl, hs⟩ | rfl | hc
  · have e : splK tb s (codeK tb (dC (trC P fn.ntmps k c))) en td (.mk f df kd rd) cs h nx κ = true := e
    obtain ⟨F, Lp, lv⟩ := tb
    cases lv with
    | false => exact .inl ⟨_, .refl _, e⟩
    | true =>
      obtain ⟨n, hn⟩ := hs F Lp en td (.mk f df kd rd) cs h nx κ e
      exact .inr (hlo rfl n _ _ κ (.mk (q := []) hR ((hx.more (.code hS (.refl _))).run h hE) hC) hn)
  · have e : false = true := e
    cases e
  · exact .inl ⟨_, hc, e⟩
theorem code_ok (ht : TbOk tb P) (hm : P.follows .mixedOrders = true) (hlo : LoOk P w0 cs0 f0 tb) : ∀ (c : Code) (k : Nat) (td : List T) (todo : List Item) (a : Act) (en : Env) (w : World) (C' : C), Sub f body k c → Fx P θ f fn body kd rd df a td todo → ER θ en a.tmps → HR P w0 pd θ h nx w → CsR P θ f0 f kd cs Fs pd →
    CR C' (dC (trC P fn.ntmps k c)) → codeK tb C' en td (.mk f df kd rd) cs h nx κ = true → Goal P w0 cs0 f0 κ (lone ((bF f kd (rd.map θ.blk)).atR a (.code c :: todo)) (Fs ++ cs0) w) := by
  intro c
  induction c with
  | skip =>
    intro k td todo a en w C' hS hx hE hR hC hcr e
    rcases spl_case hlo hS hx hE hR hC hcr e with ⟨C2, hc, e⟩ | hg
    rotate_left; exact hg
    have hc : C2 = dC (trC P fn.ntmps k .skip) := hc
    subst hc
    exact (hx.goal hE hR hC e).of_steps (.one stepR_skip)
  | label l =>
    intro k td todo a en w C' hS hx hE hR hC hcr e
    rcases spl_case hlo hS hx hE hR hC hcr e with ⟨C2, hc, e⟩ | hg
    rotate_left; exact hg
    have hc : C2 = dC (trC P fn.ntmps k (.label l)) := hc
    subst hc
    exact (hx.goal hE hR hC e).of_steps (.one stepR_label)
  | goto l =>
    intro k td todo a en w C' hS hx hE hR hC hcr e
    rcases spl_case hlo hS hx hE hR hC hcr e with ⟨C2, hc, e⟩ | hg
    rotate_left; exact hg
    have hc : C2 = C.bad := hc
    subst hc; cases e
  | refuse s =>
    intro k td todo a en w C' hS hx hE hR hC hcr e
    rcases spl_case hlo hS hx hE hR hC hcr e with ⟨C2, hc, e⟩ | hg
    rotate_left; exact hg
    have hc : C2 = C.bad := hc
    subst hc; cases e
  | region id ops draw =>
    intro k td todo a en w C' hS hx hE hR hC hcr e
    rcases spl_case hlo hS hx hE hR hC hcr e with ⟨C2, hc, e⟩ | hg
    rotate_left; exact hg
    have hc : C2 = C.rg (dR (trR P fn.ntmps ops draw)) := hc
    subst hc
    have e : rgK tb (dR (trR P fn.ntmps ops draw)) en td (.mk f df kd rd) cs h nx κ = true := e
    unfold trR at e
    cases draw with
    | false =>
      simp only [Bool.false_eq_true, if_false] at e
      rw [← range_get ops] at e
      exact (reg_plain ht _ θ a h nx w en (fun i hi => List.mem_range.1 hi) hx hR hC hE e).of_steps (.one stepR_region)
    | true =>
      simp only [if_true] at e
      split at e
      · rename_i l hl
        rw [frcL_eq] at e
        split at e
        · rename_i hok
          have hR' : HR P w0 (([] : List (Nat × Nat × AO)).map (·.2) ++ pd) θ h nx { w with drawn := w.drawn + 1 } := hR.same rfl ⟨rfl, rfl, rfl⟩
          refine (reg_draw (qs := []) ht l θ a h nx _ en en [] [] _ (fun _ => False) ⟨hok, lin_schedule hm _, fun i hi => hi.elim, fun i hi => hi.elim, trivial, (fun i hi => by cases hi), hE, fun t _ _ => rfl, (fun i hi => by cases hi)⟩ hx hR' hC e).of_steps (.one stepR_region_draw)
        · rw [rgK_op] at e; cases e
      · rw [rgK_op] at e; cases e
  | seq x y ihx ihy =>
    intro k td todo a en w C' hS hx hE hR hC hcr e
    rcases spl_case hlo hS hx hE hR hC hcr e with ⟨C2, hc, e⟩ | hg
    rotate_left; exact hg
    obtain ⟨c1, c2, rfl, h1, h2⟩ : ∃ a b, C2 = .seq a b ∧ CR a (dC (trC P fn.ntmps k x)) ∧ CR b (dC (trC P fn.ntmps (k + nrf x) y)) := hc
    exact (ihx k _ _ a en w c1 (fun e he => hS e (by simp only [rfs, List.mem_append]; exact .inl he)) (hx.more (.code (k := k + nrf x) (c := y) (fun e he => hS e (by simp only [rfs, List.mem_append]; exact .inr he)) h2)) hE hR hC h1 e).of_steps (.one stepR_seq)
  | cond g x y ihx ihy =>
    intro k td todo a en w C' hS hx hE hR hC hcr e
    rcases spl_case hlo hS hx hE hR hC hcr e with ⟨C2, hc, e⟩ | hg
    rotate_left; exact hg
    have hc : CRs C2 (dC (match trX g with | some z => .cond z (trC P fn.ntmps k x) (trC P fn.ntmps (k + nrf x) y) | none => .bad)) := hc
    split at hc
    · rename_i z hz
      obtain ⟨c1, c2, rfl, h1, h2⟩ : ∃ a b, C2 = .cond (dX z) a b ∧ CR a (dC (trC P fn.ntmps k x)) ∧ CR b (dC (trC P fn.ntmps (k + nrf x) y)) := hc
      have e : dX z en (asBL fun c => br c (codeK tb c1 en td (.mk f df kd rd) cs h nx κ) (codeK tb c2 en td (.mk f df kd rd) cs h nx κ)) = true := e
      obtain ⟨v, e1, hv⟩ := arg_ok hz e hE
      obtain ⟨c, hc, e2⟩ : ∃ c, a.eval g = .bool c ∧ br c (codeK tb c1 en td (.mk f df kd rd) cs h nx κ) (codeK tb c2 en td (.mk f df kd rd) cs h nx κ) = true := by
        by_cases hl : ∃ q N, v = .l q N
        · obtain ⟨q, N, rfl⟩ := hl
          obtain ⟨b1, e2⟩ := br_t e1
          obtain ⟨e3, e4⟩ := br_t e2
          have b1 := Nat.eq_of_beq_eq_true b1
          subst b1
          refine ⟨ln θ.lane N != 0, hv.2, ?_⟩
          cases (ln θ.lane N != 0)
          · exact e4
          · exact e3
        · have e1 : asB (fun c => br c (codeK tb c1 en td (.mk f df kd rd) cs h nx κ) (codeK tb c2 en td (.mk f df kd rd) cs h nx κ)) v = true := by
            cases v <;> first | exact e1 | exact absurd ⟨_, _, rfl⟩ hl
          obtain ⟨c, rfl, e2⟩ := asB_true e1
          exact ⟨c, hv.2, e2⟩
      cases c with
      | true => exact (ihx k td todo a en w c1 (fun e he => hS e (by simp only [rfs, List.mem_append]; exact .inl he)) hx hE hR hC h1 e2).of_steps (.one (stepR_cond hc))
      | false => exact (ihy _ td todo a en w c2 (fun e he => hS e (by simp only [rfs, List.mem_append]; exact .inr he)) hx hE hR hC h2 e2).of_steps (.one (stepR_cond hc))
    · have hc : C2 = C.bad := hc
      subst hc; cases e
  | block id x ih =>
    intro k td todo a en w C' hS hx hE hR hC hcr e
    rcases spl_case hlo hS hx hE hR hC hcr e with ⟨C2, hc, e⟩ | hg
    rotate_left; exact hg
    obtain ⟨c1, rfl, h1⟩ : ∃ a, C2 = .blk id a ∧ CR a (dC (trC P fn.ntmps k x)) := hc
    exact (ih k _ _ a en w c1 hS (hx.more (.blk id)) hE hR hC h1 e).of_steps (.one stepR_block)
  | loop x ih =>
    intro k td todo a en w C' hS hx hE hR hC hcr e
    rcases spl_case hlo hS hx hE hR hC hcr e with ⟨C2, hc, e⟩ | hg
    rotate_left; exact hg
    obtain ⟨c1, rfl, h1⟩ : ∃ a, C2 = .loop a ∧ CR a (dC (trC P fn.ntmps k x)) := hc
    exact (ih k _ _ a en w c1 hS (hx.more (IR.lp (c := x) hS h1)) hE hR hC h1 e).of_steps (.one stepR_loop)
  | scope x ih =>
    intro k td todo a en w C' hS hx hE hR hC hcr e
    rcases spl_case hlo hS hx hE hR hC hcr e with ⟨C2, hc, e⟩ | hg
    rotate_left; exact hg
    obtain ⟨c1, rfl, h1⟩ : ∃ a, C2 = .sc a ∧ CR a (dC (trC P fn.ntmps k x)) := hc
    exact (ih k _ _ a en w c1 hS (hx.more (.sc x)) hE hR hC h1 e).of_steps (.one stepR_scope)
  | rangeFunc g ps x y =>
    intro k td todo a en w C' hS hx hE hR hC hcr e
    rcases spl_case hlo hS hx hE hR hC hcr e with ⟨C2, hc, e⟩ | hg
    rotate_left; exact hg
    have hc : CRs C2 (dC (match trX g with | some z => .rf z k | none => .bad)) := hc
    split at hc
    · rename_i z hz
      have hc : C2 = C.rf (dX z) k := hc
      subst hc
      exact rf_ok ht hz e hx hS hE hR hC
    · have hc : C2 = C.bad := hc
      subst hc; cases e
  | exit id =>
    intro k td todo a en w C' hS hx hE hR hC hcr e
    rcases spl_case hlo hS hx hE hR hC hcr e with ⟨C2, hc, e⟩ | hg
    rotate_left; exact hg
    have hc : C2 = C.exit id := hc
    subst hc
    have e : exitK id en td (.mk f df kd rd) cs h nx κ = true := e
    obtain ⟨x1, x2⟩ := exitTo_ok (id := id) hx.ht
    unfold exitK at e
    cases hex : exitTo' id td with
    | some k2 =>
      rw [hex] at e
      obtain ⟨k', y1, y2⟩ := x1 k2 hex
      exact ((hx.tdm y2).goal hE hR hC e).of_steps (.one (stepR_exit y1))
    | none =>
      rw [hex] at e
      have y1 := x2 hex
      cases rd with
      | none => cases e
      | some o =>
        obtain ⟨ho, hk⟩ := hx.hr o rfl
        subst hk
        have e : endK o (.exit id) false cs h nx κ = true := e
        refine endK_ok e hR ho hC (fun c rest v w' hr hF => ?_)
        rw [hF]
        exact .one (stepR_round_exit (b := bF f false ((some o).map θ.blk)) rfl rfl y1 hr)
  | ret =>
    intro k td todo a en w C' hS hx hE hR hC hcr e
    rcases spl_case hlo hS hx hE hR hC hcr e with ⟨C2, hc, e⟩ | hg
    rotate_left; exact hg
    have hc : C2 = C.ret := hc
    subst hc
    have e : leaveK .ret en td (.mk f df kd rd) cs h nx κ = true := e
    refine leave_ok e hx hE hR hC (fun hr => ?_) (fun o ho c rest v w' hr => fun hF => ?_)
    · subst hr; exact .one (stepR_ret (b := bF f kd ((none : Option Nat).map θ.blk)) rfl)
    · subst ho
      have hk := (hx.hr o rfl).2
      subst hk
      exact .one (stepR_round_ret (b := bF f false ((some o).map θ.blk)) rfl rfl hr)
/-! ### Steps -/
theorem step_ok (ht : TbOk tb P) (hm : P.follows .mixedOrders = true) (hlo : LoOk P w0 cs0 f0 tb) {s : ASt} {m : Machine} (hs : StR P w0 cs0 f0 s m) (e : stepK tb s κ = true) : Goal P w0 cs0 f0 κ m := by
  cases hs with
  | fin hR hv hl hfn => cases e
  | @mk en td fr cs h nx θ q pd F Fs w hR hF hC =>
    have e : todoK tb td en fr cs h nx κ = true := e
    cases hF with
    | @run _ _ f df kd rd a todo fn body hf hr hd hs hE htd =>
      have hR : HR P w0 pd θ h nx w := hR
      cases htd with
      | nil =>
        have e : leaveK .no en [] (.mk f df kd rd) cs h nx κ = true := e
        have hx : Fx P θ f fn body kd rd df a [] [] := ⟨hf, hr, hd, hs, .nil⟩
        refine leave_ok e hx hE hR hC (fun hn => ?_) (fun o ho c rest v w' hrun => fun hF => ?_)
        · subst hn; exact .one (stepR_end (b := bF f kd ((none : Option Nat).map θ.blk)) rfl)
        · subst ho
          have hk := (hx.hr o rfl).2
          subst hk
          exact .one (stepR_round_end (b := bF f false ((some o).map θ.blk)) rfl rfl hrun)
      | @cons t i td todo hi htd =>
        have hx : Fx P θ f fn body kd rd df a td todo := ⟨hf, hr, hd, hs, htd⟩
        cases hi with
        | code hS hcr => exact code_ok ht hm hlo _ _ td todo a en w _ hS hx hE hR hC hcr e
        | reg hi => exact reg_plain ht _ θ a h nx w en hi hx hR hC hE e
        | blk id => exact (hx.goal hE hR hC e).of_steps (.one stepR_inBlock)
        | lp hS hcr => exact (code_ok ht hm hlo _ _ _ _ a en w _ hS (hx.more (IR.lp hS hcr)) hE hR hC hcr e).of_steps (.one stepR_inLoop)
        | sc c => exact (hx.goal hE hR hC e).of_steps (.one stepR_inScope)
        | irf ho => cases e
        | erf ho => exact erf_ok e hx ho hE hR hC
        | br => exact br_ok e hx hE hR hC
    | draw hf hr hd hs htd hD => exact reg_draw ht _ θ _ h nx w en _ _ _ _ _ _ hD ⟨hf, hr, hd, hs, htd⟩ hR hC e
    | ret hf hd hE => exact ret_ok ht e hf hd hE hR hC
theorem run_ok0 (ht : TbOk tb P) (hm : P.follows .mixedOrders = true) (hlo : LoOk P w0 cs0 f0 tb) : ∀ (n : Nat) (s : ASt) (m : Machine), StR P w0 cs0 f0 s m → run tb n s κ = true → Goal P w0 cs0 f0 κ m
  | 0, s, m, hs, e => ⟨s, m, .refl P m, hs, e⟩
  | n + 1, s, m, hs, e => by
    obtain ⟨s', m', h1, h2, h3⟩ := step_ok ht hm hlo (κ := fun s => run tb n s κ) hs e
    exact (run_ok0 ht hm hlo n s' m' h2 h3).of_steps h1
theorem lo_ok (ht : TbOk tb P) (hm : P.follows .mixedOrders = true) : LoOk P w0 cs0 f0 tb := by
  intro _ n s m κ hs e
  exact run_ok0 ht.low hm (by obtain ⟨f, l, lv⟩ := tb; intro h; cases h) n s m hs e
theorem run_ok (ht : TbOk tb P) (hm : P.follows .mixedOrders = true) (n : Nat) (s : ASt) (m : Machine) (hs : StR P w0 cs0 f0 s m) (e : run tb n s κ = true) : Goal P w0 cs0 f0 κ m := run_ok0 ht hm (lo_ok ht hm) n s m hs e
theorem runF_ok (ht : TbOk tb P) (hm : P.follows .mixedOrders = true) {κ : AV → H → Nat → R} : ∀ (n : Nat) (s : ASt) (m : Machine), StR P w0 cs0 f0 s m → runF tb n s κ = true →
    ∃ v h nx m', Steps P m m' ∧ StR P w0 cs0 f0 (.fin v h nx) m' ∧ κ v h nx = true
  | 0, s, m, hs, e => by cases e
  | n + 1, s, m, hs, e => by
    cases s with
    | mk en td fr cs h nx =>
      have e : stepK tb (.mk en td fr cs h nx) (fun s => runF tb n s κ) = true := e
      obtain ⟨s', m', h1, h2, h3⟩ := step_ok ht hm (lo_ok ht hm) hs e
      obtain ⟨v, h, nx, m2, k1, k2, k3⟩ := runF_ok ht hm n s' m' h2 h3
      exact ⟨v, h, nx, m2, h1.trans k1, k2, k3⟩
    | fin v h nx => exact ⟨v, h, nx, m, .refl P m, hs, e⟩
end
end Go.AM
