/-
  AM, 25: regions stepped through, both kinds. Conditions: none.
-/
import Derived.Test.YtniakcilpolneaaGreatDoorAmW
import Derived.RangeFuncRecord
namespace Go.AM
open Go

section
variable {P : Program} {θ θ' : Th} {f : Nat} {fn : Func} {body : Code} {kd : Bool} {rd : Option Nat} {df : List AD} {a a' : Act} {td : List T} {todo : List Item}
variable {w0 w : World} {cs0 : List Frame} {f0 : F0} {κ : ASt → R} {tb : Tb} {h : H} {nx : Nat} {cs : List AFr} {Fs : List Frame} {q pd : List (Nat × AO)} {en : Env}
variable {ops : Array Oper} {i : Nat} {rest : List Nat} {o : Oper}
theorem trH_call {dr : Bool} {ps : String} {op : Op} {f : Nat} {xs : List X} (h : trH P dr ps op = .call f xs) : ∃ c, op = .call c ∧ c.callee = .value (.func f) ∧ trXs c.args = some xs := by
  unfold trH at h
  split at h
  · rename_i c
    split at h
    · cases h
    · rename_i g xs' hc hx
      split at h
      · injection h with h1 h2; subst h1 h2; exact ⟨c, rfl, hc, hx⟩
      · cases h
    · split at h <;> cases h
    · split at h <;> cases h
    · cases h
  · split at h
    · split at h <;> cases h
    · split at h <;> cases h
    · cases h
  · cases h
theorem trH_calv {dr : Bool} {ps : String} {op : Op} {x : X} {xs : List X} (h : trH P dr ps op = .calv x xs) : ∃ c t, op = .call c ∧ c.callee = .value (.tmp t) ∧ t < 512 ∧ x = .t t ∧ trXs c.args = some xs := by
  unfold trH at h
  split at h
  · rename_i c
    split at h
    · cases h
    · split at h <;> cases h
    · rename_i t xs' hc hx
      split at h
      · rename_i ht; injection h with h1 h2; subst h1 h2; exact ⟨c, t, rfl, hc, ht, rfl, hx⟩
      · cases h
    · split at h <;> cases h
    · cases h
  · split at h
    · split at h <;> cases h
    · split at h <;> cases h
    · cases h
  · cases h
theorem trH_inv {dr : Bool} {ps : String} {op : Op} {tbl : List (Nat × Nat)} {x : X} {xs : List X} (h : trH P dr ps op = .inv tbl x xs) : ∃ c Y name, op = .call c ∧ c.callee = .invoke Y name ∧ trX Y = some x ∧ trXs c.args = some xs ∧ tbl = mtab P name := by
  unfold trH at h
  split at h
  · rename_i c
    split at h
    · cases h
    · split at h <;> cases h
    · split at h <;> cases h
    · rename_i Y name xs' hc hx
      split at h
      · rename_i y hy
        injection h with h1 h2 h3; subst h1 h2 h3; exact ⟨c, Y, name, rfl, hc, hy, hx, rfl⟩
      · cases h
    · cases h
  · split at h
    · split at h <;> cases h
    · split at h <;> cases h
    · cases h
  · cases h
theorem trH_dfr {dr : Bool} {ps : String} {op : Op} {x : X} {xs : List X} (h : trH P dr ps op = .dfr x xs) : ∃ c, op = .defer c ∧ trXs c.args = some xs ∧ ((∃ f, c.callee = .value (.func f) ∧ x = .c (.fn f [])) ∨ ∃ t, c.callee = .value (.tmp t) ∧ t < 512 ∧ x = .t t) := by
  unfold trH at h
  split at h
  · split at h
    · cases h
    · split at h <;> cases h
    · split at h <;> cases h
    · split at h <;> cases h
    · cases h
  · rename_i c
    split at h
    · rename_i g xs' hc hx
      split at h
      · injection h with h1 h2; subst h1 h2; exact ⟨c, rfl, hx, .inl ⟨g, hc, rfl⟩⟩
      · cases h
    · rename_i t xs' hc hx
      split at h
      · rename_i ht; injection h with h1 h2; subst h1 h2; exact ⟨c, rfl, hx, .inr ⟨t, hc, ht, rfl⟩⟩
      · cases h
    · cases h
  · cases h
theorem trH_rcv {dr : Bool} {ps : String} {op : Op} (h : trH P dr ps op = .rcv) : ∃ c, op = .call c ∧ c.callee = .builtin .recover := by
  unfold trH at h
  split at h
  · rename_i c
    split at h
    · rename_i hc _; exact ⟨c, rfl, hc⟩
    · split at h <;> cases h
    · split at h <;> cases h
    · split at h <;> cases h
    · cases h
  · split at h
    · split at h <;> cases h
    · split at h <;> cases h
    · cases h
  · cases h
/-- whose method is which function -/
theorem mtab_ok {name : String} {t f : Nat} (h : (t, f) ∈ mtab P name) : ∃ i m pr, P.info? t = some i ∧ i.methods.find? (·.name == name) = some m ∧ m.func = some (f, pr) ∧ m.path.isEmpty = true ∧ mrOk P t pr = true := by
  unfold mtab at h
  rw [List.mem_filterMap] at h
  obtain ⟨t', _, h⟩ := h
  split at h
  · rename_i i hi
    split at h
    · rename_i m hm
      split at h
      · rename_i f' pr hf
        split at h
        · rename_i hb
          simp only [Bool.and_eq_true] at hb
          injection h with h
          injection h with h1 h2
          subst h1 h2
          exact ⟨i, m, pr, hi, hm, hf, hb.1.1, hb.2⟩
        · cases h
      · cases h
    · cases h
  · cases h
theorem run_method {name : String} {t f : Nat} (h : (t, f) ∈ mtab P name) (v : Value) (w : World) : (method (P.types.size + Made.depth) t v name).run P w = .ok (f, v) w := by
  obtain ⟨i, m, pr, h1, h2, h3, h4, h5⟩ := mtab_ok h
  have hp : m.path.toList = [] := by simpa using h4
  show (method ((P.types.size + 99) + 1) t v name).run P w = _
  generalize P.types.size + 99 = n
  unfold mrOk at h5
  cases hu : P.underlying t with
  | none => rw [hu] at h5; cases h5
  | some d =>
    rw [hu] at h5
    have hr : ∀ wr, (receiverAt t (.val v) pr wr).run P w = .ok v w := by
      intro wr
      simp only [receiverAt, Sem.run_bind, run_underlying hu, Result.andThen]
      cases d <;> first
        | (have h5 : pr = true := h5
           subst h5
           rfl)
        | (have h5 : (!pr) = true := h5
           have h5 : pr = false := by simpa using h5
           subst h5
           rfl)
    simp only [method, Sem.run_bind, typeInfo, h1, h2, Result.andThen, Sem.run_pure, hp, follow, h3, hr, run_program]
theorem invK_true {tbl : List (Nat × Nat)} {v : AV} {vs : List AV} {cs : List AFr} {κ : ASt → R} (e : invK tb tbl v vs cs h nx κ = true) : ∃ t v' f, v = .ifc t v' ∧ (t, f) ∈ tbl ∧ enterK tb f (v' :: vs) false cs h nx κ = true := by
  cases v <;> first | (cases e; done) | skip
  rename_i t v'
  have e : fndF t (fun f => enterK tb f (v' :: vs) false cs h nx κ) tbl = true := e
  refine ⟨t, v', ?_⟩
  have go : ∀ tbl, fndF t (fun f => enterK tb f (v' :: vs) false cs h nx κ) tbl = true → ∃ f, (t, f) ∈ tbl ∧ enterK tb f (v' :: vs) false cs h nx κ = true := by
    intro tbl
    induction tbl with
    | nil => intro e; cases e
    | cons p tbl ih =>
      intro e
      obtain ⟨t', f⟩ := p
      have e : br (Nat.beq t' t) (enterK tb f (v' :: vs) false cs h nx κ) (fndF t (fun f => enterK tb f (v' :: vs) false cs h nx κ) tbl) = true := e
      rcases br_true e with ⟨h1, h2⟩ | ⟨h1, h2⟩
      · have h1 := Nat.eq_of_beq_eq_true h1
        subst h1
        exact ⟨f, List.mem_cons_self .., h2⟩
      · obtain ⟨f, h3, h4⟩ := ih h2
        exact ⟨f, List.mem_cons_of_mem _ h3, h4⟩
  obtain ⟨f, h1, h2⟩ := go tbl e
  exact ⟨f, rfl, h1, h2⟩
/-- arguments -/
theorem args_ok {args : Array Operand} {xs : List X} (hx : trXs args = some xs) {en : Env} {κ : List AV → R} (e : dXs xs en κ = true) (hE : ER θ en a.tmps) : ∃ vs, κ vs = true ∧ Oks θ vs ∧ args.map a.eval = (toVs θ vs).toArray := by
  obtain ⟨vs, h1, _, h3⟩ := xs_ok hx en
  rw [h1] at e
  obtain ⟨h4, h5⟩ := h3 θ a hE
  refine ⟨vs, e, h4, ?_⟩
  apply Array.ext'
  simpa using h5
theorem no_defer {op : Op} {c : Call} (h : op = .call c) : ∀ c', op ≠ .defer c' := by
  intro c' h'; rw [h] at h'; cases h'
theorem no_recover (hC : CsR P θ f0 f kd cs Fs pd) {b : Frame} (hb : b.kind = if kd then .deferred else .normal) {k : List Item} : tryRecover (b.atR a k) (Fs ++ cs0) = none := by
  have hk : (b.atR a k).kind = if kd then .deferred else .normal := hb
  unfold tryRecover
  rw [hk]
  cases kd with
  | false => rfl
  | true =>
    cases cs with
    | nil => exact absurd hC.2.1 (by simp)
    | cons c cs =>
      obtain ⟨en, td, fr⟩ := c
      obtain ⟨F, Fs', q, pd', rfl, _, hw, _⟩ := hC
      simp only [List.cons_append, if_true, hw.1]
theorem arg_ok {x : X} {X : Operand} (hx : trX X = some x) {en : Env} {κ : AV → R} (e : dX x en κ = true) (hE : ER θ en a.tmps) : ∃ v, κ v = true ∧ VR θ v (a.eval X) := by
  obtain ⟨v, h1, h2⟩ := x_ok hx en
  rw [h1] at e
  exact ⟨v, e, h2 θ a hE⟩
/-- an operation of a plain region -/
theorem op_plain {nt : Nat} {dr : Bool} {b : Frame} {k : List Item} {cs' : List Frame} {g : Gd} {d : Ds} {I : I} (ho : ops[i]? = some o) (hg : trG ops o = some g) (hd : trD nt o = some d) (hI : trH P dr o.pos o.op = .op I) {K : Env → H → Nat → R}
    (e : dG g en (dI I en h nx fun v h nx => K (putE d v en) h nx) (K (putE d undef en) h nx) = true) (hR : HR P w0 pd θ h nx w) (hE : ER θ en a.tmps) (hs : nt ≤ a.tmps.size) (hn : nt ≤ 512) :
    ∃ θ' h' nx' w' en' a', θ.le θ' ∧ Steps P (lone (b.atR a (.inRegion ops (i :: rest) :: k)) cs' w) (lone (b.atR a' (.inRegion ops rest :: k)) cs' w') ∧ HR P w0 pd θ' h' nx' w' ∧ ER θ' en' a'.tmps ∧
      a'.tmps.size = a.tmps.size ∧ a'.defers = a.defers ∧ K en' h' nx' = true := by
  rcases gd_ok hg hE e with ⟨_, e1, hw⟩ | ⟨_, e1, hw⟩
  · obtain ⟨v, u, θ', h', nx', w', n, k1, k2, k3, k4, k5, k6⟩ := (cls_of hI).op en h nx _ w0 pd θ a w hE hR e1
    exact ⟨θ', h', nx', w', _, _, k1, step_value ho hw k5 k6, k3, er_put hd (hE.mono k1) hs hn k2, put_size, put_defers, k4⟩
  · exact ⟨θ, h, nx, w, _, _, .refl θ, step_unwanted ho hw, hR, er_put hd hE hs hn (vr_undef θ), put_size, put_defers, e1⟩

/-- what is to be shown of an operation that calls, puts off or recovers: mk: how it goes on -/
theorem act_ok {dr : Bool} (ht : TbOk tb P) (hx : Fx P θ f fn body kd rd df a td todo) (hR : HR P w0 (q ++ pd) θ h nx w) (hC : CsR P θ f0 f kd cs Fs pd) (hE : ER θ en a.tmps) {π : List Nat} {o : Oper} {g : Gd} {d : Ds} {r : DR} {hh : DH}
    (ho : ops[i]? = some o) (hg : trG ops o = some g) (hd : trD fn.ntmps o = some d) (hH : trH P dr o.pos o.op = hh) (hact : ∀ I, hh ≠ .op I) {enA : Env} (hag : Agree (rdH hh ++ rdG (some g)) enA en)
    (e : rgK tb (dR (putH g d hh r)) enA td (.mk f df kd rd) cs h nx κ = true)
    (hnext : ∀ θ' h' v u df' a', θ.le θ' → VR θ' v u → a'.tmps = (a.put o.dst u).tmps → Fx P θ' f fn body kd rd df' a' td todo → FR P θ' h' q (putE d v enA) (.rg (dR r) :: td) (.mk f df' kd rd) ((bF f kd (rd.map θ'.blk)).atR a' (.inRegion ops π :: todo))) :
    Goal P w0 cs0 f0 κ (lone ((bF f kd (rd.map θ.blk)).atR a (.inRegion ops (i :: π) :: todo)) (Fs ++ cs0) w) := by
  have hgd : ∀ A B, dG g enA A B = dG g en A B := dG_agree hag.right
  -- on, with a value laid
  have on : ∀ {θ' : Th} {v : AV} {u : Value} {df' : List AD} {a' : Act} {w' : World}, θ.le θ' → VR θ' v u → a'.tmps = (a.put o.dst u).tmps → Fx P θ' f fn body kd rd df' a' td todo → HR P w0 (q ++ pd) θ' h nx w' →
      κ (.mk (putE d v enA) (.rg (dR r) :: td) (.mk f df' kd rd) cs h nx) = true → Goal P w0 cs0 f0 κ (lone ((bF f kd (rd.map θ.blk)).atR a' (.inRegion ops π :: todo)) (Fs ++ cs0) w') := by
    intro θ' v u df' a' w' hle hv ha hx' hR' e'
    have := hnext θ' h v u df' a' hle hv ha hx'
    rw [hx.rdm hle] at this
    exact ⟨_, _, .refl P _, .mk hR' this (hC.mono hle), e'⟩
  have unw : ∀ {e' : κ (.mk (putE d undef enA) (.rg (dR r) :: td) (.mk f df kd rd) cs h nx) = true}, Region.wanted o (yielded ops a.tmps) = false → Goal P w0 cs0 f0 κ (lone ((bF f kd (rd.map θ.blk)).atR a (.inRegion ops (i :: π) :: todo)) (Fs ++ cs0) w) := by
    intro e' hw
    exact (on (.refl θ) (vr_undef θ) rfl (hx.act put_size put_defers) hR e').of_steps (step_unwanted ho hw)
  -- the frame that waits
  have hwait : WaitR P θ q enA (.wt (dD d) (dR r) :: td) (.mk f df kd rd) ((bF f kd (rd.map θ.blk)).atR a (.inRegion ops (i :: π) :: todo)) false := by
    intro θ' h' v u hle hv
    refine ⟨d, rfl, ?_⟩
    have := hnext θ' h' v u df (a.put o.dst u) hle hv rfl ((hx.mono hle).act put_size put_defers)
    rw [hx.rdm hle] at this
    rw [Frame.finish_atR, ho]
    exact this
  have hCw : ∀ g, CsR P θ f0 g false (.mk enA (.wt (dD d) (dR r) :: td) (.mk f df kd rd) :: cs) ((bF f kd (rd.map θ.blk)).atR a (.inRegion ops (i :: π) :: todo) :: Fs) (q ++ pd) := fun _ => ⟨_, _, q, pd, rfl, rfl, hwait, hC⟩
  cases hh with
  | op I => exact absurd rfl (hact I)
  | bad =>
    have e : rgK tb (dR (.op .n .n .bad .nil)) enA td (.mk f df kd rd) cs h nx κ = true := e
    rw [rgK_op] at e
    cases e
  | call g' xs =>
    obtain ⟨c, hop, hc, hxs⟩ := trH_call hH
    have e : rgK tb (dR (.call g d g' xs r)) enA td (.mk f df kd rd) cs h nx κ = true := e
    rw [rgK_call, hgd] at e
    rcases gd_ok hg hE e with ⟨_, e1, hw⟩ | ⟨_, e1, hw⟩
    · rw [dXs_agree hag.left] at e1
      obtain ⟨vs, e2, h1, h2⟩ := args_ok hxs e1 hE
      obtain ⟨fn', body', hf', hgo⟩ := enter_ok ht e2 h1 hR (hCw _)
      refine hgo.of_steps (step_enter ho hw (no_defer hop) ?_)
      simp only [execOp, hop, resolve, hc, h2, Act.eval, Deferred.ofValue, Sem.run_bind, Sem.run_pure, Result.andThen, invoke]
      rw [run_callFunc hf']
      simp
    · exact unw (e' := e1) hw
  | calv x xs =>
    obtain ⟨c, t, hop, hc, htt, rfl, hxs⟩ := trH_calv hH
    have e : rgK tb (dR (.calv g d (.t t) xs r)) enA td (.mk f df kd rd) cs h nx κ = true := e
    rw [rgK_calv, hgd] at e
    rcases gd_ok hg hE e with ⟨_, e1, hw⟩ | ⟨_, e1, hw⟩
    · have hag1 : Agree (rdX (.t t)) enA en := hag.left.left
      have hag2 : Agree (xs.flatMap rdX) enA en := hag.left.right
      rw [dX_agree hag1] at e1
      have hX : trX (.tmp t) = some (.t t) := by simp [trX, htt]
      obtain ⟨v, e2, h1⟩ := arg_ok hX e1 hE
      rw [dXs_agree hag2] at e2
      obtain ⟨vs, e3, h2, h3⟩ := args_ok hxs e2 hE
      obtain ⟨d', n, k1, k2, k3⟩ := callv_ok ht e3 h1 h2 hR hCw
      have hrun : (execOp a.eval o).run P w = .ok n w := by
        simp only [execOp, hop, resolve, hc, h3, Sem.run_bind, k1, Result.andThen, k2]
      rcases k3 with ⟨g2, args, rfl, hgo⟩ | ⟨l, g2, tmps, x, y, rfl, hgo⟩
      · exact hgo.of_steps (step_enter ho hw (no_defer hop) hrun)
      · exact hgo.of_steps (step_round ho hw (no_defer hop) hrun)
    · exact unw (e' := e1) hw
  | inv tbl x xs =>
    obtain ⟨c, Y, name, hop, hc, hY, hxs, rfl⟩ := trH_inv hH
    have e : rgK tb (dR (.inv g d (mtab P name) x xs r)) enA td (.mk f df kd rd) cs h nx κ = true := e
    rw [rgK_inv, hgd] at e
    rcases gd_ok hg hE e with ⟨_, e1, hw⟩ | ⟨_, e1, hw⟩
    · have hag1 : Agree (rdX x) enA en := hag.left.left
      have hag2 : Agree (xs.flatMap rdX) enA en := hag.left.right
      rw [dX_agree hag1] at e1
      obtain ⟨v, e2, h1⟩ := arg_ok hY e1 hE
      rw [dXs_agree hag2] at e2
      obtain ⟨vs, e3, h2, h3⟩ := args_ok hxs e2 hE
      obtain ⟨t', v', f', rfl, hm, e4⟩ := invK_true e3
      have hv' : Ok θ v' := h1.1
      obtain ⟨fn', body', hf', hgo⟩ := enter_ok ht e4 (show Oks θ (v' :: vs) from ⟨hv', h2⟩) hR (hCw _)
      refine hgo.of_steps (step_enter ho hw (no_defer hop) ?_)
      have hX : a.eval Y = .iface t' (toV θ v') := h1.2
      have hcons : (#[Value.iface t' (toV θ v')] ++ (toVs θ vs).toArray)[0]? = some (.iface t' (toV θ v')) := by simp
      have htail : (#[Value.iface t' (toV θ v')] ++ (toVs θ vs).toArray).extract 1 (#[Value.iface t' (toV θ v')] ++ (toVs θ vs).toArray).size = (toVs θ vs).toArray := by
        apply Array.ext'
        simp
        rw [List.take_of_length_le (by simp)]
      have hall : #[toV θ v'] ++ (toVs θ vs).toArray = (toVs θ (v' :: vs)).toArray := by
        apply Array.ext'
        simp [toVs]
      simp only [execOp, hop, resolve, hc, h3, hX, Sem.run_bind, Sem.run_pure, Result.andThen, invoke, hcons, htail, callMethod, run_program, run_method hm, hall]
      rw [run_callFunc hf']
    · exact unw (e' := e1) hw
  | dfr x xs =>
    obtain ⟨c, hop, hxs, hcx⟩ := trH_dfr hH
    have e : rgK tb (dR (.dfr g d x xs r)) enA td (.mk f df kd rd) cs h nx κ = true := e
    rw [rgK_dfr, hgd] at e
    rcases gd_ok hg hE e with ⟨_, e1, hw⟩ | ⟨_, e1, hw⟩
    · cases rd with
      | some o => cases e1
      | none =>
        have e1 : dX x enA (fun v => dXs xs enA fun vs => match v with
          | .fn f2 caps => appK AV vs caps fun vs => κ (.mk (putE d undef enA) (.rg (dR r) :: td) (.mk f (.fn f2 vs :: df) kd none) cs h nx)
          | _ => false) = true := e1
        have hag1 : Agree (rdX x) enA en := hag.left.left
        have hag2 : Agree (xs.flatMap rdX) enA en := hag.left.right
        rw [dX_agree hag1] at e1
        obtain ⟨X, v, hcX, e2, h1⟩ : ∃ X v, c.callee = .value X ∧ (dXs xs enA fun vs => match v with
          | .fn f2 caps => appK AV vs caps fun vs => κ (.mk (putE d undef enA) (.rg (dR r) :: td) (.mk f (.fn f2 vs :: df) kd none) cs h nx)
          | _ => false) = true ∧ VR θ v (a.eval X) := by
          rcases hcx with ⟨g2, hc, rfl⟩ | ⟨t, hc, htt, rfl⟩
          · exact ⟨_, .fn g2 [], hc, e1, ⟨trivial, rfl⟩⟩
          · have hX : trX (.tmp t) = some (.t t) := by simp [trX, htt]
            obtain ⟨v, e2, h1⟩ := arg_ok hX e1 hE
            exact ⟨_, v, hc, e2, h1⟩
        rw [dXs_agree hag2] at e2
        obtain ⟨vs, e3, h2, h3⟩ := args_ok hxs e2 hE
        cases v <;> first | (cases e3; done) | skip
        rename_i f2 caps
        have e3 : appK AV vs caps (fun vs => κ (.mk (putE d undef enA) (.rg (dR r) :: td) (.mk f (.fn f2 vs :: df) kd none) cs h nx)) = true := e3
        rw [appK_eq] at e3
        have hall : Oks θ (vs ++ caps) := Oks_iff.2 fun x hx => (List.mem_append.1 hx).elim (Oks_iff.1 h2 x) (Oks_iff.1 h1.1 x)
        have hu : a.eval X = .func (.func f2) #[] (toVs θ caps).toArray := h1.2
        have hrun : (execOp a.eval o).run P w = .ok (.defer { target := .fn (.func f2) (toVs θ caps).toArray, args := #[] ++ (toVs θ vs).toArray }) w := by
          simp only [execOp, hop, resolve, hcX, h3, hu, Deferred.ofValue, Sem.run_bind, Sem.run_pure, Result.andThen]
        refine (on (v := undef) (u := Go.undef) (.refl θ) (vr_undef θ) ?_ ⟨hx.hf, hx.hr, ?_, ?_, hx.ht⟩ hR e3).of_steps (step_defer_op rfl ho hw hrun)
        · cases o.dst <;> rfl
        · rw [put_defers]
          exact ⟨_, _, _, rfl, rfl, by simp [toVs_map], hall, hx.hd⟩
        · rw [put_size]; exact hx.hs
    · exact unw (e' := e1) hw
  | rcv =>
    obtain ⟨c, hop, hc⟩ := trH_rcv hH
    have e : rgK tb (dR (.rcv g d r)) enA td (.mk f df kd rd) cs h nx κ = true := e
    rw [rgK_rcv, hgd] at e
    rcases gd_ok hg hE e with ⟨_, e1, hw⟩ | ⟨_, e1, hw⟩
    · cases rd with
      | some o => cases e1
      | none =>
        have e1 : κ (.mk (putE d .ni enA) (.rg (dR r) :: td) (.mk f df kd none) cs h nx) = true := e1
        have hrun : (execOp a.eval o).run P w = .ok .recover w := by
          simp only [execOp, hop, resolve, hc, Sem.run_bind, Sem.run_pure, Result.andThen, invoke, builtin]
        refine (on (v := .ni) (u := .nilIface) (.refl θ) ⟨trivial, rfl⟩ rfl (hx.act put_size put_defers) hR e1).of_steps (step_recover rfl ho hw (no_defer hop) hrun (no_recover hC rfl))
    · exact unw (e' := e1) hw
/-- a plain region -/
theorem reg_plain (ht : TbOk tb P) : ∀ (rest : List Nat) (θ : Th) (a : Act) (h : H) (nx : Nat) (w : World) (en : Env), (∀ i ∈ rest, i < ops.size) → Fx P θ f fn body kd rd df a td todo → HR P w0 pd θ h nx w → CsR P θ f0 f kd cs Fs pd → ER θ en a.tmps →
    rgK tb (dR (trOs P fn.ntmps ops (rest.filterMap (ops[·]?)))) en td (.mk f df kd rd) cs h nx κ = true → Goal P w0 cs0 f0 κ (lone ((bF f kd (rd.map θ.blk)).atR a (.inRegion ops rest :: todo)) (Fs ++ cs0) w) := by
  intro rest
  induction rest with
  | nil =>
    intro θ a h nx w en _ hx hR hC hE e
    exact (hx.goal hE hR hC e).of_steps (.one stepR_region_end)
  | cons i rest ih =>
    intro θ a h nx w en hi hx hR hC hE e
    obtain ⟨o, ho⟩ : ∃ o, ops[i]? = some o := ⟨_, Array.getElem?_eq_getElem (hi i (List.mem_cons_self ..))⟩
    rw [List.filterMap_cons, ho] at e
    have e : rgK tb (dR (match trG ops o, trD fn.ntmps o with | some g, some d => putH g d (trH P false o.pos o.op) (trOs P fn.ntmps ops (rest.filterMap (ops[·]?))) | _, _ => .op .n .n .bad .nil)) en td (.mk f df kd rd) cs h nx κ = true := e
    have hi' : ∀ j ∈ rest, j < ops.size := fun j hj => hi j (List.mem_cons_of_mem _ hj)
    split at e
    · rename_i g d hg hd
      cases hH : trH P false o.pos o.op with
      | op I =>
        rw [hH] at e
        have e : rgK tb (dR (.op g d I (trOs P fn.ntmps ops (rest.filterMap (ops[·]?))))) en td (.mk f df kd rd) cs h nx κ = true := e
        rw [rgK_op] at e
        obtain ⟨θ', h', nx', w', en', a', k1, k2, k3, k4, k5, k6, k7⟩ := op_plain (rest := rest) (b := bF f kd (rd.map θ.blk)) (k := todo) (cs' := Fs ++ cs0) ho hg hd hH (K := fun en h nx => rgK tb (dR (trOs P fn.ntmps ops (rest.filterMap (ops[·]?)))) en td (.mk f df kd rd) cs h nx κ) e hR hE hx.hs hx.hf.nt
        have := ih θ' a' h' nx' w' en' hi' ((hx.mono k1).act k5 k6) k3 (hC.mono k1) k4 k7
        rw [hx.rdm k1] at this
        exact this.of_steps k2
      | _ =>
        refine act_ok (q := []) (d := d) (r := trOs P fn.ntmps ops (rest.filterMap (ops[·]?))) ht hx hR hC hE ho hg hd rfl (fun I hI => by rw [hH] at hI; cases hI) (fun t _ => rfl) e ?_
        intro θ' h' v u df' a' hle hv ha hx'
        exact (hx'.more (.reg hi')).run h' (by rw [ha]; exact er_put hd (hE.mono hle) hx.hs hx.hf.nt hv)
    · rw [rgK_op] at e
      cases e

/-! ### Drawn regions -/
theorem dG_split {g : Gd} {en : Env} {A B : R} (e : dG g en A B = true) : (GSays g en true ∧ A = true) ∨ (GSays g en false ∧ B = true) := by
  cases g with
  | n => exact .inl ⟨.yes fun _ _ => rfl, e⟩
  | g t b =>
    have hdef : ∀ A B : R, dG (.g t b) en A B = (match getL AV 3 t en with | .b c => br (eqB c b) A B | .tu _ => B | _ => false) := by
      intro A B
      show getK AV (fun v => match v with | .b c => br (eqB c b) A B | .tu _ => B | _ => false) 3 t en = _
      rw [getK_eq]
    rw [hdef] at e
    cases hv : getL AV 3 t en <;> rw [hv] at e <;> first | (cases e; done) | skip
    · rename_i c
      have e : br (eqB c b) A B = true := e
      cases hc : eqB c b with
      | true => rw [hc] at e; exact .inl ⟨.yes fun A B => by rw [hdef, hv]; show br (eqB c b) A B = A; rw [hc]; rfl, e⟩
      | false => rw [hc] at e; exact .inr ⟨.no fun A B => by rw [hdef, hv]; show br (eqB c b) A B = B; rw [hc]; rfl, e⟩
    · exact .inr ⟨.no fun A B => by rw [hdef, hv], e⟩
theorem cls_op {nt : Nat} {c : Nat} (hc : c < 3) (ho : ops[i]? = some o) (h : clsAt P ops i = c) : ∃ I, trH P true o.pos o.op = .op I ∧ clsI I = c := by
  unfold clsAt cls at h
  rw [ho] at h
  have h : clsH (trH P true o.pos o.op) = c := h
  cases hH : trH P true o.pos o.op with
  | op I => rw [hH] at h; exact ⟨I, rfl, h⟩
  | _ => rw [hH] at h; have h : 3 = c := h; omega
theorem trO_eq {nt : Nat} {dr : Bool} {g : Gd} {d : Ds} {r : DR} (hg : trG ops o = some g) (hd : trD nt o = some d) : trO P nt dr ops o r = putH g d (trH P dr o.pos o.op) r := by
  unfold trO
  rw [hg, hd]
/-- one more carried out by the machine alone -/
theorem dr_add {nt : Nat} {qs qs' : List (Nat × Nat × AO)} {L : List (Bool × Nat)} {A st π : List Nat} {D : Nat → Prop} {en enM : Env} {h h' : H} (hn : nt ≤ 512) (hD : Dr P nt ops θ h qs ((false, i) :: L) A st en enM a.tmps π D) (hcl : clsAt P ops i < 3) {g : Gd} {d : Ds}
    (hf : Fitd P nt ops i o g d) {v : AV} (hx : Ext h h') (hq : ∀ x ∈ qs, x ∈ qs')
    (hp : ∀ en' enM', (∀ t, d = .d t → getL AV 3 t en' = v) → EnI ops i (rdOf P ops o) en en' enM' → Pend P ops qs' st h' en' enM' i o g d) : Dr P nt ops θ h' qs' L (i :: A) st (putE d v en) enM a.tmps π D := by
  have hchk := hD.chk
  simp only [okL, Bool.and_eq_true] at hchk
  obtain ⟨hfit, hrest⟩ := hchk
  obtain ⟨_, hia, hdepA⟩ := fitL_ok hfit
  rw [if_pos hcl] at hrest
  have hnD : ¬ D i := fun h => hia (hD.sub i h)
  refine ⟨hrest, hD.lin, hD.shut, fun j hj => List.mem_cons_of_mem _ (hD.sub j hj), ⟨fun o' ho' e he hb => hdepA o' ho' e he hb, hD.ord⟩, ?_, hD.er, ?_, ?_⟩
  · intro j hj hc
    rcases List.mem_cons.1 hj with rfl | hj
    · omega
    · exact hD.act j hj hc
  · intro t ht hno
    have hne : o.dst ≠ some t := hno i o (List.mem_cons_self ..) hnD hf.ho
    rw [putE_ne ht hn hf.hd hne]
    exact hD.agr t ht fun j oj hj hnj hoj => hno j oj (List.mem_cons_of_mem _ hj) hnj hoj
  · intro j hj
    rcases List.mem_cons.1 hj with rfl | hj
    · refine ⟨o, g, d, hf, fun _ => hp _ _ (fun t ht => putE_same ht) fun t ht => ?_⟩
      by_cases hb : ∀ k ok, ops[k]? = some ok → ok.dst = some t → Waits ops j k
      · exact .inl ⟨hb, (putE_ne (hf.lt t ht) hn hf.hd fun e => hia ((hb j o hf.ho e).shut hD.ord.shut hdepA)).symm⟩
      · obtain ⟨k, ok, hk, hkt, hnw⟩ : ∃ k ok, ops[k]? = some ok ∧ ok.dst = some t ∧ ¬ Waits ops j k := Classical.byContradiction fun hc => hb fun k ok h1 h2 => Classical.byContradiction fun h3 => hc ⟨k, ok, h1, h2, h3⟩
        have hw := (hf.rd k ok t hk hkt ht).resolve_left hnw
        refine .inr ⟨⟨k, ok, hk, hkt, hw, hnw⟩, hD.agr t (hf.lt t ht) fun j' oj' hj' _ hoj' e => hia ?_⟩
        obtain ⟨o', g', d', hf', _⟩ := hD.pend j' hj'
        have ho' : o' = oj' := by have := hf'.ho; rw [hoj'] at this; injection this with this; exact this.symm
        subst ho'
        rcases hf'.ds k ok t hk hkt with h | h
        · subst h
          exact hw.shut hD.ord.shut (fun o ho e he hb => hD.ord.shut j' hj' o ho e he hb)
        · exact absurd e h
    · obtain ⟨o', g', d', hf', hp'⟩ := hD.pend j hj
      refine ⟨o', g', d', hf', fun hnd => ?_⟩
      have hji : j ≠ i := fun e => hia (e ▸ hj)
      have hw : ¬ Waits ops j i := fun h => hia (h.shut hD.ord.shut (fun o ho e he hb => hD.ord.shut j hj o ho e he hb))
      exact ((hp' hnd).put (v := v) hn hf' hf.ho hf.hd hji hw (fun _ _ _ _ _ _ _ => rfl)).ext hx (fun x hx _ => hq x hx)
/-- a region that draws its order -/
theorem reg_draw (ht : TbOk tb P) : ∀ (L : List (Bool × Nat)) (θ : Th) (a : Act) (h : H) (nx : Nat) (w : World) (en enM : Env) (qs : List (Nat × Nat × AO)) (A st π : List Nat) (D : Nat → Prop),
    Dr P fn.ntmps ops θ h qs L A st en enM a.tmps π D → Fx P θ f fn body kd rd df a td todo → HR P w0 (qs.map (·.2) ++ pd) θ h nx w → CsR P θ f0 f kd cs Fs pd →
    rgK tb (dR (trDr P fn.ntmps ops L)) en td (.mk f df kd rd) cs h nx κ = true → Goal P w0 cs0 f0 κ (lone ((bF f kd (rd.map θ.blk)).atR a (.inRegion ops π :: todo)) (Fs ++ cs0) w) := by
  intro L
  induction L with
  | nil =>
    intro θ a h nx w en enM qs A st π D hD hx hR hC e
    have hchk := hD.chk
    simp only [okL, Bool.and_eq_true] at hchk
    have hst : st = [] := by cases st with | nil => rfl | cons x y => cases hchk.1
    subst hst
    have hall : ∀ i, i < ops.size → i ∈ A := fun i hi => (okL_cover hD.chk i hi).resolve_right (by simp)
    obtain ⟨θ', a', w', k1, k2, k3, k4, k5, k6⟩ := dr_end (b := bF f kd (rd.map θ.blk)) (k := todo) (cs := Fs ++ cs0) hall hx.hf.nt π θ qs enM a D w hD hR hx.hs
    have := ((hx.mono k1).act k5 k6).goal (κ := κ) (cs0 := cs0) k4 k3 (hC.mono k1) e
    rw [hx.rdm k1] at this
    exact this.of_steps k2
  | cons p L ih =>
    intro θ a h nx w en enM qs A st π D hD hx hR hC e
    obtain ⟨again, i⟩ := p
    cases again with
    | true =>
      have hchk := hD.chk
      simp only [okL, Bool.and_eq_true] at hchk
      obtain ⟨⟨⟨hiA, hc1⟩, hfb⟩, hrest⟩ := hchk
      have hiA := memb_iff.1 hiA
      have hc1 : clsAt P ops i = 1 := Nat.eq_of_beq_eq_true hc1
      obtain ⟨o, g, d, hf, hp⟩ := hD.pend i hiA
      obtain ⟨I, hI, hcI⟩ := cls_op (nt := 0) (by omega) hf.ho hc1
      have e : rgK tb (dR (match ops[i]? with
        | some o => (match trG ops o, o.dst with
          | some g, some d => if d < fn.ntmps then .rck g d (trI P true o.pos o.op) (trDr P fn.ntmps ops L) else .op .n .n .bad .nil
          | _, _ => .op .n .n .bad .nil)
        | none => .op .n .n .bad .nil)) en td (.mk f df kd rd) cs h nx κ = true := e
      rw [hf.ho] at e
      simp only [hf.hg] at e
      rcases trD_some hf.hd with ⟨h1, _⟩ | ⟨t, h1, h2, h3⟩
      · rw [h1] at e
        simp only [] at e
        rw [rgK_op] at e; cases e
      · rw [h1] at e
        simp only [h3, if_true] at e
        rw [rgK_rck, ← trH_op hI] at e
        have hcls := cls_of hI
        unfold Cls at hcls
        rw [hcI] at hcls
        -- the rest holds, and what stands there is as it was read
        have key : rgK tb (dR (trDr P fn.ntmps ops L)) en td (.mk f df kd rd) cs h nx κ = true ∧ (GSays g en true → ∃ v, getL AV 3 t en = v ∧ ∀ h', Ext h h' → ∀ nx' κ', dI I en h' nx' κ' = κ' v h' nx') := by
          rcases dG_split e with ⟨hg, e1⟩ | ⟨hg, e1⟩
          · obtain ⟨v, k1, _⟩ := hcls en h nx _ e1
            rw [k1 h (Ext.refl h)] at e1
            obtain ⟨hb, e2⟩ := br_t e1
            exact ⟨e2, fun _ => ⟨v, beqV_eq _ _ hb, k1⟩⟩
          · refine ⟨e1, fun hg' => ?_⟩
            cases hg with
            | no h4 => cases hg' with | yes h5 => exact absurd ((h4 true false).symm.trans (h5 true false)) (by simp)
        refine ih θ a h nx w en enM qs A _ π D ⟨hrest, hD.lin, hD.shut, hD.sub, hD.ord, hD.act, hD.er, hD.agr, ?_⟩ hx hR hC key.1
        intro j hj
        obtain ⟨oj, gj, dj, hfj, hpj⟩ := hD.pend j hj
        refine ⟨oj, gj, dj, hfj, fun hnd => ?_⟩
        obtain ⟨Ij, eni, hIj, hlt, hEi, hpj⟩ := hpj hnd
        refine ⟨Ij, eni, hIj, hlt, hEi, hpj.imp id fun ⟨p1, p2⟩ => ⟨p1, ?_⟩⟩
        rcases p2 with p2 | ⟨c, hs | p2⟩ | p2
        · exact .inl p2
        · refine .inr (.inl ⟨c, ?_⟩)
          by_cases hji : j = i
          · subst hji
            have e1 : oj = o := by have := hfj.ho; rw [hf.ho] at this; injection this with this; exact this.symm
            subst e1
            have e2 : gj = g := by have := hfj.hg; rw [hf.hg] at this; injection this with this; exact this.symm
            subst e2
            have e3 : Ij = I := by rw [hI] at hIj; injection hIj with hIj; exact hIj.symm
            subst e3
            have hagi : Agree (rdOf P ops oj) eni en := fun t' ht' => by
              rcases hEi t' ht' with ⟨_, h2⟩ | ⟨⟨k, ok, q1, q2, _, q4⟩, _⟩
              · exact h2
              · exact absurd (fitB_ok hfb hf.ho k ok t' q1 q2 ht') q4
            obtain ⟨b1, b2⟩ := rdOf_I hI hf.hg hagi
            obtain ⟨v, v1, v2⟩ := key.2 (p1.agree b2)
            refine .inr ⟨v, fun t' ht' => ?_, fun h' hx' nx' κ' => by rw [dI_agree b1]; exact v2 h' hx' nx' κ'⟩
            have e4 : dj = .d t := by have := hfj.hd; rw [hf.hd] at this; injection this with this; rw [← this, h2]
            rw [e4] at ht'; injection ht' with ht'; subst ht'; exact v1
          · refine .inl (List.mem_filter.2 ⟨hs, ?_⟩)
            cases hb : Nat.beq j i with
            | false => rfl
            | true => exact absurd (Nat.eq_of_beq_eq_true hb) hji
        · exact .inr (.inl ⟨c, .inr p2⟩)
        · exact .inr (.inr p2)
    | false =>
      have hchk := hD.chk
      simp only [okL, Bool.and_eq_true] at hchk
      obtain ⟨hfit, hrest⟩ := hchk
      obtain ⟨⟨o, g, d, hf⟩, hia, hdepA⟩ := fitL_ok hfit
      have e : rgK tb (dR (match ops[i]? with | some o => trO P fn.ntmps true ops o (trDr P fn.ntmps ops L) | none => .op .n .n .bad .nil)) en td (.mk f df kd rd) cs h nx κ = true := e
      rw [hf.ho] at e
      simp only [] at e
      rw [trO_eq hf.hg hf.hd] at e
      by_cases hcl : clsAt P ops i < 3
      · obtain ⟨I, hI, hcI⟩ := cls_op (nt := 0) hcl hf.ho rfl
        rw [hI] at e
        have e : rgK tb (dR (.op g d I (trDr P fn.ntmps ops L))) en td (.mk f df kd rd) cs h nx κ = true := e
        rw [rgK_op] at e
        have hlt : clsI I < 3 := by omega
        rcases dG_split e with ⟨hgs, e1⟩ | ⟨hgs, e1⟩
        · have hcls := cls_of hI
          unfold Cls at hcls
          match hcc : clsI I with
          | 0 =>
            rw [hcc] at hcls
            obtain ⟨v, k1, k2⟩ := hcls en h nx _ e1
            rw [k1] at e1
            refine ih θ a h nx w _ enM qs (i :: A) st π D (dr_add hx.hf.nt hD hcl hf (Ext.refl h) (fun x hx => hx) fun en' enM' hv hag => ?_) hx hR hC e1
            exact ⟨I, en, hI, hlt, hag, .inr ⟨hgs, .inl ⟨hcc, v, hv, fun h' nx' κ' => k1 h' nx' κ'⟩⟩⟩
          | 1 =>
            rw [hcc] at hcls
            obtain ⟨v, k1, k2⟩ := hcls en h nx _ e1
            rw [k1 h (Ext.refl h)] at e1
            refine ih θ a h nx w _ enM qs (i :: A) st π D (dr_add hx.hf.nt hD hcl hf (Ext.refl h) (fun x hx => hx) fun en' enM' hv hag => ?_) hx hR hC e1
            exact ⟨I, en, hI, hlt, hag, .inr ⟨hgs, .inr (.inl ⟨hcc, .inr ⟨v, hv, fun h' hx' nx' κ' => k1 h' hx' nx' κ'⟩⟩)⟩⟩
          | 2 =>
            rw [hcc] at hcls
            obtain ⟨a0, v, k0, k1, k2, k3, k4⟩ := hcls en h nx _ e1
            have hxt : Ext h (setO h nx a0) := hR.ext_new k1 a0
            refine ih θ a _ _ w _ enM ((i, nx, a0) :: qs) (i :: A) st π D (dr_add hx.hf.nt hD hcl hf hxt (fun x hx => List.mem_cons_of_mem _ hx) fun en' enM' hv hag => ?_) hx (hR.pended k1 a0) hC k2
            exact ⟨I, en, hI, hlt, hag, .inr ⟨hgs, .inr (.inr ⟨hcc, a0, v, nx, List.mem_cons_self .., hv, fun h' nx' κ' hn' => k3 h' nx' κ' hn'⟩)⟩⟩
          | n + 3 => omega
        · refine ih θ a h nx w _ enM qs (i :: A) st π D (dr_add hx.hf.nt hD hcl hf (Ext.refl h) (fun x hx => hx) fun en' enM' hv hag => ?_) hx hR hC e1
          exact ⟨I, en, hI, hlt, hag, .inl ⟨hgs, hv⟩⟩
      · rw [if_neg hcl] at hrest
        simp only [Bool.and_eq_true] at hrest
        obtain ⟨⟨hst, hall⟩, hok⟩ := hrest
        have hst : st = [] := by cases st with | nil => rfl | cons x y => cases hst
        subst hst
        have hisz : i < ops.size := (Array.getElem?_eq_some_iff.1 hf.ho).1
        have hlater : ∀ j, j < ops.size → j ∉ A → j = i ∨ Waits ops j i := by
          intro j hj hjA
          rcases okL_cover hok j hj with hm | hm
          · rcases List.mem_cons.1 hm with h1 | h1
            · exact .inl h1
            · exact absurd h1 hjA
          · have := List.all_eq_true.1 hall _ hm
            exact .inr (before_waits j i (by simpa using this))
        obtain ⟨π', θ1, qs1, enM1, a1, D1, w1, k1, k2, k3, k4, k5, k6⟩ := dr_catch (b := bF f kd (rd.map θ.blk)) (k := todo) (cs := Fs ++ cs0) hisz hia hdepA hlater hx.hf.nt π θ qs enM a D w hD hR hx.hs
        have hx1 := (hx.mono k1).act k5 k6
        have hC1 := hC.mono k1
        have hag := k4.agree hia hf
        have hact3 : 3 ≤ clsAt P ops i := by omega
        suffices Goal P w0 cs0 f0 κ (lone ((bF f kd (rd.map θ1.blk)).atR a1 (.inRegion ops (i :: π') :: todo)) (Fs ++ cs0) w1) by
          rw [hx.rdm k1] at this
          exact this.of_steps k2
        cases hH : trH P true o.pos o.op with
        | op I =>
          rw [hH] at e
          have e : rgK tb (dR (.op g d I (trDr P fn.ntmps ops L))) en td (.mk f df kd rd) cs h nx κ = true := e
          rw [rgK_op] at e
          obtain ⟨a1', a2'⟩ := rdOf_I hH hf.hg hag
          rw [dG_agree a2', dI_agree a1'] at e
          rcases gd_ok hf.hg k4.er e with ⟨_, e1, hw⟩ | ⟨_, e1, hw⟩
          · obtain ⟨v, u, θ2, h2, nx2, w2, n, m1, m2, m3, m4, m5, m6⟩ := (cls_of hH).op enM1 h nx _ w0 _ θ1 a1 w1 k4.er k3 e1
            obtain ⟨st', hD2⟩ := dr_act k4 hact3 hf hx1.hs hx.hf.nt m1 h2 m2
            have := ih θ2 (a1.put o.dst u) h2 nx2 w2 _ _ qs1 _ st' π' _ hD2 ((hx1.mono m1).act put_size put_defers) m3 (hC1.mono m1) m4
            rw [hx1.rdm m1] at this
            exact this.of_steps (step_value hf.ho hw m5 m6)
          · obtain ⟨st', hD2⟩ := dr_act k4 hact3 hf hx1.hs hx.hf.nt (.refl θ1) h (vr_undef θ1)
            exact (ih θ1 (a1.put o.dst Go.undef) h nx w1 _ _ qs1 _ st' π' _ hD2 (hx1.act put_size put_defers) k3 hC1 e1).of_steps (step_unwanted hf.ho hw)
        | _ =>
          have hagr : Agree (rdH (trH P true o.pos o.op) ++ rdG (some g)) en enM1 := by
            have := hag
            unfold rdOf at this
            rw [hf.hg] at this
            exact this
          refine act_ok (q := qs1.map (·.2)) (d := d) (r := trDr P fn.ntmps ops L) ht hx1 k3 hC1 k4.er hf.ho hf.hg hf.hd rfl (fun I hI => by rw [hH] at hI; cases hI) hagr e ?_
          intro θ' h' v u df' a' hle hv ha hx'
          obtain ⟨st', hD2⟩ := dr_act k4 hact3 hf hx1.hs hx.hf.nt hle h' hv
          exact .draw hx'.hf hx'.hr hx'.hd hx'.hs hx'.ht (by rw [ha]; exact hD2)
end
end Go.AM
namespace Go.AM
open Go

section
variable {P : Program} {θ θ' : Th} {f : Nat} {fn : Func} {body : Code} {kd : Bool} {rd : Option Nat} {df : List AD} {a a' : Act} {td : List T} {todo : List Item}
variable {w0 w : World} {cs0 : List Frame} {f0 : F0} {κ : ASt → R} {tb : Tb} {h : H} {nx : Nat} {cs : List AFr} {Fs : List Frame} {q pd : List (Nat × AO)} {en : Env}
variable {b : Frame} {k : List Item} {csM : List Frame}
/-! ### The model's steps that the kit lacks -/
theorem stepR_inScope {c : Code} : step P (lone (b.atR a (.inScope c :: k)) csM w) = .next (lone (b.atR a k) csM w) :=
  step_lone_go (by simp [stepG, stepG.exec, Frame.atR])
theorem stepR_scope {c : Code} : step P (lone (b.atR a (.code (.scope c) :: k)) csM w) = .next (lone (b.atR a (.code c :: .inScope c :: k)) csM w) :=
  step_lone_go (by simp [stepG, stepG.exec, Frame.atR])
theorem stepR_rangeFunc_to {g : Operand} {ps : Array Tmp} {assign body : Code} {l : Nat} {mark : List Deferred} {w₁ : World} {d : Deferred} {n : Next}
    (he : (Instr.enterLoop b.fn a.tmps ps assign body b.roundOf).run P w = .ok (l, mark) w₁)
    (hres : (Deferred.ofValue (a.eval g) #[.func (.yield l) #[] #[]]).run P w₁ = .ok d w₁) (hinv : (invoke d.target d.args).run P w₁ = .ok n w₁) :
    (∀ f args, n = .enter f args → step P (lone (b.atR a (.code (.rangeFunc g ps assign body) :: k)) csM w) = .next (lone (Frame.enter P f args .normal) (b.atR { a with defers := mark ++ a.defers } (.inRangeFunc l :: k) :: csM) w₁)) ∧
    (∀ l2 f tmps x y, n = .round l2 f tmps x y → step P (lone (b.atR a (.code (.rangeFunc g ps assign body) :: k)) csM w) = .next (lone (Frame.round l2 f tmps x y .normal) (b.atR { a with defers := mark ++ a.defers } (.inRangeFunc l :: k) :: csM) w₁)) := by
  have hev := Frame.eval_atR b { a with defers := mark ++ a.defers } (.inRangeFunc l :: k)
  simp only [Frame.atR] at hev
  have hres' : Sem.run P (resolve ({ tmps := a.tmps, defers := mark ++ a.defers } : Act).eval { callee := .value g, args := #[.const (.func (.yield l) #[] #[])], argTypes := #[] } 0) w₁ = .ok d w₁ := by
    have hev2 : ({ tmps := a.tmps, defers := mark ++ a.defers } : Act).eval g = a.eval g := by cases g <;> rfl
    have hev3 : (#[.const (.func (.yield l) #[] #[])] : Array Operand).map ({ tmps := a.tmps, defers := mark ++ a.defers } : Act).eval = #[.func (.yield l) #[] #[]] := by simp [Act.eval]
    simp only [resolve, hev2, hev3]
    exact hres
  constructor
  · rintro f args rfl
    exact step_lone_go (by simp [stepG, stepG.exec, Frame.atR, Sem.runT_eq, he, GStep.bare_after, stepG.apply, hev, Sem.run_bind, hres', hinv, Result.andThen])
  · rintro l2 f tmps x y rfl
    exact step_lone_go (by simp [stepG, stepG.exec, Frame.atR, Sem.runT_eq, he, GStep.bare_after, stepG.apply, hev, Sem.run_bind, hres', hinv, Result.andThen])
theorem run_enterLoop_inner {l : Nat} {r : Loop} (hl : w.heap[l]? = some (.loop r)) (fn : FuncId) (tmps : Array Value) (ps : Array Tmp) (assign body : Code) :
    (Instr.enterLoop fn tmps ps assign body (some l)).run P w = .ok (w.heap.size, []) (w.alloc (.loop { state := .ready, pending := none, fn, tmps, params := ps, assign, body, defers := r.defers })) := by
  unfold Instr.enterLoop
  simp only [Sem.run_bind, run_getLoop hl, run_newObj_alloc, Result.andThen, Sem.run_pure]
theorem step_collected {fr : Frame} {bk : Nat} {ags : Array Value} {ds calls : List Deferred} {w' : World} (hm : fr.mode = .returning) (hd : fr.defers = { target := .collected bk, args := ags } :: ds) (hr : (Instr.takeDeferred bk).run P w = .ok calls w') :
    step P (lone fr csM w) = .next (lone { fr with defers := calls ++ ds } csM w') :=
  step_lone_go (by simp [stepG, unwind, hm, hd, Sem.runT_eq, hr, GStep.bare_after])

/-! ### A loop's record -/
theorem lp_upd (hR : HR P w0 pd θ h nx w) {o : Nat} (ho : θ.has o) {st : LoopState} {j : J} {fnn li : Nat} {en' : Env} {ds : Nat} (hb : obj h o = some (.lp st j fnn li en' ds)) :
    ∃ r : Loop, w.heap[θ.blk o]? = some (.loop r) ∧ r.state = st ∧ r.pending = jCode j ∧ ∀ st' j', HR P w0 pd θ (setO h o (.lp st' j' fnn li en' ds)) nx (w.putObj (θ.blk o) (.loop { r with state := st', pending := jCode j' })) := by
  obtain ⟨fu, code, ps, x, y, tmps, h1, h2, h3, h4, h5, h6, h7, h8⟩ := hR.obj_ ho hb
  refine ⟨_, h5, rfl, rfl, fun st' j' => ?_⟩
  exact map_upd hR ho hb rfl rfl rfl h5 ⟨fu, code, ps, x, y, tmps, h1, h2, h3, h4, heap_set h5, h6, h7, h8⟩
/-- the end of a round -/
theorem endK_ok {o : Nat} {j : J} (e : endK o j false cs h nx κ = true) (hR : HR P w0 pd θ h nx w) (ho : θ.has o) (hC : CsR P θ f0 f false cs Fs pd) {m : Machine}
    (hs : ∀ c rest v w', (Instr.endRound (θ.blk o) (jCode j)).run P w = .ok v w' → Fs ++ cs0 = c :: rest → Steps P m (lone (c.finish v) rest w')) : Goal P w0 cs0 f0 κ m := by
  obtain ⟨ao, g1, g2⟩ := get_true e
  cases ao <;> first | (cases g2; done) | skip
  rename_i st j0 fnn li en' ds
  obtain ⟨r, h1, h2, h3, h4⟩ := lp_upd hR ho g1
  have hrun := run_endRound (P := P) (jCode j) h1
  have go : ∀ (st' : LoopState) (v : AV) (u : Value), VR θ v u → (Instr.endRound (θ.blk o) (jCode j)).run P w = .ok u (w.putObj (θ.blk o) (.loop { r with state := st', pending := jCode j })) →
      backR false v cs (setO h o (.lp st' j fnn li en' ds)) nx κ = true → Goal P w0 cs0 f0 κ m := by
    intro st' v u hv hr e'
    cases cs with
    | nil => cases e'
    | cons c cs =>
      have e' : backK false v (c :: cs) (setO h o (.lp st' j fnn li en' ds)) nx κ = true := e'
      refine back_ok e' (h4 st' j) hv hC (fun _ c' rest => ?_) (fun h => absurd h (by simp)) (fun hn => ?_)
      · by_cases hF : Fs = c' :: rest
        · exact .inl (hs c' (rest ++ cs0) u _ hr (by rw [hF]; rfl))
        · exact .inr hF
      · obtain ⟨en, td, fr⟩ := c
        obtain ⟨F, Fs', q, pd', rfl, _⟩ := hC
        cases hn
  cases j with
  | no =>
    have g2 : put o (.lp .ready .no fnn li en' ds) h (fun h => backR false (.b true) cs h nx κ) = true := g2
    rw [put_eq] at g2
    exact go .ready (.b true) (.bool true) ⟨trivial, rfl⟩ hrun g2
  | ret =>
    have g2 : put o (.lp .done .ret fnn li en' ds) h (fun h => backR false (.b false) cs h nx κ) = true := g2
    rw [put_eq] at g2
    exact go .done (.b false) (.bool false) ⟨trivial, rfl⟩ hrun g2
  | exit id =>
    have g2 : put o (.lp .done (.exit id) fnn li en' ds) h (fun h => backR false (.b false) cs h nx κ) = true := g2
    rw [put_eq] at g2
    exact go .done (.b false) (.bool false) ⟨trivial, rfl⟩ hrun g2
/-- a body left -/
theorem leave_ok {j : J} (e : leaveK j en td (.mk f df kd rd) cs h nx κ = true) (hx : Fx P θ f fn body kd rd df a td todo) (hE : ER θ en a.tmps) (hR : HR P w0 pd θ h nx w) (hC : CsR P θ f0 f kd cs Fs pd) {k : List Item}
    (h1 : rd = none → Steps P (lone ((bF f kd (rd.map θ.blk)).atR a k) (Fs ++ cs0) w) (lone { (bF f kd (rd.map θ.blk)).atR a k with mode := .returning } (Fs ++ cs0) w))
    (h2 : ∀ o, rd = some o → ∀ c rest v w', (Instr.endRound (θ.blk o) (jCode j)).run P w = .ok v w' → Fs ++ cs0 = c :: rest → Steps P (lone ((bF f kd (rd.map θ.blk)).atR a k) (c :: rest) w) (lone (c.finish v) rest w')) :
    Goal P w0 cs0 f0 κ (lone ((bF f kd (rd.map θ.blk)).atR a k) (Fs ++ cs0) w) := by
  cases rd with
  | none =>
    have e : κ (.mk en [.rt] (.mk f df kd none) cs h nx) = true := e
    exact ⟨_, _, h1 rfl, .mk (q := []) hR (.ret hx.hf hx.hd hE) hC, e⟩
  | some o =>
    obtain ⟨ho, hk⟩ := hx.hr o rfl
    subst hk
    have e : endK o j false cs h nx κ = true := e
    refine endK_ok e hR ho hC (fun c rest v w' hr hF => ?_)
    rw [hF]
    exact h2 o rfl c rest v w' hr hF
/-- a call's end, and what was put off before -/
theorem ret_ok (ht : TbOk tb P) (e : retK tb en [] (.mk f df kd none) cs h nx κ = true) (hf : FnC P f fn body) (hd : DsR θ df a.defers) (hE : ER θ en a.tmps) (hR : HR P w0 pd θ h nx w) (hC : CsR P θ f0 f kd cs Fs pd) {todo : List Item} :
    Goal P w0 cs0 f0 κ (lone { (bF f kd none).atR a todo with mode := .returning } (Fs ++ cs0) w) := by
  cases df with
  | nil =>
    have e : fnOf tb f (fun _ rs => rs en h fun v => backK kd v cs h nx κ) = true := e
    obtain ⟨c0, c, rs, h1, _, e1⟩ := ht.fn e
    obtain ⟨fn', body', hf', hu⟩ := trF_some h1
    injection hu with hu1 hu2
    subst hu2
    obtain ⟨v, u, e2, hv, hrun⟩ := res_ok hR hf' hE e1
    have hd : a.defers = [] := hd
    have hkind : ∀ {kd : Bool}, ({ (bF f kd none).atR a todo with mode := FrameMode.returning } : Frame).kind = if kd then .deferred else .normal := rfl
    refine back_ok e2 hR hv hC (fun hk c' rest => ?_) (fun hk c' rest hm => ?_) (fun hn => ?_)
    · subst hk
      by_cases hF : Fs = c' :: rest
      · refine .inl ?_
        rw [hF]
        exact .one (step_leave_returned ⟨rfl, hd, rfl, fn', hf'.hfn, hrun⟩)
      · exact .inr hF
    · subst hk
      by_cases hF : Fs = c' :: rest
      · refine .inl ?_
        rw [hF]
        have hst : step P (lone { (bF f true none).atR a todo with mode := .returning } (c' :: (rest ++ cs0)) w) = .next (lone { c' with mode := settle c'.mode } (rest ++ cs0) w) :=
          step_going_returned rfl ⟨rfl, hd, fn', hf'.hfn, hrun⟩
        have hc : ({ c' with mode := settle c'.mode } : Frame) = c' := by
          obtain ⟨x1, x2, x3, x4, x5, x6, x7⟩ := c'
          have hm : x5 = .returning := hm
          subst hm
          rfl
        rw [hc] at hst
        exact .one hst
      · exact .inr hF
    · subst hn
      cases cs with
      | nil =>
        obtain ⟨hf0, hk, _, hp, hle0⟩ := hC
        subst hk hp
        exact .fin hR hv ⟨rfl, hd, rfl, fn', hf'.hfn, hrun⟩ hf0 hle0
      | cons c cs =>
        obtain ⟨en, td, fr⟩ := c
        obtain ⟨F, Fs', q, pd', hF, _⟩ := hC
        cases hF
  | cons d df =>
    cases d with
    | fn f2 vs =>
      obtain ⟨d, cap, ds', h1, h2, h3, h4, h5⟩ := hd
      have e : enterK tb f2 vs true (.mk en [.rt] (.mk f df kd none) :: cs) h nx κ = true := e
      have hw : WaitR P θ [] en [.rt] (.mk f df kd none) { (bF f kd none).atR { a with defers := ds' } todo with mode := .returning } true :=
        ⟨rfl, fun θ' h' hle => .ret hf (h5.mono hle) (hE.mono hle)⟩
      obtain ⟨fn', body', hf', hg⟩ := enter_ok ht e h4 hR (Fs := { (bF f kd none).atR { a with defers := ds' } todo with mode := .returning } :: Fs) ⟨_, _, [], pd, rfl, rfl, hw, hC⟩
      refine hg.of_steps (.one ?_)
      refine step_defer (fr := { (bF f kd none).atR a todo with mode := .returning }) (by simp) h1 h2 ?_
      rw [h2]
      show (callFunc f2 (d.args ++ cap)).run P w = _
      rw [h3]
      exact run_callFunc hf' _
    | col o =>
      obtain ⟨ds', h1, h2, h3⟩ := hd
      obtain ⟨ao, g1, g2⟩ := get_true (show get o h (fun x => (match x with
        | .df true => put o (.df false) h fun h => κ (.mk en [.rt] (.mk f df kd none) cs h nx)
        | _ => false)) = true from e)
      cases ao <;> first | (cases g2; done) | skip
      rename_i c
      cases c <;> first | (cases g2; done) | skip
      have g2 : put o (.df false) h (fun h => κ (.mk en [.rt] (.mk f df kd none) cs h nx)) = true := g2
      rw [put_eq] at g2
      have hob : w.heap[θ.blk o]? = some (.deferred (some [])) := hR.obj_ h2 g1
      have hR' := map_upd (ob := .deferred none) hR h2 g1 (a' := .df false) rfl rfl rfl hob (heap_set hob)
      refine ⟨_, _, .one (step_collected (fr := { (bF f kd none).atR a todo with mode := .returning }) rfl h1 (run_takeDeferred hob)), .mk (q := []) hR' (FR.ret (a := { a with defers := ds' }) hf h3 hE) hC, g2⟩
end
end Go.AM
namespace Go.AM
open Go

section
variable {P : Program} {θ θ' : Th} {f : Nat} {fn : Func} {body : Code} {kd : Bool} {rd : Option Nat} {df : List AD} {a a' : Act} {td : List T} {todo : List Item}
variable {w0 w : World} {cs0 : List Frame} {f0 : F0} {κ : ASt → R} {tb : Tb} {h : H} {nx : Nat} {cs : List AFr} {Fs : List Frame} {q pd : List (Nat × AO)} {en : Env}
/-! ### Ranges over functions -/
theorem rf_ok (ht : TbOk tb P) {g : Operand} {x : X} {li : Nat} {ps : Array Nat} {ca cb : Code} (hg : trX g = some x) (e : rfK tb (dX x) li en td (.mk f df kd rd) cs h nx κ = true) (hx : Fx P θ f fn body kd rd df a td todo) (hS : Sub f body li (.rangeFunc g ps ca cb))
    (hE : ER θ en a.tmps) (hR : HR P w0 pd θ h nx w) (hC : CsR P θ f0 f kd cs Fs pd) : Goal P w0 cs0 f0 κ (lone ((bF f kd (rd.map θ.blk)).atR a (.code (.rangeFunc g ps ca cb) :: todo)) (Fs ++ cs0) w) := by
  have hmem : (li, ps, ca, cb) ∈ rfs (liOf f) body := hS _ (by simp [rfs])
  -- the rest, once the record lies there
  have rest : ∀ {θ2 : Th} {h2 : H} {nx2 l : Nat} {w2 : World} {df2 : List AD} {mark : List Deferred} {v : AV}, θ.le θ2 → VR θ v (a.eval g) → HR P w0 pd θ2 h2 nx2 w2 → θ2.has l → DsR θ2 df2 (mark ++ a.defers) →
      (Instr.enterLoop f a.tmps ps ca cb (rd.map θ.blk)).run P w = .ok (θ2.blk l, mark) w2 → callvK tb v [.yl l] (.mk en (.irf l :: td) (.mk f df2 kd rd) :: cs) h2 nx2 κ = true →
      Goal P w0 cs0 f0 κ (lone ((bF f kd (rd.map θ.blk)).atR a (.code (.rangeFunc g ps ca cb) :: todo)) (Fs ++ cs0) w) := by
    intro θ2 h2 nx2 l w2 df2 mark v hle hv hR2 hl hd2 hrun e2
    have hx2 : Fx P θ2 f fn body kd rd df2 { a with defers := mark ++ a.defers } td todo := ⟨hx.hf, (hx.mono hle).hr, hd2, hx.hs, hx.ht.mono hle⟩
    have hw : WaitR P θ2 [] en (.irf l :: td) (.mk f df2 kd rd) ((bF f kd (rd.map θ.blk)).atR { a with defers := mark ++ a.defers } (.inRangeFunc (θ2.blk l) :: todo)) false := by
      intro θ' h' v u hle' hv
      show FR P θ' h' [] en (.erf l :: td) (.mk f df2 kd rd) _
      rw [finish_atR_inRangeFunc]
      have h3 := (((hx2.mono hle').more (t := .erf l) (i := .endRangeFunc (θ'.blk l)) (.erf (hle'.has l hl)))).run h' ((hE.mono hle).mono hle')
      rw [hx2.rdm hle', hx.rdm hle, hle'.blk l hl] at h3
      exact h3
    obtain ⟨d, n, k1, k2, k3⟩ := callv_ok ht e2 (hv.mono hle) (vs := [.yl l]) ⟨hl, trivial⟩ hR2 (fun _ => ⟨_, Fs, [], pd, rfl, rfl, hw, hC.mono hle⟩)
    have k1 : (Deferred.ofValue (a.eval g) #[.func (.yield (θ2.blk l)) #[] #[]]).run P w2 = .ok d w2 := k1
    obtain ⟨s1, s2⟩ := stepR_rangeFunc_to (b := bF f kd (rd.map θ.blk)) (k := todo) (csM := Fs ++ cs0) (g := g) hrun k1 k2
    rcases k3 with ⟨g2, args, hn, hgo⟩ | ⟨l2, g2, tmps, x2, y2, hn, hgo⟩
    · exact hgo.of_steps (.one (s1 _ _ hn))
    · exact hgo.of_steps (.one (s2 _ _ _ _ _ hn))
  have hsize := hR.size
  cases rd with
  | none =>
    have e : dX x en (fun v => newK (.df true) h nx fun r h nx => newK (.lp .ready .no f li en r) h nx fun l h nx => callvK tb v [.yl l] (.mk en (.irf l :: td) (.mk f (.col r :: df) kd none) :: cs) h nx κ) = true := e
    obtain ⟨v, e1, hv⟩ := arg_ok hg e hE
    obtain ⟨n1, e2⟩ := newK_true e1
    obtain ⟨n2, e3⟩ := newK_true e2
    obtain ⟨hR1, hl1⟩ := hR.new (w' := w.alloc (.deferred (some []))) (ob := .deferred (some [])) rfl ⟨rfl, rfl, rfl⟩ n1 (a := .df true) (bs := 0) (sz := 0) (es := 0) (by show _ = _; rw [Th.put_blk]; exact World.alloc_heap_new w _) (fun x hx => by cases hx)
    have hr1 : (θ.put nx w.heap.size 0 0 0).has nx := Th.put_has ..
    obtain ⟨hR2, hl2⟩ := hR1.new (w' := (w.alloc (.deferred (some []))).alloc (.loop { state := .ready, pending := none, fn := f, tmps := a.tmps, params := ps, assign := ca, body := cb, defers := w.heap.size })) rfl ⟨rfl, rfl, rfl⟩ n2
      (a := .lp .ready .no f li en nx) (bs := 0) (sz := 0) (es := 0) ⟨fn, body, ps, ca, cb, a.tmps, hx.hf.hfn, hx.hf.hbody, hx.hf.nrf, hmem, by
        rw [Th.put_blk, (Th.le_put (θ := θ.put nx w.heap.size 0 0 0) (fun hh => Nat.lt_irrefl _ (hR1.own _ hh).1) _ 0 0 0).blk nx hr1, Th.put_blk]
        exact World.alloc_heap_new _ _, (hE.mono hl1).mono (Th.le_put (fun hh => Nat.lt_irrefl _ (hR1.own _ hh).1) _ 0 0 0), hx.hs, .inr hr1⟩ (fun x hx => by cases hx)
    refine rest (hl1.trans hl2) hv hR2 (Th.put_has ..) (mark := [{ target := .collected w.heap.size, args := #[] }]) ?_ ?_ e3
    · refine ⟨a.defers, ?_, hl2.has nx hr1, hx.hd.mono (hl1.trans hl2)⟩
      rw [hl2.blk nx hr1, Th.put_blk]; rfl
    · have := run_enterLoop_outer (P := P) (w := w) f a.tmps ps ca cb
      rw [Th.put_blk]
      simp only [World.size_alloc]
      exact this
  | some l0 =>
    obtain ⟨hl0, hk⟩ := hx.hr l0 rfl
    have e : dX x en (fun v => get l0 h (asLp fun _ _ _ _ _ ds => newK (.lp .ready .no f li en ds) h nx fun l h nx => callvK tb v [.yl l] (.mk en (.irf l :: td) (.mk f df kd (some l0)) :: cs) h nx κ)) = true := e
    obtain ⟨v, e1, hv⟩ := arg_ok hg e hE
    obtain ⟨ao, g1, g2⟩ := get_true e1
    cases ao <;> first | (cases g2; done) | skip
    rename_i st j0 fnn li0 en' ds
    have g2 : newK (.lp .ready .no f li en ds) h nx (fun l h nx => callvK tb v [.yl l] (.mk en (.irf l :: td) (.mk f df kd (some l0)) :: cs) h nx κ) = true := g2
    obtain ⟨n1, e2⟩ := newK_true g2
    obtain ⟨fu, code, ps', x', y', tmps, h1, h2, h3, h4, h5, h6, h7, h8⟩ := hR.obj_ hl0 g1
    have hnx : ¬ θ.has nx := fun hh => Nat.lt_irrefl _ (hR.own _ hh).1
    obtain ⟨hR1, hl1⟩ := hR.new (w' := w.alloc (.loop { state := .ready, pending := none, fn := f, tmps := a.tmps, params := ps, assign := ca, body := cb, defers := θ.blk ds })) rfl ⟨rfl, rfl, rfl⟩ n1
      (a := .lp .ready .no f li en ds) (bs := 0) (sz := 0) (es := 0) ⟨fn, body, ps, ca, cb, a.tmps, hx.hf.hfn, hx.hf.hbody, hx.hf.nrf, hmem, by
        rw [Th.put_blk, (Th.le_put hnx _ 0 0 0).blk ds h8]
        exact World.alloc_heap_new _ _, hE.mono (Th.le_put hnx _ 0 0 0), hx.hs, .inr h8⟩ (fun x hx => by cases hx)
    refine rest hl1 hv hR1 (Th.put_has ..) (mark := []) (hx.hd.mono hl1) ?_ e2
    rw [Th.put_blk]
    exact run_enterLoop_inner h5 ..
theorem erf_ok {o : Nat} (e : erfK o en td (.mk f df kd rd) cs h nx κ = true) (hx : Fx P θ f fn body kd rd df a td todo) (ho : θ.has o) (hE : ER θ en a.tmps) (hR : HR P w0 pd θ h nx w) (hC : CsR P θ f0 f kd cs Fs pd) :
    Goal P w0 cs0 f0 κ (lone ((bF f kd (rd.map θ.blk)).atR a (.endRangeFunc (θ.blk o) :: todo)) (Fs ++ cs0) w) := by
  obtain ⟨ao, g1, g2⟩ := get_true e
  cases ao <;> first | (cases g2; done) | skip
  rename_i st j fnn li en' ds
  obtain ⟨r, h1, h2, h3, h4⟩ := lp_upd hR ho g1
  have g3 : st ≠ .busy ∧ put o (.lp .exhausted j fnn li en' ds) h (fun h => κ (.mk en (match j with | .no => td | .ret => .c .ret :: td | .exit id => .c (.exit id) :: td) (.mk f df kd rd) cs h nx)) = true := by
    cases st <;> first | (cases g2; done) | skip
    all_goals (refine ⟨by simp, ?_⟩; cases j <;> exact g2)
  obtain ⟨hb, g4⟩ := g3
  rw [put_eq] at g4
  have hrun := run_endLoop (P := P) h1 (by rw [h2]; exact hb)
  rw [h3] at hrun
  refine Goal.of_steps (.one (stepR_endRangeFunc hrun)) (Fx.goal (cs0 := cs0) (hx.tdm ?_) hE ?_ hC g4)
  · cases j with
    | no => exact hx.ht
    | ret => exact .cons (.code (k := 0) (c := .ret) (fun e he => by simp [rfs] at he) (.refl _)) hx.ht
    | exit id => exact .cons (.code (k := 0) (c := .exit id) (fun e he => by simp [rfs] at he) (.refl _)) hx.ht
  · exact h4 .exhausted j
theorem br_ok (e : brK en td (.mk f df kd rd) cs h nx κ = true) (hx : Fx P θ f fn body kd rd df a td todo) (hE : ER θ en a.tmps) (hR : HR P w0 pd θ h nx w) (hC : CsR P θ f0 f kd cs Fs pd) :
    Goal P w0 cs0 f0 κ (lone ((bF f kd (rd.map θ.blk)).atR a (.beginRound :: todo)) (Fs ++ cs0) w) := by
  cases rd with
  | none => cases e
  | some o =>
    obtain ⟨ho, _⟩ := hx.hr o rfl
    obtain ⟨ao, g1, g2⟩ := get_true (show get o h (asLp fun st j fn li en' ds => match st with
      | .ready => put o (.lp .busy j fn li en' ds) h fun h => κ (.mk en td (.mk f df kd (some o)) cs h nx)
      | _ => false) = true from e)
    cases ao <;> first | (cases g2; done) | skip
    rename_i st j fnn li en' ds
    cases st <;> first | (cases g2; done) | skip
    have g2 : put o (.lp .busy j fnn li en' ds) h (fun h => κ (.mk en td (.mk f df kd (some o)) cs h nx)) = true := g2
    rw [put_eq] at g2
    obtain ⟨r, h1, h2, h3, h4⟩ := lp_upd hR ho g1
    have h5 := h4 .busy j
    rw [← h3] at h5
    exact (hx.goal hE h5 hC g2).of_steps (.one (stepR_beginRound (b := bF f kd ((some o).map θ.blk)) rfl (run_beginRound h1 h2)))
theorem exitTo_ok {id : Nat} : ∀ {td : List T} {todo : List Item}, TdR P θ f fn.ntmps body td todo → (∀ k, exitTo' id td = some k → ∃ k', exitTo id todo = some k' ∧ TdR P θ f fn.ntmps body k k') ∧ (exitTo' id td = none → exitTo id todo = none) := by
  intro td todo h
  induction h with
  | nil => exact ⟨(fun k hk => by cases hk), fun _ => rfl⟩
  | @cons t i td todo h r ih =>
    cases h with
    | blk id' =>
      have e1 : exitTo' id (T.blk id' :: td) = @Bool.rec (fun _ => Option (List T)) (exitTo' id td) (some td) (Nat.beq id' id) := rfl
      have e2 : exitTo id (Item.inBlock id' :: todo) = if id' == id then some todo else exitTo id todo := rfl
      rw [e1, e2]
      cases hb : Nat.beq id' id with
      | true =>
        have : (id' == id) = true := beq_iff_eq.2 (Nat.eq_of_beq_eq_true hb)
        rw [this]
        exact ⟨(fun k hk => ⟨todo, rfl, by injection hk with hk; subst hk; exact r⟩), (fun hk => by cases hk)⟩
      | false =>
        have : (id' == id) = false := beq_eq_false_iff_ne.2 (fun e => by rw [e, Nat.beq_refl] at hb; cases hb)
        rw [this]
        exact ih
    | _ => exact ih
/-! ### Code -/
theorem range_get (ops : Array Oper) : (List.range ops.size).filterMap (ops[·]?) = ops.toList := by
  have : ∀ (l : List Oper) (p : List Oper), (List.range' p.length l.length).filterMap ((p ++ l)[·]?) = l := by
    intro l
    induction l with
    | nil => intro p; rfl
    | cons o l ih =>
      intro p
      rw [List.length_cons, List.range'_succ, List.filterMap_cons]
      have e1 : (p ++ o :: l)[p.length]? = some o := by simp
      rw [e1]
      have e2 := ih (p ++ [o])
      simp only [List.length_append, List.length_singleton, List.append_assoc, List.singleton_append] at e2
      rw [e2]
  have h := this ops.toList []
  simp only [List.length_nil, List.nil_append, Array.length_toList] at h
  rw [List.range_eq_range']
  simpa using h
def Tb.lv : Tb → Bool
  | .mk _ _ lv => lv
def Tb.lo : Tb → Tb
  | .mk f l _ => .mk f l false
theorem TbOk.low (ht : TbOk tb P) : TbOk tb.lo P := by
  obtain ⟨f, l, lv⟩ := tb
  exact ⟨fun e => ht.fn e, fun e => ht.lp e, fun e => ht.en e⟩
/-- what the machine without pieces done at once shows -/
def LoOk (P : Program) (w0 : World) (cs0 : List Frame) (f0 : F0) (tb : Tb) : Prop := tb.lv = true → ∀ (n : Nat) (s : ASt) (m : Machine) (κ : ASt → R), StR P w0 cs0 f0 s m → run tb.lo n s κ = true → Goal P w0 cs0 f0 κ m
/-- a piece done at once, or its code -/
theorem spl_case (hlo : LoOk P w0 cs0 f0 tb) {c : Code} {k : Nat} {td : List T} {todo : List Item} {a : Act} {en : Env} {w : World} {C' : C} (hS : Sub f body k c) (hx : Fx P θ f fn body kd rd df a td todo) (hE : ER θ en a.tmps) (hR : HR P w0 pd θ h nx w) (hC : CsR P θ f0 f kd cs Fs pd)
    (hcr : CR C' (dC (trC P fn.ntmps k c))) (e : codeK tb C' en td (.mk f df kd rd) cs h nx κ = true) :
    (∃ C2, CRs C2 (dC (trC P fn.ntmps k c)) ∧ codeK tb C2 en td (.mk f df kd rd) cs h nx κ = true) ∨ Goal P w0 cs0 f0 κ (lone ((bF f kd (rd.map θ.blk)).atR a (.code c :: todo)) (Fs ++ cs0) w) := by
  rcases hcr.inv with ⟨s, rfl, hs⟩ | rfl | hc
  · have e : splK tb s (codeK tb (dC (trC P fn.ntmps k c))) en td (.mk f df kd rd) cs h nx κ = true := e
    obtain ⟨F, Lp, lv⟩ := tb
    cases lv with
    | false => exact .inl ⟨_, .refl _, e⟩
    | true =>
      obtain ⟨n, hn⟩ := hs F Lp en td (.mk f df kd rd) cs h nx κ e
      exact .inr (hlo rfl n _ _ κ (.mk (q := []) hR ((hx.more (.code hS (.refl _))).run h hE) hC) hn)
  · have e : false = true := e
    cases e
  · exact .inl ⟨_, hc, e⟩
theorem code_ok (ht : TbOk tb P) (hm : P.follows .mixedOrders = true) (hlo : LoOk P w0 cs0 f0 tb) : ∀ (c : Code) (k : Nat) (td : List T) (todo : List Item) (a : Act) (en : Env) (w : World) (C' : C), Sub f body k c → Fx P θ f fn body kd rd df a td todo → ER θ en a.tmps → HR P w0 pd θ h nx w → CsR P θ f0 f kd cs Fs pd →
    CR C' (dC (trC P fn.ntmps k c)) → codeK tb C' en td (.mk f df kd rd) cs h nx κ = true → Goal P w0 cs0 f0 κ (lone ((bF f kd (rd.map θ.blk)).atR a (.code c :: todo)) (Fs ++ cs0) w) := by
  intro c
  induction c with
  | skip =>
    intro k td todo a en w C' hS hx hE hR hC hcr e
    rcases spl_case hlo hS hx hE hR hC hcr e with ⟨C2, hc, e⟩ | hg
    rotate_left; exact hg
    have hc : C2 = dC (trC P fn.ntmps k .skip) := hc
    subst hc
    exact (hx.goal hE hR hC e).of_steps (.one stepR_skip)
  | label l =>
    intro k td todo a en w C' hS hx hE hR hC hcr e
    rcases spl_case hlo hS hx hE hR hC hcr e with ⟨C2, hc, e⟩ | hg
    rotate_left; exact hg
    have hc : C2 = dC (trC P fn.ntmps k (.label l)) := hc
    subst hc
    exact (hx.goal hE hR hC e).of_steps (.one stepR_label)
  | goto l =>
    intro k td todo a en w C' hS hx hE hR hC hcr e
    rcases spl_case hlo hS hx hE hR hC hcr e with ⟨C2, hc, e⟩ | hg
    rotate_left; exact hg
    have hc : C2 = C.bad := hc
    subst hc; cases e
  | refuse s =>
    intro k td todo a en w C' hS hx hE hR hC hcr e
    rcases spl_case hlo hS hx hE hR hC hcr e with ⟨C2, hc, e⟩ | hg
    rotate_left; exact hg
    have hc : C2 = C.bad := hc
    subst hc; cases e
  | region id ops draw =>
    intro k td todo a en w C' hS hx hE hR hC hcr e
    rcases spl_case hlo hS hx hE hR hC hcr e with ⟨C2, hc, e⟩ | hg
    rotate_left; exact hg
    have hc : C2 = C.rg (dR (trR P fn.ntmps ops draw)) := hc
    subst hc
    have e : rgK tb (dR (trR P fn.ntmps ops draw)) en td (.mk f df kd rd) cs h nx κ = true := e
    unfold trR at e
    cases draw with
    | false =>
      simp only [Bool.false_eq_true, if_false] at e
      rw [← range_get ops] at e
      exact (reg_plain ht _ θ a h nx w en (fun i hi => List.mem_range.1 hi) hx hR hC hE e).of_steps (.one stepR_region)
    | true =>
      simp only [if_true] at e
      split at e
      · rename_i l hl
        rw [frcL_eq] at e
        split at e
        · rename_i hok
          have hR' : HR P w0 (([] : List (Nat × Nat × AO)).map (·.2) ++ pd) θ h nx { w with drawn := w.drawn + 1 } := hR.same rfl ⟨rfl, rfl, rfl⟩
          refine (reg_draw (qs := []) ht l θ a h nx _ en en [] [] _ (fun _ => False) ⟨hok, lin_schedule hm _, fun i hi => hi.elim, fun i hi => hi.elim, trivial, (fun i hi => by cases hi), hE, fun t _ _ => rfl, (fun i hi => by cases hi)⟩ hx hR' hC e).of_steps (.one stepR_region_draw)
        · rw [rgK_op] at e; cases e
      · rw [rgK_op] at e; cases e
  | seq x y ihx ihy =>
    intro k td todo a en w C' hS hx hE hR hC hcr e
    rcases spl_case hlo hS hx hE hR hC hcr e with ⟨C2, hc, e⟩ | hg
    rotate_left; exact hg
    obtain ⟨c1, c2, rfl, h1, h2⟩ : ∃ a b, C2 = .seq a b ∧ CR a (dC (trC P fn.ntmps k x)) ∧ CR b (dC (trC P fn.ntmps (k + nrf x) y)) := hc
    exact (ihx k _ _ a en w c1 (fun e he => hS e (by simp only [rfs, List.mem_append]; exact .inl he)) (hx.more (.code (k := k + nrf x) (c := y) (fun e he => hS e (by simp only [rfs, List.mem_append]; exact .inr he)) h2)) hE hR hC h1 e).of_steps (.one stepR_seq)
  | cond g x y ihx ihy =>
    intro k td todo a en w C' hS hx hE hR hC hcr e
    rcases spl_case hlo hS hx hE hR hC hcr e with ⟨C2, hc, e⟩ | hg
    rotate_left; exact hg
    have hc : CRs C2 (dC (match trX g with | some z => .cond z (trC P fn.ntmps k x) (trC P fn.ntmps (k + nrf x) y) | none => .bad)) := hc
    split at hc
    · rename_i z hz
      obtain ⟨c1, c2, rfl, h1, h2⟩ : ∃ a b, C2 = .cond (dX z) a b ∧ CR a (dC (trC P fn.ntmps k x)) ∧ CR b (dC (trC P fn.ntmps (k + nrf x) y)) := hc
      have e : dX z en (asBL fun c => br c (codeK tb c1 en td (.mk f df kd rd) cs h nx κ) (codeK tb c2 en td (.mk f df kd rd) cs h nx κ)) = true := e
      obtain ⟨v, e1, hv⟩ := arg_ok hz e hE
      obtain ⟨c, hc, e2⟩ : ∃ c, a.eval g = .bool c ∧ br c (codeK tb c1 en td (.mk f df kd rd) cs h nx κ) (codeK tb c2 en td (.mk f df kd rd) cs h nx κ) = true := by
        by_cases hl : ∃ q N, v = .l q N
        · obtain ⟨q, N, rfl⟩ := hl
          obtain ⟨b1, e2⟩ := br_t e1
          obtain ⟨e3, e4⟩ := br_t e2
          have b1 := Nat.eq_of_beq_eq_true b1
          subst b1
          refine ⟨ln θ.lane N != 0, hv.2, ?_⟩
          cases (ln θ.lane N != 0)
          · exact e3
          · exact e4
        by_cases hl2 : ∃ n q r m, v = .xi n q r m
        · obtain ⟨n, q, r, m, rfl⟩ := hl2
          obtain ⟨b1, e2⟩ := br_t e1
          obtain ⟨e3, e4⟩ := br_t e2
          have b1 := Nat.le_of_ble_eq_true b1
          obtain ⟨_, w', _, _, w3⟩ := xo_num (by omega) hv.1
          have hxo : ∃ c, xoV (θ.ext n) θ.lane q r m = .bool c := by
            unfold xoV
            rw [if_neg (by omega), if_neg (by omega)]
            split <;> exact ⟨_, rfl⟩
          obtain ⟨c, hc⟩ := hxo
          refine ⟨c, by rw [hv.2, w3, hc], ?_⟩
          cases c
          · exact e3
          · exact e4
        · have e1 : asB (fun c => br c (codeK tb c1 en td (.mk f df kd rd) cs h nx κ) (codeK tb c2 en td (.mk f df kd rd) cs h nx κ)) v = true := by
            cases v <;> first | exact e1 | exact absurd ⟨_, _, rfl⟩ hl | exact absurd ⟨_, _, _, _, rfl⟩ hl2
          obtain ⟨c, rfl, e2⟩ := asB_true e1
          exact ⟨c, hv.2, e2⟩
      cases c with
      | true => exact (ihx k td todo a en w c1 (fun e he => hS e (by simp only [rfs, List.mem_append]; exact .inl he)) hx hE hR hC h1 e2).of_steps (.one (stepR_cond hc))
      | false => exact (ihy _ td todo a en w c2 (fun e he => hS e (by simp only [rfs, List.mem_append]; exact .inr he)) hx hE hR hC h2 e2).of_steps (.one (stepR_cond hc))
    · have hc : C2 = C.bad := hc
      subst hc; cases e
  | block id x ih =>
    intro k td todo a en w C' hS hx hE hR hC hcr e
    rcases spl_case hlo hS hx hE hR hC hcr e with ⟨C2, hc, e⟩ | hg
    rotate_left; exact hg
    obtain ⟨c1, rfl, h1⟩ : ∃ a, C2 = .blk id a ∧ CR a (dC (trC P fn.ntmps k x)) := hc
    exact (ih k _ _ a en w c1 hS (hx.more (.blk id)) hE hR hC h1 e).of_steps (.one stepR_block)
  | loop x ih =>
    intro k td todo a en w C' hS hx hE hR hC hcr e
    rcases spl_case hlo hS hx hE hR hC hcr e with ⟨C2, hc, e⟩ | hg
    rotate_left; exact hg
    obtain ⟨c1, rfl, h1⟩ : ∃ a, C2 = .loop a ∧ CR a (dC (trC P fn.ntmps k x)) := hc
    exact (ih k _ _ a en w c1 hS (hx.more (IR.lp (c := x) hS h1)) hE hR hC h1 e).of_steps (.one stepR_loop)
  | scope x ih =>
    intro k td todo a en w C' hS hx hE hR hC hcr e
    rcases spl_case hlo hS hx hE hR hC hcr e with ⟨C2, hc, e⟩ | hg
    rotate_left; exact hg
    obtain ⟨c1, rfl, h1⟩ : ∃ a, C2 = .sc a ∧ CR a (dC (trC P fn.ntmps k x)) := hc
    exact (ih k _ _ a en w c1 hS (hx.more (.sc x)) hE hR hC h1 e).of_steps (.one stepR_scope)
  | rangeFunc g ps x y =>
    intro k td todo a en w C' hS hx hE hR hC hcr e
    rcases spl_case hlo hS hx hE hR hC hcr e with ⟨C2, hc, e⟩ | hg
    rotate_left; exact hg
    have hc : CRs C2 (dC (match trX g with | some z => .rf z k | none => .bad)) := hc
    split at hc
    · rename_i z hz
      have hc : C2 = C.rf (dX z) k := hc
      subst hc
      exact rf_ok ht hz e hx hS hE hR hC
    · have hc : C2 = C.bad := hc
      subst hc; cases e
  | exit id =>
    intro k td todo a en w C' hS hx hE hR hC hcr e
    rcases spl_case hlo hS hx hE hR hC hcr e with ⟨C2, hc, e⟩ | hg
    rotate_left; exact hg
    have hc : C2 = C.exit id := hc
    subst hc
    have e : exitK id en td (.mk f df kd rd) cs h nx κ = true := e
    obtain ⟨x1, x2⟩ := exitTo_ok (id := id) hx.ht
    unfold exitK at e
    cases hex : exitTo' id td with
    | some k2 =>
      rw [hex] at e
      obtain ⟨k', y1, y2⟩ := x1 k2 hex
      exact ((hx.tdm y2).goal hE hR hC e).of_steps (.one (stepR_exit y1))
    | none =>
      rw [hex] at e
      have y1 := x2 hex
      cases rd with
      | none => cases e
      | some o =>
        obtain ⟨ho, hk⟩ := hx.hr o rfl
        subst hk
        have e : endK o (.exit id) false cs h nx κ = true := e
        refine endK_ok e hR ho hC (fun c rest v w' hr hF => ?_)
        rw [hF]
        exact .one (stepR_round_exit (b := bF f false ((some o).map θ.blk)) rfl rfl y1 hr)
  | ret =>
    intro k td todo a en w C' hS hx hE hR hC hcr e
    rcases spl_case hlo hS hx hE hR hC hcr e with ⟨C2, hc, e⟩ | hg
    rotate_left; exact hg
    have hc : C2 = C.ret := hc
    subst hc
    have e : leaveK .ret en td (.mk f df kd rd) cs h nx κ = true := e
    refine leave_ok e hx hE hR hC (fun hr => ?_) (fun o ho c rest v w' hr => fun hF => ?_)
    · subst hr; exact .one (stepR_ret (b := bF f kd ((none : Option Nat).map θ.blk)) rfl)
    · subst ho
      have hk := (hx.hr o rfl).2
      subst hk
      exact .one (stepR_round_ret (b := bF f false ((some o).map θ.blk)) rfl rfl hr)
/-! ### Steps -/
theorem step_ok (ht : TbOk tb P) (hm : P.follows .mixedOrders = true) (hlo : LoOk P w0 cs0 f0 tb) {s : ASt} {m : Machine} (hs : StR P w0 cs0 f0 s m) (e : stepK tb s κ = true) : Goal P w0 cs0 f0 κ m := by
  cases hs with
  | fin hR hv hl hfn => cases e
  | @mk en td fr cs h nx θ q pd F Fs w hR hF hC =>
    have e : todoK tb td en fr cs h nx κ = true := e
    cases hF with
    | @run _ _ f df kd rd a todo fn body hf hr hd hs hE htd =>
      have hR : HR P w0 pd θ h nx w := hR
      cases htd with
      | nil =>
        have e : leaveK .no en [] (.mk f df kd rd) cs h nx κ = true := e
        have hx : Fx P θ f fn body kd rd df a [] [] := ⟨hf, hr, hd, hs, .nil⟩
        refine leave_ok e hx hE hR hC (fun hn => ?_) (fun o ho c rest v w' hrun => fun hF => ?_)
        · subst hn; exact .one (stepR_end (b := bF f kd ((none : Option Nat).map θ.blk)) rfl)
        · subst ho
          have hk := (hx.hr o rfl).2
          subst hk
          exact .one (stepR_round_end (b := bF f false ((some o).map θ.blk)) rfl rfl hrun)
      | @cons t i td todo hi htd =>
        have hx : Fx P θ f fn body kd rd df a td todo := ⟨hf, hr, hd, hs, htd⟩
        cases hi with
        | code hS hcr => exact code_ok ht hm hlo _ _ td todo a en w _ hS hx hE hR hC hcr e
        | reg hi => exact reg_plain ht _ θ a h nx w en hi hx hR hC hE e
        | blk id => exact (hx.goal hE hR hC e).of_steps (.one stepR_inBlock)
        | lp hS hcr => exact (code_ok ht hm hlo _ _ _ _ a en w _ hS (hx.more (IR.lp hS hcr)) hE hR hC hcr e).of_steps (.one stepR_inLoop)
        | sc c => exact (hx.goal hE hR hC e).of_steps (.one stepR_inScope)
        | irf ho => cases e
        | erf ho => exact erf_ok e hx ho hE hR hC
        | br => exact br_ok e hx hE hR hC
    | draw hf hr hd hs htd hD => exact reg_draw ht _ θ _ h nx w en _ _ _ _ _ _ hD ⟨hf, hr, hd, hs, htd⟩ hR hC e
    | ret hf hd hE => exact ret_ok ht e hf hd hE hR hC
theorem run_ok0 (ht : TbOk tb P) (hm : P.follows .mixedOrders = true) (hlo : LoOk P w0 cs0 f0 tb) : ∀ (n : Nat) (s : ASt) (m : Machine), StR P w0 cs0 f0 s m → run tb n s κ = true → Goal P w0 cs0 f0 κ m
  | 0, s, m, hs, e => ⟨s, m, .refl P m, hs, e⟩
  | n + 1, s, m, hs, e => by
    obtain ⟨s', m', h1, h2, h3⟩ := step_ok ht hm hlo (κ := fun s => run tb n s κ) hs e
    exact (run_ok0 ht hm hlo n s' m' h2 h3).of_steps h1
theorem lo_ok (ht : TbOk tb P) (hm : P.follows .mixedOrders = true) : LoOk P w0 cs0 f0 tb := by
  intro _ n s m κ hs e
  exact run_ok0 ht.low hm (by obtain ⟨f, l, lv⟩ := tb; intro h; cases h) n s m hs e
theorem run_ok (ht : TbOk tb P) (hm : P.follows .mixedOrders = true) (n : Nat) (s : ASt) (m : Machine) (hs : StR P w0 cs0 f0 s m) (e : run tb n s κ = true) : Goal P w0 cs0 f0 κ m := run_ok0 ht hm (lo_ok ht hm) n s m hs e
theorem runF_ok (ht : TbOk tb P) (hm : P.follows .mixedOrders = true) {κ : AV → H → Nat → R} : ∀ (n : Nat) (s : ASt) (m : Machine), StR P w0 cs0 f0 s m → runF tb n s κ = true →
    ∃ v h nx m', Steps P m m' ∧ StR P w0 cs0 f0 (.fin v h nx) m' ∧ κ v h nx = true
  | 0, s, m, hs, e => by cases e
  | n + 1, s, m, hs, e => by
    cases s with
    | mk en td fr cs h nx =>
      have e : stepK tb (.mk en td fr cs h nx) (fun s => runF tb n s κ) = true := e
      obtain ⟨s', m', h1, h2, h3⟩ := step_ok ht hm (lo_ok ht hm) hs e
      obtain ⟨v, h, nx, m2, k1, k2, k3⟩ := runF_ok ht hm n s' m' h2 h3
      exact ⟨v, h, nx, m2, h1.trans k1, k2, k3⟩
    | fin v h nx => exact ⟨v, h, nx, m, .refl P m, hs, e⟩
end
end Go.AM
