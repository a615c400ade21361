/-
  AM, 25: regions stepped through, both kinds. Conditions: none.
-/
import Derived.Test.YtmhhaimpignndaaGreatAmX
namespace Go.AM
open Go

section
variable {P : Program} {θ θ' : Th} {f : Nat} {fn : Func} {body : Code} {kd : Bool} {rd : Option Nat} {df : List AD} {a a' : Act} {td : List T} {todo : List Item}
variable {w0 w : World} {cs0 : List Frame} {f0 : F0} {κ : ASt → R} {tb : Tb} {h : H} {nx : Nat} {cs : List AFr} {Fs : List Frame} {q pd : List (Nat × AO)} {en : Env}
variable {ops : Array Oper} {i : Nat} {rest : List Nat} {o : Oper}
theorem trH_call {dr : Bool} {op : Op} {f : Nat} {xs : List X} (h : trH P dr op = .call f xs) : ∃ c, op = .call c ∧ c.callee = .value (.func f) ∧ trXs c.args = some xs := by
  unfold trH at h
  split at h
  · rename_i c
    split at h
    · cases h
    · rename_i g xs' hc hx
      split at h
      · injection h with h1 h2; subst h1 h2; exact ⟨c, rfl, hc, hx⟩
      · cases h
    · split at h <;> cases h
    · split at h <;> cases h
    · cases h
  · split at h
    · split at h <;> cases h
    · split at h <;> cases h
    · cases h
  · cases h
theorem trH_calv {dr : Bool} {op : Op} {x : X} {xs : List X} (h : trH P dr op = .calv x xs) : ∃ c t, op = .call c ∧ c.callee = .value (.tmp t) ∧ t < 512 ∧ x = .t t ∧ trXs c.args = some xs := by
  unfold trH at h
  split at h
  · rename_i c
    split at h
    · cases h
    · split at h <;> cases h
    · rename_i t xs' hc hx
      split at h
      · rename_i ht; injection h with h1 h2; subst h1 h2; exact ⟨c, t, rfl, hc, ht, rfl, hx⟩
      · cases h
    · split at h <;> cases h
    · cases h
  · split at h
    · split at h <;> cases h
    · split at h <;> cases h
    · cases h
  · cases h
theorem trH_inv {dr : Bool} {op : Op} {tbl : List (Nat × Nat)} {x : X} {xs : List X} (h : trH P dr op = .inv tbl x xs) : ∃ c Y name, op = .call c ∧ c.callee = .invoke Y name ∧ trX Y = some x ∧ trXs c.args = some xs ∧ tbl = mtab P name := by
  unfold trH at h
  split at h
  · rename_i c
    split at h
    · cases h
    · split at h <;> cases h
    · split at h <;> cases h
    · rename_i Y name xs' hc hx
      split at h
      · rename_i y hy
        injection h with h1 h2 h3; subst h1 h2 h3; exact ⟨c, Y, name, rfl, hc, hy, hx, rfl⟩
      · cases h
    · cases h
  · split at h
    · split at h <;> cases h
    · split at h <;> cases h
    · cases h
  · cases h
theorem trH_dfr {dr : Bool} {op : Op} {x : X} {xs : List X} (h : trH P dr op = .dfr x xs) : ∃ c, op = .defer c ∧ trXs c.args = some xs ∧ ((∃ f, c.callee = .value (.func f) ∧ x = .c (.fn f [])) ∨ ∃ t, c.callee = .value (.tmp t) ∧ t < 512 ∧ x = .t t) := by
  unfold trH at h
  split at h
  · split at h
    · cases h
    · split at h <;> cases h
    · split at h <;> cases h
    · split at h <;> cases h
    · cases h
  · rename_i c
    split at h
    · rename_i g xs' hc hx
      split at h
      · injection h with h1 h2; subst h1 h2; exact ⟨c, rfl, hx, .inl ⟨g, hc, rfl⟩⟩
      · cases h
    · rename_i t xs' hc hx
      split at h
      · rename_i ht; injection h with h1 h2; subst h1 h2; exact ⟨c, rfl, hx, .inr ⟨t, hc, ht, rfl⟩⟩
      · cases h
    · cases h
  · cases h
theorem trH_rcv {dr : Bool} {op : Op} (h : trH P dr op = .rcv) : ∃ c, op = .call c ∧ c.callee = .builtin .recover := by
  unfold trH at h
  split at h
  · rename_i c
    split at h
    · rename_i hc _; exact ⟨c, rfl, hc⟩
    · split at h <;> cases h
    · split at h <;> cases h
    · split at h <;> cases h
    · cases h
  · split at h
    · split at h <;> cases h
    · split at h <;> cases h
    · cases h
  · cases h
/-- whose method is which function -/
theorem mtab_ok {name : String} {t f : Nat} (h : (t, f) ∈ mtab P name) : ∃ i m pr, P.info? t = some i ∧ i.methods.find? (·.name == name) = some m ∧ m.func = some (f, pr) ∧ m.path.isEmpty = true ∧ mrOk P t pr = true := by
  unfold mtab at h
  rw [List.mem_filterMap] at h
  obtain ⟨t', _, h⟩ := h
  split at h
  · rename_i i hi
    split at h
    · rename_i m hm
      split at h
      · rename_i f' pr hf
        split at h
        · rename_i hb
          simp only [Bool.and_eq_true] at hb
          injection h with h
          injection h with h1 h2
          subst h1 h2
          exact ⟨i, m, pr, hi, hm, hf, hb.1.1, hb.2⟩
        · cases h
      · cases h
    · cases h
  · cases h
theorem run_method {name : String} {t f : Nat} (h : (t, f) ∈ mtab P name) (v : Value) (w : World) : (method (P.types.size + Made.depth) t v name).run P w = .ok (f, v) w := by
  obtain ⟨i, m, pr, h1, h2, h3, h4, h5⟩ := mtab_ok h
  have hp : m.path.toList = [] := by simpa using h4
  show (method ((P.types.size + 99) + 1) t v name).run P w = _
  generalize P.types.size + 99 = n
  unfold mrOk at h5
  cases hu : P.underlying t with
  | none => rw [hu] at h5; cases h5
  | some d =>
    rw [hu] at h5
    have hr : ∀ wr, (receiverAt t (.val v) pr wr).run P w = .ok v w := by
      intro wr
      simp only [receiverAt, Sem.run_bind, run_underlying hu, Result.andThen]
      cases d <;> first
        | (have h5 : pr = true := h5
           subst h5
           rfl)
        | (have h5 : (!pr) = true := h5
           have h5 : pr = false := by simpa using h5
           subst h5
           rfl)
    simp only [method, Sem.run_bind, typeInfo, h1, h2, Result.andThen, Sem.run_pure, hp, follow, h3, hr, run_program]
theorem invK_true {tbl : List (Nat × Nat)} {v : AV} {vs : List AV} {cs : List AFr} {κ : ASt → R} (e : invK tb tbl v vs cs h nx κ = true) : ∃ t v' f, v = .ifc t v' ∧ (t, f) ∈ tbl ∧ enterK tb f (v' :: vs) false cs h nx κ = true := by
  cases v <;> first | (cases e; done) | skip
  rename_i t v'
  have e : fndF t (fun f => enterK tb f (v' :: vs) false cs h nx κ) tbl = true := e
  refine ⟨t, v', ?_⟩
  have go : ∀ tbl, fndF t (fun f => enterK tb f (v' :: vs) false cs h nx κ) tbl = true → ∃ f, (t, f) ∈ tbl ∧ enterK tb f (v' :: vs) false cs h nx κ = true := by
    intro tbl
    induction tbl with
    | nil => intro e; cases e
    | cons p tbl ih =>
      intro e
      obtain ⟨t', f⟩ := p
      have e : br (Nat.beq t' t) (enterK tb f (v' :: vs) false cs h nx κ) (fndF t (fun f => enterK tb f (v' :: vs) false cs h nx κ) tbl) = true := e
      rcases br_true e with ⟨h1, h2⟩ | ⟨h1, h2⟩
      · have h1 := Nat.eq_of_beq_eq_true h1
        subst h1
        exact ⟨f, List.mem_cons_self .., h2⟩
      · obtain ⟨f, h3, h4⟩ := ih h2
        exact ⟨f, List.mem_cons_of_mem _ h3, h4⟩
  obtain ⟨f, h1, h2⟩ := go tbl e
  exact ⟨f, rfl, h1, h2⟩
/-- arguments -/
theorem args_ok {args : Array Operand} {xs : List X} (hx : trXs args = some xs) {en : Env} {κ : List AV → R} (e : dXs xs en κ = true) (hE : ER θ en a.tmps) : ∃ vs, κ vs = true ∧ Oks θ vs ∧ args.map a.eval = (toVs θ vs).toArray := by
  obtain ⟨vs, h1, _, h3⟩ := xs_ok hx en
  rw [h1] at e
  obtain ⟨h4, h5⟩ := h3 θ a hE
  refine ⟨vs, e, h4, ?_⟩
  apply Array.ext'
  simpa using h5
theorem no_defer {op : Op} {c : Call} (h : op = .call c) : ∀ c', op ≠ .defer c' := by
  intro c' h'; rw [h] at h'; cases h'
theorem no_recover (hC : CsR P θ f0 f kd cs Fs pd) {b : Frame} (hb : b.kind = if kd then .deferred else .normal) {k : List Item} : tryRecover (b.atR a k) (Fs ++ cs0) = none := by
  have hk : (b.atR a k).kind = if kd then .deferred else .normal := hb
  unfold tryRecover
  rw [hk]
  cases kd with
  | false => rfl
  | true =>
    cases cs with
    | nil => exact absurd hC.2.1 (by simp)
    | cons c cs =>
      obtain ⟨en, td, fr⟩ := c
      obtain ⟨F, Fs', q, pd', rfl, _, hw, _⟩ := hC
      simp only [List.cons_append, if_true, hw.1]
theorem arg_ok {x : X} {X : Operand} (hx : trX X = some x) {en : Env} {κ : AV → R} (e : dX x en κ = true) (hE : ER θ en a.tmps) : ∃ v, κ v = true ∧ VR θ v (a.eval X) := by
  obtain ⟨v, h1, h2⟩ := x_ok hx en
  rw [h1] at e
  exact ⟨v, e, h2 θ a hE⟩
/-- an operation of a plain region -/
theorem op_plain {nt : Nat} {dr : Bool} {b : Frame} {k : List Item} {cs' : List Frame} {g : Gd} {d : Ds} {I : I} (ho : ops[i]? = some o) (hg : trG ops o = some g) (hd : trD nt o = some d) (hI : trH P dr o.op = .op I) {K : Env → H → Nat → R}
    (e : dG g en (dI I en h nx fun v h nx => K (putE d v en) h nx) (K (putE d undef en) h nx) = true) (hR : HR P w0 pd θ h nx w) (hE : ER θ en a.tmps) (hs : nt ≤ a.tmps.size) (hn : nt ≤ 512) :
    ∃ θ' h' nx' w' en' a', θ.le θ' ∧ Steps P (lone (b.atR a (.inRegion ops (i :: rest) :: k)) cs' w) (lone (b.atR a' (.inRegion ops rest :: k)) cs' w') ∧ HR P w0 pd θ' h' nx' w' ∧ ER θ' en' a'.tmps ∧
      a'.tmps.size = a.tmps.size ∧ a'.defers = a.defers ∧ K en' h' nx' = true := by
  rcases gd_ok hg hE e with ⟨_, e1, hw⟩ | ⟨_, e1, hw⟩
  · obtain ⟨v, u, θ', h', nx', w', n, k1, k2, k3, k4, k5, k6⟩ := (cls_of hI).op en h nx _ w0 pd θ a w hE hR e1
    exact ⟨θ', h', nx', w', _, _, k1, step_value ho hw k5 k6, k3, er_put hd (hE.mono k1) hs hn k2, put_size, put_defers, k4⟩
  · exact ⟨θ, h, nx, w, _, _, .refl θ, step_unwanted ho hw, hR, er_put hd hE hs hn (vr_undef θ), put_size, put_defers, e1⟩

/-- what is to be shown of an operation that calls, puts off or recovers: mk: how it goes on -/
theorem act_ok {dr : Bool} (ht : TbOk tb P) (hx : Fx P θ f fn body kd rd df a td todo) (hR : HR P w0 (q ++ pd) θ h nx w) (hC : CsR P θ f0 f kd cs Fs pd) (hE : ER θ en a.tmps) {π : List Nat} {o : Oper} {g : Gd} {d : Ds} {r : DR} {hh : DH}
    (ho : ops[i]? = some o) (hg : trG ops o = some g) (hd : trD fn.ntmps o = some d) (hH : trH P dr o.op = hh) (hact : ∀ I, hh ≠ .op I) {enA : Env} (hag : Agree (rdH hh ++ rdG (some g)) enA en)
    (e : rgK tb (dR (putH g d hh r)) enA td (.mk f df kd rd) cs h nx κ = true)
    (hnext : ∀ θ' h' v u df' a', θ.le θ' → VR θ' v u → a'.tmps = (a.put o.dst u).tmps → Fx P θ' f fn body kd rd df' a' td todo → FR P θ' h' q (putE d v enA) (.rg (dR r) :: td) (.mk f df' kd rd) ((bF f kd (rd.map θ'.blk)).atR a' (.inRegion ops π :: todo))) :
    Goal P w0 cs0 f0 κ (lone ((bF f kd (rd.map θ.blk)).atR a (.inRegion ops (i :: π) :: todo)) (Fs ++ cs0) w) := by
  have hgd : ∀ A B, dG g enA A B = dG g en A B := dG_agree hag.right
  -- on, with a value laid
  have on : ∀ {θ' : Th} {v : AV} {u : Value} {df' : List AD} {a' : Act} {w' : World}, θ.le θ' → VR θ' v u → a'.tmps = (a.put o.dst u).tmps → Fx P θ' f fn body kd rd df' a' td todo → HR P w0 (q ++ pd) θ' h nx w' →
      κ (.mk (putE d v enA) (.rg (dR r) :: td) (.mk f df' kd rd) cs h nx) = true → Goal P w0 cs0 f0 κ (lone ((bF f kd (rd.map θ.blk)).atR a' (.inRegion ops π :: todo)) (Fs ++ cs0) w') := by
    intro θ' v u df' a' w' hle hv ha hx' hR' e'
    have := hnext θ' h v u df' a' hle hv ha hx'
    rw [hx.rdm hle] at this
    exact ⟨_, _, .refl P _, .mk hR' this (hC.mono hle), e'⟩
  have unw : ∀ {e' : κ (.mk (putE d undef enA) (.rg (dR r) :: td) (.mk f df kd rd) cs h nx) = true}, Region.wanted o (yielded ops a.tmps) = false → Goal P w0 cs0 f0 κ (lone ((bF f kd (rd.map θ.blk)).atR a (.inRegion ops (i :: π) :: todo)) (Fs ++ cs0) w) := by
    intro e' hw
    exact (on (.refl θ) (vr_undef θ) rfl (hx.act put_size put_defers) hR e').of_steps (step_unwanted ho hw)
  -- the frame that waits
  have hwait : WaitR P θ q enA (.wt (dD d) (dR r) :: td) (.mk f df kd rd) ((bF f kd (rd.map θ.blk)).atR a (.inRegion ops (i :: π) :: todo)) false := by
    intro θ' h' v u hle hv
    refine ⟨d, rfl, ?_⟩
    have := hnext θ' h' v u df (a.put o.dst u) hle hv rfl ((hx.mono hle).act put_size put_defers)
    rw [hx.rdm hle] at this
    rw [Frame.finish_atR, ho]
    exact this
  have hCw : ∀ g, CsR P θ f0 g false (.mk enA (.wt (dD d) (dR r) :: td) (.mk f df kd rd) :: cs) ((bF f kd (rd.map θ.blk)).atR a (.inRegion ops (i :: π) :: todo) :: Fs) (q ++ pd) := fun _ => ⟨_, _, q, pd, rfl, rfl, hwait, hC⟩
  cases hh with
  | op I => exact absurd rfl (hact I)
  | bad =>
    have e : rgK tb (dR (.op .n .n .bad .nil)) enA td (.mk f df kd rd) cs h nx κ = true := e
    rw [rgK_op] at e
    cases e
  | call g' xs =>
    obtain ⟨c, hop, hc, hxs⟩ := trH_call hH
    have e : rgK tb (dR (.call g d g' xs r)) enA td (.mk f df kd rd) cs h nx κ = true := e
    rw [rgK_call, hgd] at e
    rcases gd_ok hg hE e with ⟨_, e1, hw⟩ | ⟨_, e1, hw⟩
    · rw [dXs_agree hag.left] at e1
      obtain ⟨vs, e2, h1, h2⟩ := args_ok hxs e1 hE
      obtain ⟨fn', body', hf', hgo⟩ := enter_ok ht e2 h1 hR (hCw _)
      refine hgo.of_steps (step_enter ho hw (no_defer hop) ?_)
      simp only [execOp, hop, resolve, hc, h2, Act.eval, Deferred.ofValue, Sem.run_bind, Sem.run_pure, Result.andThen, invoke]
      rw [run_callFunc hf']
      simp
    · exact unw (e' := e1) hw
  | calv x xs =>
    obtain ⟨c, t, hop, hc, htt, rfl, hxs⟩ := trH_calv hH
    have e : rgK tb (dR (.calv g d (.t t) xs r)) enA td (.mk f df kd rd) cs h nx κ = true := e
    rw [rgK_calv, hgd] at e
    rcases gd_ok hg hE e with ⟨_, e1, hw⟩ | ⟨_, e1, hw⟩
    · have hag1 : Agree (rdX (.t t)) enA en := hag.left.left
      have hag2 : Agree (xs.flatMap rdX) enA en := hag.left.right
      rw [dX_agree hag1] at e1
      have hX : trX (.tmp t) = some (.t t) := by simp [trX, htt]
      obtain ⟨v, e2, h1⟩ := arg_ok hX e1 hE
      rw [dXs_agree hag2] at e2
      obtain ⟨vs, e3, h2, h3⟩ := args_ok hxs e2 hE
      obtain ⟨d', n, k1, k2, k3⟩ := callv_ok ht e3 h1 h2 hR hCw
      have hrun : (execOp a.eval o).run P w = .ok n w := by
        simp only [execOp, hop, resolve, hc, h3, Sem.run_bind, k1, Result.andThen, k2]
      rcases k3 with ⟨g2, args, rfl, hgo⟩ | ⟨l, g2, tmps, x, y, rfl, hgo⟩
      · exact hgo.of_steps (step_enter ho hw (no_defer hop) hrun)
      · exact hgo.of_steps (step_round ho hw (no_defer hop) hrun)
    · exact unw (e' := e1) hw
  | inv tbl x xs =>
    obtain ⟨c, Y, name, hop, hc, hY, hxs, rfl⟩ := trH_inv hH
    have e : rgK tb (dR (.inv g d (mtab P name) x xs r)) enA td (.mk f df kd rd) cs h nx κ = true := e
    rw [rgK_inv, hgd] at e
    rcases gd_ok hg hE e with ⟨_, e1, hw⟩ | ⟨_, e1, hw⟩
    · have hag1 : Agree (rdX x) enA en := hag.left.left
      have hag2 : Agree (xs.flatMap rdX) enA en := hag.left.right
      rw [dX_agree hag1] at e1
      obtain ⟨v, e2, h1⟩ := arg_ok hY e1 hE
      rw [dXs_agree hag2] at e2
      obtain ⟨vs, e3, h2, h3⟩ := args_ok hxs e2 hE
      obtain ⟨t', v', f', rfl, hm, e4⟩ := invK_true e3
      have hv' : Ok θ v' := h1.1
      obtain ⟨fn', body', hf', hgo⟩ := enter_ok ht e4 (show Oks θ (v' :: vs) from ⟨hv', h2⟩) hR (hCw _)
      refine hgo.of_steps (step_enter ho hw (no_defer hop) ?_)
      have hX : a.eval Y = .iface t' (toV θ v') := h1.2
      have hcons : (#[Value.iface t' (toV θ v')] ++ (toVs θ vs).toArray)[0]? = some (.iface t' (toV θ v')) := by simp
      have htail : (#[Value.iface t' (toV θ v')] ++ (toVs θ vs).toArray).extract 1 (#[Value.iface t' (toV θ v')] ++ (toVs θ vs).toArray).size = (toVs θ vs).toArray := by
        apply Array.ext'
        simp
        rw [List.take_of_length_le (by simp)]
      have hall : #[toV θ v'] ++ (toVs θ vs).toArray = (toVs θ (v' :: vs)).toArray := by
        apply Array.ext'
        simp [toVs]
      simp only [execOp, hop, resolve, hc, h3, hX, Sem.run_bind, Sem.run_pure, Result.andThen, invoke, hcons, htail, callMethod, run_program, run_method hm, hall]
      rw [run_callFunc hf']
    · exact unw (e' := e1) hw
  | dfr x xs =>
    obtain ⟨c, hop, hxs, hcx⟩ := trH_dfr hH
    have e : rgK tb (dR (.dfr g d x xs r)) enA td (.mk f df kd rd) cs h nx κ = true := e
    rw [rgK_dfr, hgd] at e
    rcases gd_ok hg hE e with ⟨_, e1, hw⟩ | ⟨_, e1, hw⟩
    · cases rd with
      | some o => cases e1
      | none =>
        have e1 : dX x enA (fun v => dXs xs enA fun vs => match v with
          | .fn f2 caps => appK AV vs caps fun vs => κ (.mk (putE d undef enA) (.rg (dR r) :: td) (.mk f (.fn f2 vs :: df) kd none) cs h nx)
          | _ => false) = true := e1
        have hag1 : Agree (rdX x) enA en := hag.left.left
        have hag2 : Agree (xs.flatMap rdX) enA en := hag.left.right
        rw [dX_agree hag1] at e1
        obtain ⟨X, v, hcX, e2, h1⟩ : ∃ X v, c.callee = .value X ∧ (dXs xs enA fun vs => match v with
          | .fn f2 caps => appK AV vs caps fun vs => κ (.mk (putE d undef enA) (.rg (dR r) :: td) (.mk f (.fn f2 vs :: df) kd none) cs h nx)
          | _ => false) = true ∧ VR θ v (a.eval X) := by
          rcases hcx with ⟨g2, hc, rfl⟩ | ⟨t, hc, htt, rfl⟩
          · exact ⟨_, .fn g2 [], hc, e1, ⟨trivial, rfl⟩⟩
          · have hX : trX (.tmp t) = some (.t t) := by simp [trX, htt]
            obtain ⟨v, e2, h1⟩ := arg_ok hX e1 hE
            exact ⟨_, v, hc, e2, h1⟩
        rw [dXs_agree hag2] at e2
        obtain ⟨vs, e3, h2, h3⟩ := args_ok hxs e2 hE
        cases v <;> first | (cases e3; done) | skip
        rename_i f2 caps
        have e3 : appK AV vs caps (fun vs => κ (.mk (putE d undef enA) (.rg (dR r) :: td) (.mk f (.fn f2 vs :: df) kd none) cs h nx)) = true := e3
        rw [appK_eq] at e3
        have hall : Oks θ (vs ++ caps) := Oks_iff.2 fun x hx => (List.mem_append.1 hx).elim (Oks_iff.1 h2 x) (Oks_iff.1 h1.1 x)
        have hu : a.eval X = .func (.func f2) #[] (toVs θ caps).toArray := h1.2
        have hrun : (execOp a.eval o).run P w = .ok (.defer { target := .fn (.func f2) (toVs θ caps).toArray, args := #[] ++ (toVs θ vs).toArray }) w := by
          simp only [execOp, hop, resolve, hcX, h3, hu, Deferred.ofValue, Sem.run_bind, Sem.run_pure, Result.andThen]
        refine (on (v := undef) (u := Go.undef) (.refl θ) (vr_undef θ) ?_ ⟨hx.hf, hx.hr, ?_, ?_, hx.ht⟩ hR e3).of_steps (step_defer_op rfl ho hw hrun)
        · cases o.dst <;> rfl
        · rw [put_defers]
          exact ⟨_, _, _, rfl, rfl, by simp [toVs_map], hall, hx.hd⟩
        · rw [put_size]; exact hx.hs
    · exact unw (e' := e1) hw
  | rcv =>
    obtain ⟨c, hop, hc⟩ := trH_rcv hH
    have e : rgK tb (dR (.rcv g d r)) enA td (.mk f df kd rd) cs h nx κ = true := e
    rw [rgK_rcv, hgd] at e
    rcases gd_ok hg hE e with ⟨_, e1, hw⟩ | ⟨_, e1, hw⟩
    · cases rd with
      | some o => cases e1
      | none =>
        have e1 : κ (.mk (putE d .ni enA) (.rg (dR r) :: td) (.mk f df kd none) cs h nx) = true := e1
        have hrun : (execOp a.eval o).run P w = .ok .recover w := by
          simp only [execOp, hop, resolve, hc, Sem.run_bind, Sem.run_pure, Result.andThen, invoke, builtin]
        refine (on (v := .ni) (u := .nilIface) (.refl θ) ⟨trivial, rfl⟩ rfl (hx.act put_size put_defers) hR e1).of_steps (step_recover rfl ho hw (no_defer hop) hrun (no_recover hC rfl))
    · exact unw (e' := e1) hw
/-- a plain region -/
theorem reg_plain (ht : TbOk tb P) : ∀ (rest : List Nat) (θ : Th) (a : Act) (h : H) (nx : Nat) (w : World) (en : Env), (∀ i ∈ rest, i < ops.size) → Fx P θ f fn body kd rd df a td todo → HR P w0 pd θ h nx w → CsR P θ f0 f kd cs Fs pd → ER θ en a.tmps →
    rgK tb (dR (trOs P fn.ntmps ops (rest.filterMap (ops[·]?)))) en td (.mk f df kd rd) cs h nx κ = true → Goal P w0 cs0 f0 κ (lone ((bF f kd (rd.map θ.blk)).atR a (.inRegion ops rest :: todo)) (Fs ++ cs0) w) := by
  intro rest
  induction rest with
  | nil =>
    intro θ a h nx w en _ hx hR hC hE e
    exact (hx.goal hE hR hC e).of_steps (.one stepR_region_end)
  | cons i rest ih =>
    intro θ a h nx w en hi hx hR hC hE e
    obtain ⟨o, ho⟩ : ∃ o, ops[i]? = some o := ⟨_, Array.getElem?_eq_getElem (hi i (List.mem_cons_self ..))⟩
    rw [List.filterMap_cons, ho] at e
    have e : rgK tb (dR (match trG ops o, trD fn.ntmps o with | some g, some d => putH g d (trH P false o.op) (trOs P fn.ntmps ops (rest.filterMap (ops[·]?))) | _, _ => .op .n .n .bad .nil)) en td (.mk f df kd rd) cs h nx κ = true := e
    have hi' : ∀ j ∈ rest, j < ops.size := fun j hj => hi j (List.mem_cons_of_mem _ hj)
    split at e
    · rename_i g d hg hd
      cases hH : trH P false o.op with
      | op I =>
        rw [hH] at e
        have e : rgK tb (dR (.op g d I (trOs P fn.ntmps ops (rest.filterMap (ops[·]?))))) en td (.mk f df kd rd) cs h nx κ = true := e
        rw [rgK_op] at e
        obtain ⟨θ', h', nx', w', en', a', k1, k2, k3, k4, k5, k6, k7⟩ := op_plain (rest := rest) (b := bF f kd (rd.map θ.blk)) (k := todo) (cs' := Fs ++ cs0) ho hg hd hH (K := fun en h nx => rgK tb (dR (trOs P fn.ntmps ops (rest.filterMap (ops[·]?)))) en td (.mk f df kd rd) cs h nx κ) e hR hE hx.hs hx.hf.nt
        have := ih θ' a' h' nx' w' en' hi' ((hx.mono k1).act k5 k6) k3 (hC.mono k1) k4 k7
        rw [hx.rdm k1] at this
        exact this.of_steps k2
      | _ =>
        refine act_ok (q := []) (d := d) (r := trOs P fn.ntmps ops (rest.filterMap (ops[·]?))) ht hx hR hC hE ho hg hd rfl (fun I hI => by rw [hH] at hI; cases hI) (fun t _ => rfl) e ?_
        intro θ' h' v u df' a' hle hv ha hx'
        exact (hx'.more (.reg hi')).run h' (by rw [ha]; exact er_put hd (hE.mono hle) hx.hs hx.hf.nt hv)
    · rw [rgK_op] at e
      cases e

/-! ### Drawn regions -/
theorem dG_split {g : Gd} {en : Env} {A B : R} (e : dG g en A B = true) : (GSays g en true ∧ A = true) ∨ (GSays g en false ∧ B = true) := by
  cases g with
  | n => exact .inl ⟨.yes fun _ _ => rfl, e⟩
  | g t b =>
    have hdef : ∀ A B : R, dG (.g t b) en A B = (match getL AV 3 t en with | .b c => br (eqB c b) A B | .tu _ => B | _ => false) := by
      intro A B
      show getK AV (fun v => match v with | .b c => br (eqB c b) A B | .tu _ => B | _ => false) 3 t en = _
      rw [getK_eq]
    rw [hdef] at e
    cases hv : getL AV 3 t en <;> rw [hv] at e <;> first | (cases e; done) | skip
    · rename_i c
      have e : br (eqB c b) A B = true := e
      cases hc : eqB c b with
      | true => rw [hc] at e; exact .inl ⟨.yes fun A B => by rw [hdef, hv]; show br (eqB c b) A B = A; rw [hc]; rfl, e⟩
      | false => rw [hc] at e; exact .inr ⟨.no fun A B => by rw [hdef, hv]; show br (eqB c b) A B = B; rw [hc]; rfl, e⟩
    · exact .inr ⟨.no fun A B => by rw [hdef, hv], e⟩
theorem cls_op {nt : Nat} {c : Nat} (hc : c < 3) (ho : ops[i]? = some o) (h : clsAt P ops i = c) : ∃ I, trH P true o.op = .op I ∧ clsI I = c := by
  unfold clsAt cls at h
  rw [ho] at h
  have h : clsH (trH P true o.op) = c := h
  cases hH : trH P true o.op with
  | op I => rw [hH] at h; exact ⟨I, rfl, h⟩
  | _ => rw [hH] at h; have h : 3 = c := h; omega
theorem trO_eq {nt : Nat} {dr : Bool} {g : Gd} {d : Ds} {r : DR} (hg : trG ops o = some g) (hd : trD nt o = some d) : trO P nt dr ops o r = putH g d (trH P dr o.op) r := by
  unfold trO
  rw [hg, hd]
/-- one more carried out by the machine alone -/
theorem dr_add {nt : Nat} {qs qs' : List (Nat × Nat × AO)} {L : List (Bool × Nat)} {A st π : List Nat} {D : Nat → Prop} {en enM : Env} {h h' : H} (hn : nt ≤ 512) (hD : Dr P nt ops θ h qs ((false, i) :: L) A st en enM a.tmps π D) (hcl : clsAt P ops i < 3) {g : Gd} {d : Ds}
    (hf : Fitd P nt ops i o g d) {v : AV} (hx : Ext h h') (hq : ∀ x ∈ qs, x ∈ qs')
    (hp : ∀ en' enM', (∀ t, d = .d t → getL AV 3 t en' = v) → EnI ops i (rdOf P ops o) en en' enM' → Pend P ops qs' st h' en' enM' i o g d) : Dr P nt ops θ h' qs' L (i :: A) st (putE d v en) enM a.tmps π D := by
  have hchk := hD.chk
  simp only [okL, Bool.and_eq_true] at hchk
  obtain ⟨hfit, hrest⟩ := hchk
  obtain ⟨_, hia, hdepA⟩ := fitL_ok hfit
  rw [if_pos hcl] at hrest
  have hnD : ¬ D i := fun h => hia (hD.sub i h)
  refine ⟨hrest, hD.lin, hD.shut, fun j hj => List.mem_cons_of_mem _ (hD.sub j hj), ⟨fun o' ho' e he hb => hdepA o' ho' e he hb, hD.ord⟩, ?_, hD.er, ?_, ?_⟩
  · intro j hj hc
    rcases List.mem_cons.1 hj with rfl | hj
    · omega
    · exact hD.act j hj hc
  · intro t ht hno
    have hne : o.dst ≠ some t := hno i o (List.mem_cons_self ..) hnD hf.ho
    rw [putE_ne ht hn hf.hd hne]
    exact hD.agr t ht fun j oj hj hnj hoj => hno j oj (List.mem_cons_of_mem _ hj) hnj hoj
  · intro j hj
    rcases List.mem_cons.1 hj with rfl | hj
    · refine ⟨o, g, d, hf, fun _ => hp _ _ (fun t ht => putE_same ht) fun t ht => ?_⟩
      by_cases hb : ∀ k ok, ops[k]? = some ok → ok.dst = some t → Waits ops j k
      · exact .inl ⟨hb, (putE_ne (hf.lt t ht) hn hf.hd fun e => hia ((hb j o hf.ho e).shut hD.ord.shut hdepA)).symm⟩
      · obtain ⟨k, ok, hk, hkt, hnw⟩ : ∃ k ok, ops[k]? = some ok ∧ ok.dst = some t ∧ ¬ Waits ops j k := Classical.byContradiction fun hc => hb fun k ok h1 h2 => Classical.byContradiction fun h3 => hc ⟨k, ok, h1, h2, h3⟩
        have hw := (hf.rd k ok t hk hkt ht).resolve_left hnw
        refine .inr ⟨⟨k, ok, hk, hkt, hw, hnw⟩, hD.agr t (hf.lt t ht) fun j' oj' hj' _ hoj' e => hia ?_⟩
        obtain ⟨o', g', d', hf', _⟩ := hD.pend j' hj'
        have ho' : o' = oj' := by have := hf'.ho; rw [hoj'] at this; injection this with this; exact this.symm
        subst ho'
        rcases hf'.ds k ok t hk hkt with h | h
        · subst h
          exact hw.shut hD.ord.shut (fun o ho e he hb => hD.ord.shut j' hj' o ho e he hb)
        · exact absurd e h
    · obtain ⟨o', g', d', hf', hp'⟩ := hD.pend j hj
      refine ⟨o', g', d', hf', fun hnd => ?_⟩
      have hji : j ≠ i := fun e => hia (e ▸ hj)
      have hw : ¬ Waits ops j i := fun h => hia (h.shut hD.ord.shut (fun o ho e he hb => hD.ord.shut j hj o ho e he hb))
      exact ((hp' hnd).put (v := v) hn hf' hf.ho hf.hd hji hw (fun _ _ _ _ _ _ _ => rfl)).ext hx (fun x hx _ => hq x hx)
/-- a region that draws its order -/
theorem reg_draw (ht : TbOk tb P) : ∀ (L : List (Bool × Nat)) (θ : Th) (a : Act) (h : H) (nx : Nat) (w : World) (en enM : Env) (qs : List (Nat × Nat × AO)) (A st π : List Nat) (D : Nat → Prop),
    Dr P fn.ntmps ops θ h qs L A st en enM a.tmps π D → Fx P θ f fn body kd rd df a td todo → HR P w0 (qs.map (·.2) ++ pd) θ h nx w → CsR P θ f0 f kd cs Fs pd →
    rgK tb (dR (trDr P fn.ntmps ops L)) en td (.mk f df kd rd) cs h nx κ = true → Goal P w0 cs0 f0 κ (lone ((bF f kd (rd.map θ.blk)).atR a (.inRegion ops π :: todo)) (Fs ++ cs0) w) := by
  intro L
  induction L with
  | nil =>
    intro θ a h nx w en enM qs A st π D hD hx hR hC e
    have hchk := hD.chk
    simp only [okL, Bool.and_eq_true] at hchk
    have hst : st = [] := by cases st with | nil => rfl | cons x y => cases hchk.1
    subst hst
    have hall : ∀ i, i < ops.size → i ∈ A := fun i hi => (okL_cover hD.chk i hi).resolve_right (by simp)
    obtain ⟨θ', a', w', k1, k2, k3, k4, k5, k6⟩ := dr_end (b := bF f kd (rd.map θ.blk)) (k := todo) (cs := Fs ++ cs0) hall hx.hf.nt π θ qs enM a D w hD hR hx.hs
    have := ((hx.mono k1).act k5 k6).goal (κ := κ) (cs0 := cs0) k4 k3 (hC.mono k1) e
    rw [hx.rdm k1] at this
    exact this.of_steps k2
  | cons p L ih =>
    intro θ a h nx w en enM qs A st π D hD hx hR hC e
    obtain ⟨again, i⟩ := p
    cases again with
    | true =>
      have hchk := hD.chk
      simp only [okL, Bool.and_eq_true] at hchk
      obtain ⟨⟨⟨hiA, hc1⟩, hfb⟩, hrest⟩ := hchk
      have hiA := memb_iff.1 hiA
      have hc1 : clsAt P ops i = 1 := Nat.eq_of_beq_eq_true hc1
      obtain ⟨o, g, d, hf, hp⟩ := hD.pend i hiA
      obtain ⟨I, hI, hcI⟩ := cls_op (nt := 0) (by omega) hf.ho hc1
      have e : rgK tb (dR (match ops[i]? with
        | some o => (match trG ops o, o.dst with
          | some g, some d => if d < fn.ntmps then .rck g d (trI P true o.op) (trDr P fn.ntmps ops L) else .op .n .n .bad .nil
          | _, _ => .op .n .n .bad .nil)
        | none => .op .n .n .bad .nil)) en td (.mk f df kd rd) cs h nx κ = true := e
      rw [hf.ho] at e
      simp only [hf.hg] at e
      rcases trD_some hf.hd with ⟨h1, _⟩ | ⟨t, h1, h2, h3⟩
      · rw [h1] at e
        simp only [] at e
        rw [rgK_op] at e; cases e
      · rw [h1] at e
        simp only [h3, if_true] at e
        rw [rgK_rck, ← trH_op hI] at e
        have hcls := cls_of hI
        unfold Cls at hcls
        rw [hcI] at hcls
        -- the rest holds, and what stands there is as it was read
        have key : rgK tb (dR (trDr P fn.ntmps ops L)) en td (.mk f df kd rd) cs h nx κ = true ∧ (GSays g en true → ∃ v, getL AV 3 t en = v ∧ ∀ h', Ext h h' → ∀ nx' κ', dI I en h' nx' κ' = κ' v h' nx') := by
          rcases dG_split e with ⟨hg, e1⟩ | ⟨hg, e1⟩
          · obtain ⟨v, k1, _⟩ := hcls en h nx _ e1
            rw [k1 h (Ext.refl h)] at e1
            obtain ⟨hb, e2⟩ := br_t e1
            exact ⟨e2, fun _ => ⟨v, beqV_eq _ _ hb, k1⟩⟩
          · refine ⟨e1, fun hg' => ?_⟩
            cases hg with
            | no h4 => cases hg' with | yes h5 => exact absurd ((h4 true false).symm.trans (h5 true false)) (by simp)
        refine ih θ a h nx w en enM qs A _ π D ⟨hrest, hD.lin, hD.shut, hD.sub, hD.ord, hD.act, hD.er, hD.agr, ?_⟩ hx hR hC key.1
        intro j hj
        obtain ⟨oj, gj, dj, hfj, hpj⟩ := hD.pend j hj
        refine ⟨oj, gj, dj, hfj, fun hnd => ?_⟩
        obtain ⟨Ij, eni, hIj, hlt, hEi, hpj⟩ := hpj hnd
        refine ⟨Ij, eni, hIj, hlt, hEi, hpj.imp id fun ⟨p1, p2⟩ => ⟨p1, ?_⟩⟩
        rcases p2 with p2 | ⟨c, hs | p2⟩ | p2
        · exact .inl p2
        · refine .inr (.inl ⟨c, ?_⟩)
          by_cases hji : j = i
          · subst hji
            have e1 : oj = o := by have := hfj.ho; rw [hf.ho] at this; injection this with this; exact this.symm
            subst e1
            have e2 : gj = g := by have := hfj.hg; rw [hf.hg] at this; injection this with this; exact this.symm
            subst e2
            have e3 : Ij = I := by rw [hI] at hIj; injection hIj with hIj; exact hIj.symm
            subst e3
            have hagi : Agree (rdOf P ops oj) eni en := fun t' ht' => by
              rcases hEi t' ht' with ⟨_, h2⟩ | ⟨⟨k, ok, q1, q2, _, q4⟩, _⟩
              · exact h2
              · exact absurd (fitB_ok hfb hf.ho k ok t' q1 q2 ht') q4
            obtain ⟨b1, b2⟩ := rdOf_I hI hf.hg hagi
            obtain ⟨v, v1, v2⟩ := key.2 (p1.agree b2)
            refine .inr ⟨v, fun t' ht' => ?_, fun h' hx' nx' κ' => by rw [dI_agree b1]; exact v2 h' hx' nx' κ'⟩
            have e4 : dj = .d t := by have := hfj.hd; rw [hf.hd] at this; injection this with this; rw [← this, h2]
            rw [e4] at ht'; injection ht' with ht'; subst ht'; exact v1
          · refine .inl (List.mem_filter.2 ⟨hs, ?_⟩)
            cases hb : Nat.beq j i with
            | false => rfl
            | true => exact absurd (Nat.eq_of_beq_eq_true hb) hji
        · exact .inr (.inl ⟨c, .inr p2⟩)
        · exact .inr (.inr p2)
    | false =>
      have hchk := hD.chk
      simp only [okL, Bool.and_eq_true] at hchk
      obtain ⟨hfit, hrest⟩ := hchk
      obtain ⟨⟨o, g, d, hf⟩, hia, hdepA⟩ := fitL_ok hfit
      have e : rgK tb (dR (match ops[i]? with | some o => trO P fn.ntmps true ops o (trDr P fn.ntmps ops L) | none => .op .n .n .bad .nil)) en td (.mk f df kd rd) cs h nx κ = true := e
      rw [hf.ho] at e
      simp only [] at e
      rw [trO_eq hf.hg hf.hd] at e
      by_cases hcl : clsAt P ops i < 3
      · obtain ⟨I, hI, hcI⟩ := cls_op (nt := 0) hcl hf.ho rfl
        rw [hI] at e
        have e : rgK tb (dR (.op g d I (trDr P fn.ntmps ops L))) en td (.mk f df kd rd) cs h nx κ = true := e
        rw [rgK_op] at e
        have hlt : clsI I < 3 := by omega
        rcases dG_split e with ⟨hgs, e1⟩ | ⟨hgs, e1⟩
        · have hcls := cls_of hI
          unfold Cls at hcls
          match hcc : clsI I with
          | 0 =>
            rw [hcc] at hcls
            obtain ⟨v, k1, k2⟩ := hcls en h nx _ e1
            rw [k1] at e1
            refine ih θ a h nx w _ enM qs (i :: A) st π D (dr_add hx.hf.nt hD hcl hf (Ext.refl h) (fun x hx => hx) fun en' enM' hv hag => ?_) hx hR hC e1
            exact ⟨I, en, hI, hlt, hag, .inr ⟨hgs, .inl ⟨hcc, v, hv, fun h' nx' κ' => k1 h' nx' κ'⟩⟩⟩
          | 1 =>
            rw [hcc] at hcls
            obtain ⟨v, k1, k2⟩ := hcls en h nx _ e1
            rw [k1 h (Ext.refl h)] at e1
            refine ih θ a h nx w _ enM qs (i :: A) st π D (dr_add hx.hf.nt hD hcl hf (Ext.refl h) (fun x hx => hx) fun en' enM' hv hag => ?_) hx hR hC e1
            exact ⟨I, en, hI, hlt, hag, .inr ⟨hgs, .inr (.inl ⟨hcc, .inr ⟨v, hv, fun h' hx' nx' κ' => k1 h' hx' nx' κ'⟩⟩)⟩⟩
          | 2 =>
            rw [hcc] at hcls
            obtain ⟨a0, v, k0, k1, k2, k3, k4⟩ := hcls en h nx _ e1
            have hxt : Ext h (setO h nx a0) := hR.ext_new k1 a0
            refine ih θ a _ _ w _ enM ((i, nx, a0) :: qs) (i :: A) st π D (dr_add hx.hf.nt hD hcl hf hxt (fun x hx => List.mem_cons_of_mem _ hx) fun en' enM' hv hag => ?_) hx (hR.pended k1 a0) hC k2
            exact ⟨I, en, hI, hlt, hag, .inr ⟨hgs, .inr (.inr ⟨hcc, a0, v, nx, List.mem_cons_self .., hv, fun h' nx' κ' hn' => k3 h' nx' κ' hn'⟩)⟩⟩
          | n + 3 => omega
        · refine ih θ a h nx w _ enM qs (i :: A) st π D (dr_add hx.hf.nt hD hcl hf (Ext.refl h) (fun x hx => hx) fun en' enM' hv hag => ?_) hx hR hC e1
          exact ⟨I, en, hI, hlt, hag, .inl ⟨hgs, hv⟩⟩
      · rw [if_neg hcl] at hrest
        simp only [Bool.and_eq_true] at hrest
        obtain ⟨⟨hst, hall⟩, hok⟩ := hrest
        have hst : st = [] := by cases st with | nil => rfl | cons x y => cases hst
        subst hst
        have hisz : i < ops.size := (Array.getElem?_eq_some_iff.1 hf.ho).1
        have hlater : ∀ j, j < ops.size → j ∉ A → j = i ∨ Waits ops j i := by
          intro j hj hjA
          rcases okL_cover hok j hj with hm | hm
          · rcases List.mem_cons.1 hm with h1 | h1
            · exact .inl h1
            · exact absurd h1 hjA
          · have := List.all_eq_true.1 hall _ hm
            exact .inr (before_waits j i (by simpa using this))
        obtain ⟨π', θ1, qs1, enM1, a1, D1, w1, k1, k2, k3, k4, k5, k6⟩ := dr_catch (b := bF f kd (rd.map θ.blk)) (k := todo) (cs := Fs ++ cs0) hisz hia hdepA hlater hx.hf.nt π θ qs enM a D w hD hR hx.hs
        have hx1 := (hx.mono k1).act k5 k6
        have hC1 := hC.mono k1
        have hag := k4.agree hia hf
        have hact3 : 3 ≤ clsAt P ops i := by omega
        suffices Goal P w0 cs0 f0 κ (lone ((bF f kd (rd.map θ1.blk)).atR a1 (.inRegion ops (i :: π') :: todo)) (Fs ++ cs0) w1) by
          rw [hx.rdm k1] at this
          exact this.of_steps k2
        cases hH : trH P true o.op with
        | op I =>
          rw [hH] at e
          have e : rgK tb (dR (.op g d I (trDr P fn.ntmps ops L))) en td (.mk f df kd rd) cs h nx κ = true := e
          rw [rgK_op] at e
          obtain ⟨a1', a2'⟩ := rdOf_I hH hf.hg hag
          rw [dG_agree a2', dI_agree a1'] at e
          rcases gd_ok hf.hg k4.er e with ⟨_, e1, hw⟩ | ⟨_, e1, hw⟩
          · obtain ⟨v, u, θ2, h2, nx2, w2, n, m1, m2, m3, m4, m5, m6⟩ := (cls_of hH).op enM1 h nx _ w0 _ θ1 a1 w1 k4.er k3 e1
            obtain ⟨st', hD2⟩ := dr_act k4 hact3 hf hx1.hs hx.hf.nt m1 h2 m2
            have := ih θ2 (a1.put o.dst u) h2 nx2 w2 _ _ qs1 _ st' π' _ hD2 ((hx1.mono m1).act put_size put_defers) m3 (hC1.mono m1) m4
            rw [hx1.rdm m1] at this
            exact this.of_steps (step_value hf.ho hw m5 m6)
          · obtain ⟨st', hD2⟩ := dr_act k4 hact3 hf hx1.hs hx.hf.nt (.refl θ1) h (vr_undef θ1)
            exact (ih θ1 (a1.put o.dst Go.undef) h nx w1 _ _ qs1 _ st' π' _ hD2 (hx1.act put_size put_defers) k3 hC1 e1).of_steps (step_unwanted hf.ho hw)
        | _ =>
          have hagr : Agree (rdH (trH P true o.op) ++ rdG (some g)) en enM1 := by
            have := hag
            unfold rdOf at this
            rw [hf.hg] at this
            exact this
          refine act_ok (q := qs1.map (·.2)) (d := d) (r := trDr P fn.ntmps ops L) ht hx1 k3 hC1 k4.er hf.ho hf.hg hf.hd rfl (fun I hI => by rw [hH] at hI; cases hI) hagr e ?_
          intro θ' h' v u df' a' hle hv ha hx'
          obtain ⟨st', hD2⟩ := dr_act k4 hact3 hf hx1.hs hx.hf.nt hle h' hv
          exact .draw hx'.hf hx'.hr hx'.hd hx'.hs hx'.ht (by rw [ha]; exact hD2)
end
end Go.AM
