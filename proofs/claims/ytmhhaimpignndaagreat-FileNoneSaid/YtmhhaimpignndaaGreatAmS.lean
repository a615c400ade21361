/-
  AM, 20: temporaries set, guards, what an operation reads; the model's steps at one operation. Conditions: none.
-/
import Derived.Test.YtmhhaimpignndaaGreatAmR
import Derived.CallsIn
import Derived.Orders
namespace Go.AM
open Go

section
variable {P : Program}
/-! ### Temporaries -/
theorem er_set {θ : Th} {en : Env} {tmps : Array Value} (h : ER θ en tmps) {t : Nat} {v : AV} {u : Value} (hv : VR θ v u) (ht : t < 512) (hs : t < tmps.size) : ER θ (setL AV v 3 t en) (tmps.setIfInBounds t u) := by
  intro s hs'
  by_cases e : s = t
  · subst e
    rw [getL_setL, Array.getD_eq_getD_getElem?, Array.getElem?_setIfInBounds_self_of_lt hs]
    exact hv
  · rw [getL_setL_ne (i := t) (j := s) v 3 en ht hs' e, Array.getD_eq_getD_getElem?, Array.getElem?_setIfInBounds_ne (Ne.symm e), ← Array.getD_eq_getD_getElem?]
    exact h s hs'
/-- the temporaries with a value laid -/
def putE : Ds → AV → Env → Env
  | .n, _, en => en
  | .d t, v, en => setL AV v 3 t en
theorem dD_eq (d : Ds) (v : AV) (en : Env) (κ : Env → R) : dD d v en κ = κ (putE d v en) := by
  cases d with
  | n => rfl
  | d t => exact setK_eq v 3 t en κ
theorem trD_some {nt : Nat} {o : Oper} {d : Ds} (h : trD nt o = some d) : (o.dst = none ∧ d = .n) ∨ ∃ t, o.dst = some t ∧ d = .d t ∧ t < nt := by
  unfold trD at h
  split at h
  · rename_i t ht
    split at h
    · rename_i hn; injection h with h; exact .inr ⟨t, ht, h.symm, hn⟩
    · cases h
  · rename_i hn; injection h with h; exact .inl ⟨hn, h.symm⟩
theorem er_put {nt : Nat} {o : Oper} {d : Ds} (hd : trD nt o = some d) {θ : Th} {en : Env} {a : Act} (h : ER θ en a.tmps) (hn : nt ≤ a.tmps.size) (h5 : nt ≤ 512) {v : AV} {u : Value} (hv : VR θ v u) : ER θ (putE d v en) (a.put o.dst u).tmps := by
  rcases trD_some hd with ⟨h1, rfl⟩ | ⟨t, h1, rfl, h2⟩
  · rw [h1]; exact h
  · rw [h1]; exact er_set h hv (Nat.lt_of_lt_of_le h2 h5) (Nat.lt_of_lt_of_le h2 hn)
theorem put_size {a : Act} {o : Option Tmp} {u : Value} : (a.put o u).tmps.size = a.tmps.size := by cases o <;> simp [Act.put]
theorem put_defers {a : Act} {o : Option Tmp} {u : Value} : (a.put o u).defers = a.defers := by cases o <;> rfl

/-! ### Guards -/
theorem trG_some {ops : Array Oper} {o : Oper} {g : Gd} (h : trG ops o = some g) : (o.guard = none ∧ g = .n) ∨ ∃ j b t, o.guard = some (j, b) ∧ (ops[j]?).bind (·.dst) = some t ∧ t < 512 ∧ g = .g t b := by
  unfold trG at h
  split at h
  · rename_i hg; injection h with h; exact .inl ⟨hg, h.symm⟩
  · rename_i j b hg
    split at h
    · rename_i d hd
      split at h
      · rename_i ht; injection h with h; exact .inr ⟨j, b, d, hg, hd, ht, h.symm⟩
      · cases h
    · cases h
/-- what a guard says -/
inductive GSays (g : Gd) (en : Env) : Bool → Prop where
  | yes (h : ∀ A B, dG g en A B = A) : GSays g en true
  | no (h : ∀ A B, dG g en A B = B) : GSays g en false
theorem gd_ok {ops : Array Oper} {o : Oper} {g : Gd} (hg : trG ops o = some g) {θ : Th} {en : Env} {a : Act} (hE : ER θ en a.tmps) {A B : R} (e : dG g en A B = true) :
    (GSays g en true ∧ A = true ∧ Region.wanted o (yielded ops a.tmps) = true) ∨ (GSays g en false ∧ B = true ∧ Region.wanted o (yielded ops a.tmps) = false) := by
  rcases trG_some hg with ⟨h1, rfl⟩ | ⟨j, b, t, h1, h2, h3, rfl⟩
  · exact .inl ⟨.yes fun _ _ => rfl, e, by simp [Region.wanted, h1]⟩
  · have hval := hE t h3
    have hdef : ∀ A B : R, dG (.g t b) en A B = (match getL AV 3 t en with | .b c => br (eqB c b) A B | .tu _ => B | _ => false) := by
      intro A B
      show getK AV (fun v => match v with | .b c => br (eqB c b) A B | .tu _ => B | _ => false) 3 t en = _
      rw [getK_eq]
    rw [hdef] at e
    cases hv : getL AV 3 t en <;> rw [hv] at e hval <;> first | (cases e; done) | skip
    · rename_i c
      have hu := hval.b
      have hty : a.tmps[t]? = some (.bool c) := by
        rw [Array.getD_eq_getD_getElem?] at hu
        cases ht : a.tmps[t]? with
        | none => rw [ht] at hu; cases hu
        | some x => rw [ht] at hu; exact congrArg some hu
      have hy : yielded ops a.tmps j = some c := by
        unfold yielded
        rw [h2]
        simp [hty]
      have hw : Region.wanted o (yielded ops a.tmps) = (c == b) := by
        simp only [Region.wanted, h1, hy]
        cases c <;> cases b <;> rfl
      have e : br (eqB c b) A B = true := e
      rw [eqB_eq] at e
      cases hc : (c == b) with
      | true =>
        rw [hc] at e hw
        exact .inl ⟨.yes fun A B => by rw [hdef, hv]; show br (eqB c b) A B = A; rw [eqB_eq, hc]; rfl, e, hw⟩
      | false =>
        rw [hc] at e hw
        exact .inr ⟨.no fun A B => by rw [hdef, hv]; show br (eqB c b) A B = B; rw [eqB_eq, hc]; rfl, e, hw⟩
    · rename_i l
      have hu := hval.2
      have hy : yielded ops a.tmps j = none := by
        unfold yielded
        rw [h2]
        rw [Array.getD_eq_getD_getElem?] at hu
        cases ht : a.tmps[t]? with
        | none => simp [ht]
        | some x =>
          rw [ht] at hu
          have hu : x = _ := hu
          simp only [Option.bind_some, ht]
          rw [hu]; rfl
      refine .inr ⟨.no fun A B => by rw [hdef, hv], e, ?_⟩
      simp only [Region.wanted, h1, hy]
      cases b <;> rfl

/-! ### What an operation reads -/
def Agree (l : List Nat) (en en' : Env) : Prop := ∀ t ∈ l, getL AV 3 t en = getL AV 3 t en'
theorem Agree.left {l m : List Nat} {en en' : Env} (h : Agree (l ++ m) en en') : Agree l en en' := fun t ht => h t (List.mem_append_left _ ht)
theorem Agree.right {l m : List Nat} {en en' : Env} (h : Agree (l ++ m) en en') : Agree m en en' := fun t ht => h t (List.mem_append_right _ ht)
theorem Agree.symm {l : List Nat} {en en' : Env} (h : Agree l en en') : Agree l en' en := fun t ht => (h t ht).symm
theorem dX_agree {x : X} {en en' : Env} (h : Agree (rdX x) en en') : ∀ κ, dX x en κ = dX x en' κ := by
  intro κ
  cases x with
  | t t =>
    show getK AV κ 3 t en = getK AV κ 3 t en'
    rw [getK_eq, getK_eq, h t (by simp [rdX])]
  | c v => rfl
theorem dXs_agree : ∀ {xs : List X} {en en' : Env}, Agree (xs.flatMap rdX) en en' → ∀ κ, dXs xs en κ = dXs xs en' κ
  | [], _, _, _, _ => rfl
  | x :: xs, en, en', h, κ => by
    rw [List.flatMap_cons] at h
    show dX x en (fun v => dXs xs en fun vs => κ (v :: vs)) = dX x en' (fun v => dXs xs en' fun vs => κ (v :: vs))
    rw [dX_agree h.left]
    congr 1
    funext v
    exact dXs_agree h.right _
theorem dB_agree {x : Option X} {en en' : Env} (h : Agree (rdO x) en en') : ∀ d κ, dB x en d κ = dB x en' d κ := by
  intro d κ
  cases x with
  | none => rfl
  | some x => exact dX_agree h _
theorem dP_agree : ∀ {ps : List Pt} {en en' : Env}, Agree (ps.flatMap fun | .mk _ _ x => rdX x) en en' → ∀ l κ, dP ps en l κ = dP ps en' l κ
  | [], _, _, _, _, _ => rfl
  | .mk off size x :: ps, en, en', h, l, κ => by
    rw [List.flatMap_cons] at h
    show dX x en (cellsK fun vs => br (Nat.beq (lenN AV vs) size) (putLK vs off l fun l => dP ps en l κ) false) = dX x en' (cellsK fun vs => br (Nat.beq (lenN AV vs) size) (putLK vs off l fun l => dP ps en' l κ) false)
    have : (fun l => dP ps en l κ) = fun l => dP ps en' l κ := funext fun l => dP_agree h.right l κ
    rw [dX_agree h.left, this]
theorem dBin_agree {op : BinOp} {k : Nat} {x y : X} {en en' : Env} (hx : ∀ κ, dX x en κ = dX x en' κ) (hy : ∀ κ, dX y en κ = dX y en' κ) : dBin op k (dX x) (dX y) en = dBin op k (dX x) (dX y) en' := by
  cases op <;> (funext h nx κ; simp only [dBin, oAr, oLa, oRem, oShl, oShr, oLt, oLe, oGt, oGe, oEq, hx, hy])
theorem dBs_agree {op : BinOp} {x y : X} {en en' : Env} (hx : ∀ κ, dX x en κ = dX x en' κ) (hy : ∀ κ, dX y en κ = dX y en' κ) : dBs op (dX x) (dX y) en = dBs op (dX x) (dX y) en' := by
  cases op <;> (funext h nx κ; simp only [dBs, oCat, oSS, oSQ, oBad, hx, hy])
theorem dI_agree {i : I} {en en' : Env} (h : Agree (rdI i) en en') : dI i en = dI i en' := by
  cases i <;> simp only [rdI] at h
  case mv x => have hx := dX_agree h; funext h' nx κ; simp only [dI, oMv, hx]
  case sid x => have hx := dX_agree h; funext h' nx κ; simp only [dI, oSid, hx]
  case pick c x y => have hc := dX_agree h.left.left; have hx := dX_agree h.left.right; have hy := dX_agree h.right; funext h' nx κ; simp only [dI, oPick, hc, hx, hy]
  case nc x => have hx := dX_agree h; funext h' nx κ; simp only [dI, oNc, hx]
  case bin op k x y => exact dBin_agree (dX_agree h.left) (dX_agree h.right)
  case bs op x y => exact dBs_agree (dX_agree h.left) (dX_agree h.right)
  case bb g x y => have hx := dX_agree h.left; have hy := dX_agree h.right; funext h' nx κ; simp only [dI, oBB, hx, hy]
  case eqs n g ks x y => have hx := dX_agree h.left; have hy := dX_agree h.right; funext h' nx κ; simp only [dI, oEqs, hx, hy]
  case eqn n tc x y => have hx := dX_agree h.left; have hy := dX_agree h.right; funext h' nx κ; simp only [dI, oEqn, hx, hy]
  case nt x => have hx := dX_agree h; funext h' nx κ; simp only [dI, oNt, hx]
  case ng x => have hx := dX_agree h; funext h' nx κ; simp only [dI, oNg, hx]
  case cm x => have hx := dX_agree h; funext h' nx κ; simp only [dI, oCm, hx]
  case cvi k x => have hx := dX_agree h; funext h' nx κ; simp only [dI, oCvi, hx]
  case b2s x => have hx := dX_agree h; funext h' nx κ; simp only [dI, oB2s, hx]
  case s2b x => have hx := dX_agree h; funext h' nx κ; simp only [dI, oS2b, hx]
  case uptr x => have hx := dX_agree h; funext h' nx κ; simp only [dI, oUptr, hx]
  case s2a x n => have hx := dX_agree h; funext h' nx κ; simp only [dI, oS2a, hx]
  case mki t x => have hx := dX_agree h; funext h' nx κ; simp only [dI, oMki, hx]
  case mkf f xs => have hx := dXs_agree h; funext h' nx κ; simp only [dI, oMkf, hx]
  case ext x n => have hx := dX_agree h; funext h' nx κ; simp only [dI, oExt, hx]
  case fa x o => have hx := dX_agree h; funext h' nx κ; simp only [dI, oFa, hx]
  case fld x o n => have hx := dX_agree h; funext h' nx κ; simp only [dI, oFld, hx]
  case fl1 x o => have hx := dX_agree h; funext h' nx κ; simp only [dI, oFl1, hx]
  case ias x y s => have hx := dX_agree h.left; have hy := dX_agree h.right; funext h' nx κ; simp only [dI, oIas, hx, hy]
  case iaa x y l s => have hx := dX_agree h.left; have hy := dX_agree h.right; funext h' nx κ; simp only [dI, oIaa, hx, hy]
  case ixs x y => have hx := dX_agree h.left; have hy := dX_agree h.right; funext h' nx κ; simp only [dI, oIxs, hx, hy]
  case lens x => have hx := dX_agree h; funext h' nx κ; simp only [dI, oLens, hx]
  case lenl x => have hx := dX_agree h; funext h' nx κ; simp only [dI, oLenl, hx]
  case lenm x => have hx := dX_agree h; funext h' nx κ; simp only [dI, oLenm, hx]
  case mm b xs => have hx := dXs_agree h; funext h' nx κ; simp only [dI, oMm, hx]
  case ld x n => have hx := dX_agree h; funext h' nx κ; simp only [dI, oLd, hx]
  case ld1 x => have hx := dX_agree h; funext h' nx κ; simp only [dI, oLd1, hx]
  case st x y n => have hx := dX_agree h.left; have hy := dX_agree h.right; funext h' nx κ; simp only [dI, oSt, hx, hy]
  case al z n => rfl
  case bx x => have hx := dX_agree h; funext h' nx κ; simp only [dI, oBx, hx]
  case bld z ps => have hx := dP_agree h; funext h' nx κ; simp only [dI, oBld, hx]
  case bsl z n l ps => have hx := dP_agree h; funext h' nx κ; simp only [dI, oBsl, hx]
  case mks x y s z b => have hx := dX_agree h.left; have hy := dX_agree h.right; funext h' nx κ; simp only [dI, oMks, hx, hy]
  case mkm => rfl
  case lkp g ks x k ok z => have hx := dX_agree h.left; have hy := dX_agree h.right; funext h' nx κ; simp only [dI, oLkp, hx, hy]
  case mpu g ks x k v => have hx := dX_agree h.left.left; have hk := dX_agree h.left.right; have hv := dX_agree h.right; funext h' nx κ; simp only [dI, oMpu, hx, hk, hv]
  case mpe g ks x k z => have hx := dX_agree h.left; have hy := dX_agree h.right; funext h' nx κ; simp only [dI, oMpe, hx, hy]
  case ens x s v => have hx := dX_agree h.left.left; have hk := dX_agree h.left.right; have hv := dX_agree h.right; funext h' nx κ; simp only [dI, oEns, hx, hk, hv]
  case slc x l q m s => have hx := dX_agree h.left.left.left; have hl := dB_agree h.left.left.right; have hq := dB_agree h.left.right; have hm := dB_agree h.right; funext h' nx κ; simp only [dI, oSlc, hx, hl, hq, hm]
  case slr x l q m s => have hx := dX_agree h.left.left.left; have hl := dB_agree h.left.left.right; have hq := dB_agree h.left.right; have hm := dB_agree h.right; funext h' nx κ; simp only [dI, oSlr, hx, hl, hq, hm]
  case sls x l q => have hx := dX_agree h.left.left; have hl := dB_agree h.left.right; have hq := dB_agree h.right; funext h' nx κ; simp only [dI, oSls, hx, hl, hq]
  case sla x l q m n s => have hx := dX_agree h.left.left.left; have hl := dB_agree h.left.left.right; have hq := dB_agree h.left.right; have hm := dB_agree h.right; funext h' nx κ; simp only [dI, oSla, hx, hl, hq, hm]
  case apn x y s b => have hx := dX_agree h.left; have hy := dX_agree h.right; funext h' nx κ; simp only [dI, oApn, hx, hy]
  case apz x y s b z => have hx := dX_agree h.left; have hy := dX_agree h.right; funext h' nx κ; simp only [dI, oApz, hx, hy]
  case clr x z => have hx := dX_agree h; funext h' nx κ; simp only [dI, oClr, hx]
  case msh x => have hx := dX_agree h; funext h' nx κ; simp only [dI, oMsh, hx]
  case ety x => have hx := dX_agree h; funext h' nx κ; simp only [dI, oEty, hx]
  case cpy x y s => have hx := dX_agree h.left; have hy := dX_agree h.right; funext h' nx κ; simp only [dI, oCpy, hx, hy]
  case dlt g ks x k => have hx := dX_agree h.left; have hy := dX_agree h.right; funext h' nx κ; simp only [dI, oDlt, hx, hy]
  case ald k x => have hx := dX_agree h; funext h' nx κ; simp only [dI, oAld, hx]
  case ast x y => have hx := dX_agree h.left; have hy := dX_agree h.right; funext h' nx κ; simp only [dI, oAst, hx, hy]
  case acs k x y z => have hx := dX_agree h.left.left; have hy := dX_agree h.left.right; have hz := dX_agree h.right; funext h' nx κ; simp only [dI, oAcs, hx, hy, hz]
  case aad k x y => have hx := dX_agree h.left; have hy := dX_agree h.right; funext h' nx κ; simp only [dI, oAad, hx, hy]
  case nop => rfl
  case nopp x => have hx := dX_agree h; funext h' nx κ; simp only [dI, oNopp, hx]
  case bad => rfl
  case rng x => have hx := dX_agree h; funext h' nx κ; simp only [dI, oRng, hx]
  case nxt x => have hx := dX_agree h; funext h' nx κ; simp only [dI, oNxt, hx]
theorem dG_agree {g : Gd} {en en' : Env} (h : Agree (rdG (some g)) en en') : ∀ A B, dG g en A B = dG g en' A B := by
  intro A B
  cases g with
  | n => rfl
  | g t b => exact dX_agree (x := .t t) h _

/-! ### The model's steps at an operation -/
variable {b : Frame} {a : Act} {k : List Item} {cs : List Frame} {w w' : World} {ops : Array Oper} {i : Nat} {rest : List Nat} {o : Oper}
theorem step_value {n : Next} {u : Value} (ho : ops[i]? = some o) (hw : Region.wanted o (yielded ops a.tmps) = true) (hr : (execOp a.eval o).run P w = .ok n w') (hn : fin n = some u) :
    Steps P (lone (b.atR a (.inRegion ops (i :: rest) :: k)) cs w) (lone (b.atR (a.put o.dst u) (.inRegion ops rest :: k)) cs w') := by
  have hnd : ∀ c, o.op ≠ .defer c := by
    intro c hc
    have hd : execOp a.eval o = (do pure (.defer (← resolve a.eval c o.type))) := by simp only [execOp, hc]
    rw [hd] at hr
    simp only [Sem.run_bind, Sem.run_pure] at hr
    cases hq : (resolve a.eval c o.type).run P w with
    | ok x w2 =>
      rw [hq] at hr
      simp only [Result.andThen] at hr
      injection hr with h1 _
      subst h1
      cases hn
    | halt x w2 => rw [hq] at hr; simp [Result.andThen] at hr
  have hg := stepGR_op (P := P) (b := b) (k := k) (cs := cs) (w := w) (rest := rest) ho hw
  rw [Oper.semAt_eq _ _ _ hnd] at hg
  have hfin : ∀ v, (b.atR a (.inRegion ops (i :: rest) :: k)).finish v = b.atR (a.put o.dst v) (.inRegion ops rest :: k) := by
    intro v; rw [Frame.finish_atR, ho]; rfl
  refine .one (step_lone_go ?_)
  cases n <;> first | (cases hn; done) | skip
  · injection hn with hn; subst hn
    rw [hg, ← hfin]; simp [stepG.apply, hr]
  · injection hn with hn; subst hn
    rw [hg, ← hfin]; simp [stepG.apply, hr]
theorem step_unwanted (ho : ops[i]? = some o) (hw : Region.wanted o (yielded ops a.tmps) = false) :
    Steps P (lone (b.atR a (.inRegion ops (i :: rest) :: k)) cs w) (lone (b.atR (a.put o.dst Go.undef) (.inRegion ops rest :: k)) cs w) := by
  have hs := stepR_op_skip (P := P) (b := b) (a := a) (k := k) (cs := cs) (w := w) (ops := ops) (i := i) (rest := rest) (by simp [ho, hw])
  simp only [ho, Option.bind_some] at hs
  exact .one hs
/-- a step at an operation that enters a function -/
theorem step_enter {f : FuncId} {args : Array Value} (ho : ops[i]? = some o) (hw : Region.wanted o (yielded ops a.tmps) = true) (hnd : ∀ c, o.op ≠ .defer c) (hr : (execOp a.eval o).run P w = .ok (.enter f args) w') :
    Steps P (lone (b.atR a (.inRegion ops (i :: rest) :: k)) cs w) (lone (Frame.enter P f args .normal) (b.atR a (.inRegion ops (i :: rest) :: k) :: cs) w') := by
  have hg := stepGR_op (P := P) (b := b) (k := k) (cs := cs) (w := w) (rest := rest) ho hw
  rw [Oper.semAt_eq _ _ _ hnd] at hg
  exact .one (step_lone_go (by rw [hg]; simp [stepG.apply, hr, Frame.atR]))
theorem step_round {l : Nat} {f : FuncId} {tmps : Array Value} {x y : Code} (ho : ops[i]? = some o) (hw : Region.wanted o (yielded ops a.tmps) = true) (hnd : ∀ c, o.op ≠ .defer c) (hr : (execOp a.eval o).run P w = .ok (.round l f tmps x y) w') :
    Steps P (lone (b.atR a (.inRegion ops (i :: rest) :: k)) cs w) (lone (Frame.round l f tmps x y .normal) (b.atR a (.inRegion ops (i :: rest) :: k) :: cs) w') := by
  have hg := stepGR_op (P := P) (b := b) (k := k) (cs := cs) (w := w) (rest := rest) ho hw
  rw [Oper.semAt_eq _ _ _ hnd] at hg
  exact .one (step_lone_go (by rw [hg]; simp [stepG.apply, hr, Frame.atR]))
theorem step_defer_op {d : Deferred} (hb : b.roundOf = none) (ho : ops[i]? = some o) (hw : Region.wanted o (yielded ops a.tmps) = true) (hr : (execOp a.eval o).run P w = .ok (.defer d) w') :
    Steps P (lone (b.atR a (.inRegion ops (i :: rest) :: k)) cs w) (lone (b.atR ({ a with defers := d :: a.defers }.put o.dst Go.undef) (.inRegion ops rest :: k)) cs w') := by
  have hg := stepGR_op (P := P) (b := b) (k := k) (cs := cs) (w := w) (rest := rest) ho hw
  rw [hb, Oper.semAt_none] at hg
  have : ({ b.atR a (.inRegion ops (i :: rest) :: k) with defers := d :: a.defers } : Frame).finish Go.undef = b.atR ({ a with defers := d :: a.defers }.put o.dst Go.undef) (.inRegion ops rest :: k) := by
    have := Frame.finish_atR b { a with defers := d :: a.defers } ops i rest k Go.undef
    rw [ho] at this; exact this
  refine .one (step_lone_go ?_)
  rw [hg]; simp only [stepG.apply, Sem.runT_eq, hr, GStep.bare_after]
  exact congrArg (fun fr => GStep.go { frame := fr, callers := cs, status := .running, dying := none } w') this
theorem step_recover (hb : b.roundOf = none) (ho : ops[i]? = some o) (hw : Region.wanted o (yielded ops a.tmps) = true) (hnd : ∀ c, o.op ≠ .defer c) (hr : (execOp a.eval o).run P w = .ok .recover w')
    (ht : tryRecover (b.atR a (.inRegion ops (i :: rest) :: k)) cs = none) :
    Steps P (lone (b.atR a (.inRegion ops (i :: rest) :: k)) cs w) (lone (b.atR (a.put o.dst .nilIface) (.inRegion ops rest :: k)) cs w') := by
  have hg := stepGR_op (P := P) (b := b) (k := k) (cs := cs) (w := w) (rest := rest) ho hw
  rw [Oper.semAt_eq _ _ _ hnd] at hg
  have hfin : (b.atR a (.inRegion ops (i :: rest) :: k)).finish .nilIface = b.atR (a.put o.dst .nilIface) (.inRegion ops rest :: k) := by
    rw [Frame.finish_atR, ho]; rfl
  refine .one (step_lone_go ?_)
  have hro : (b.atR a (.inRegion ops (i :: rest) :: k)).roundOf = none := hb
  rw [hg, ← hfin]
  simp only [stepG.apply, Sem.runT_eq, hr, hro, ht, GStep.bare_after]
  rfl
end
end Go.AM
