/-
  AM, 20: temporaries set, guards, what an operation reads; the model's steps at one operation. Conditions: none.
-/
import Derived.Test.YtniakcilpolneaaGreatDoorAmQb
import Derived.CallsIn
import Derived.Orders
namespace Go.AM
open Go

section
variable {P : Program}
/-! ### Temporaries -/
theorem er_set {θ : Th} {en : Env} {tmps : Array Value} (h : ER θ en tmps) {t : Nat} {v : AV} {u : Value} (hv : VR θ v u) (ht : t < 512) (hs : t < tmps.size) : ER θ (setL AV v 3 t en) (tmps.setIfInBounds t u) := by
  intro s hs'
  by_cases e : s = t
  · subst e
    rw [getL_setL, Array.getD_eq_getD_getElem?, Array.getElem?_setIfInBounds_self_of_lt hs]
    exact hv
  · rw [getL_setL_ne (i := t) (j := s) v 3 en ht hs' e, Array.getD_eq_getD_getElem?, Array.getElem?_setIfInBounds_ne (Ne.symm e), ← Array.getD_eq_getD_getElem?]
    exact h s hs'
/-- the temporaries with a value laid -/
def putE : Ds → AV → Env → Env
  | .n, _, en => en
  | .d t, v, en => setL AV v 3 t en
theorem dD_eq (d : Ds) (v : AV) (en : Env) (κ : Env → R) : dD d v en κ = κ (putE d v en) := by
  cases d with
  | n => rfl
  | d t => exact setK_eq v 3 t en κ
theorem trD_some {nt : Nat} {o : Oper} {d : Ds} (h : trD nt o = some d) : (o.dst = none ∧ d = .n) ∨ ∃ t, o.dst = some t ∧ d = .d t ∧ t < nt := by
  unfold trD at h
  split at h
  · rename_i t ht
    split at h
    · rename_i hn; injection h with h; exact .inr ⟨t, ht, h.symm, hn⟩
    · cases h
  · rename_i hn; injection h with h; exact .inl ⟨hn, h.symm⟩
theorem er_put {nt : Nat} {o : Oper} {d : Ds} (hd : trD nt o = some d) {θ : Th} {en : Env} {a : Act} (h : ER θ en a.tmps) (hn : nt ≤ a.tmps.size) (h5 : nt ≤ 512) {v : AV} {u : Value} (hv : VR θ v u) : ER θ (putE d v en) (a.put o.dst u).tmps := by
  rcases trD_some hd with ⟨h1, rfl⟩ | ⟨t, h1, rfl, h2⟩
  · rw [h1]; exact h
  · rw [h1]; exact er_set h hv (Nat.lt_of_lt_of_le h2 h5) (Nat.lt_of_lt_of_le h2 hn)
theorem put_size {a : Act} {o : Option Tmp} {u : Value} : (a.put o u).tmps.size = a.tmps.size := by cases o <;> simp [Act.put]
theorem put_defers {a : Act} {o : Option Tmp} {u : Value} : (a.put o u).defers = a.defers := by cases o <;> rfl

/-! ### Guards -/
theorem trG_some {ops : Array Oper} {o : Oper} {g : Gd} (h : trG ops o = some g) : (o.guard = none ∧ g = .n) ∨ ∃ j b t, o.guard = some (j, b) ∧ (ops[j]?).bind (·.dst) = some t ∧ t < 512 ∧ g = .g t b := by
  unfold trG at h
  split at h
  · rename_i hg; injection h with h; exact .inl ⟨hg, h.symm⟩
  · rename_i j b hg
    split at h
    · rename_i d hd
      split at h
      · rename_i ht; injection h with h; exact .inr ⟨j, b, d, hg, hd, ht, h.symm⟩
      · cases h
    · cases h
/-- what a guard says -/
inductive GSays (g : Gd) (en : Env) : Bool → Prop where
  | yes (h : ∀ A B, dG g en A B = A) : GSays g en true
  | no (h : ∀ A B, dG g en A B = B) : GSays g en false
theorem gd_ok {ops : Array Oper} {o : Oper} {g : Gd} (hg : trG ops o = some g) {θ : Th} {en : Env} {a : Act} (hE : ER θ en a.tmps) {A B : R} (e : dG g en A B = true) :
    (GSays g en true ∧ A = true ∧ Region.wanted o (yielded ops a.tmps) = true) ∨ (GSays g en false ∧ B = true ∧ Region.wanted o (yielded ops a.tmps) = false) := by
  rcases trG_some hg with ⟨h1, rfl⟩ | ⟨j, b, t, h1, h2, h3, rfl⟩
  · exact .inl ⟨.yes fun _ _ => rfl, e, by simp [Region.wanted, h1]⟩
  · have hval := hE t h3
    have hdef : ∀ A B : R, dG (.g t b) en A B = (match getL AV 3 t en with | .b c => br (eqB c b) A B | .tu _ => B | _ => false) := by
      intro A B
      show getK AV (fun v => match v with | .b c => br (eqB c b) A B | .tu _ => B | _ => false) 3 t en = _
      rw [getK_eq]
    rw [hdef] at e
    cases hv : getL AV 3 t en <;> rw [hv] at e hval <;> first | (cases e; done) | skip
    · rename_i c
      have hu := hval.b
      have hty : a.tmps[t]? = some (.bool c) := by
        rw [Array.getD_eq_getD_getElem?] at hu
        cases ht : a.tmps[t]? with
        | none => rw [ht] at hu; cases hu
        | some x => rw [ht] at hu; exact congrArg some hu
      have hy : yielded ops a.tmps j = some c := by
        unfold yielded
        rw [h2]
        simp [hty]
      have hw : Region.wanted o (yielded ops a.tmps) = (c == b) := by
        simp only [Region.wanted, h1, hy]
        cases c <;> cases b <;> rfl
      have e : br (eqB c b) A B = true := e
      rw [eqB_eq] at e
      cases hc : (c == b) with
      | true =>
        rw [hc] at e hw
        exact .inl ⟨.yes fun A B => by rw [hdef, hv]; show br (eqB c b) A B = A; rw [eqB_eq, hc]; rfl, e, hw⟩
      | false =>
        rw [hc] at e hw
        exact .inr ⟨.no fun A B => by rw [hdef, hv]; show br (eqB c b) A B = B; rw [eqB_eq, hc]; rfl, e, hw⟩
    · rename_i l
      have hu := hval.2
      have hy : yielded ops a.tmps j = none := by
        unfold yielded
        rw [h2]
        rw [Array.getD_eq_getD_getElem?] at hu
        cases ht : a.tmps[t]? with
        | none => simp [ht]
        | some x =>
          rw [ht] at hu
          have hu : x = _ := hu
          simp only [Option.bind_some, ht]
          rw [hu]; rfl
      refine .inr ⟨.no fun A B => by rw [hdef, hv], e, ?_⟩
      simp only [Region.wanted, h1, hy]
      cases b <;> rfl

/-! ### What an operation reads -/
def Agree (l : List Nat) (en en' : Env) : Prop := ∀ t ∈ l, getL AV 3 t en = getL AV 3 t en'
theorem Agree.left {l m : List Nat} {en en' : Env} (h : Agree (l ++ m) en en') : Agree l en en' := fun t ht => h t (List.mem_append_left _ ht)
theorem Agree.right {l m : List Nat} {en en' : Env} (h : Agree (l ++ m) en en') : Agree m en en' := fun t ht => h t (List.mem_append_right _ ht)
theorem Agree.symm {l : List Nat} {en en' : Env} (h : Agree l en en') : Agree l en' en := fun t ht => (h t ht).symm
theorem dX_agree {x : X} {en en' : Env} (h : Agree (rdX x) en en') : ∀ κ, dX x en κ = dX x en' κ := by
  intro κ
  cases x with
  | t t =>
    show getK AV κ 3 t en = getK AV κ 3 t en'
    rw [getK_eq, getK_eq, h t (by simp [rdX])]
  | c v => rfl
theorem dXs_agree : ∀ {xs : List X} {en en' : Env}, Agree (xs.flatMap rdX) en en' → ∀ κ, dXs xs en κ = dXs xs en' κ
  | [], _, _, _, _ => rfl
  | x :: xs, en, en', h, κ => by
    rw [List.flatMap_cons] at h
    show dX x en (fun v => dXs xs en fun vs => κ (v :: vs)) = dX x en' (fun v => dXs xs en' fun vs => κ (v :: vs))
    rw [dX_agree h.left]
    congr 1
    funext v
    exact dXs_agree h.right _
theorem dB_agree {x : Option X} {en en' : Env} (h : Agree (rdO x) en en') : ∀ d κ, dB x en d κ = dB x en' d κ := by
  intro d κ
  cases x with
  | none => rfl
  | some x => exact dX_agree h _
theorem dP_agree : ∀ {ps : List Pt} {en en' : Env}, Agree (ps.flatMap fun | .mk _ _ x => rdX x) en en' → ∀ l κ, dP ps en l κ = dP ps en' l κ
  | [], _, _, _, _, _ => rfl
  | .mk off size x :: ps, en, en', h, l, κ => by
    rw [List.flatMap_cons] at h
    show dX x en (cellsK fun vs => br (Nat.beq (lenN AV vs) size) (putLK vs off l fun l => dP ps en l κ) false) = dX x en' (cellsK fun vs => br (Nat.beq (lenN AV vs) size) (putLK vs off l fun l => dP ps en' l κ) false)
    have : (fun l => dP ps en l κ) = fun l => dP ps en' l κ := funext fun l => dP_agree h.right l κ
    rw [dX_agree h.left, this]
theorem dBin_agree {op : BinOp} {k : Nat} {x y : X} {en en' : Env} (hx : ∀ κ, dX x en κ = dX x en' κ) (hy : ∀ κ, dX y en κ = dX y en' κ) : dBin op k (dX x) (dX y) en = dBin op k (dX x) (dX y) en' := by
  cases op <;> (funext h nx κ; simp only [dBin, oAr, oLa, oAd, oRem, oShl, oShr, oLt, oLe, oGt, oGe, oEq, hx, hy])
theorem dBs_agree {op : BinOp} {x y : X} {en en' : Env} (hx : ∀ κ, dX x en κ = dX x en' κ) (hy : ∀ κ, dX y en κ = dX y en' κ) : dBs op (dX x) (dX y) en = dBs op (dX x) (dX y) en' := by
  cases op <;> (funext h nx κ; simp only [dBs, oCat, oSS, oSQ, oBad, hx, hy])
theorem dI_agree {i : I} {en en' : Env} (h : Agree (rdI i) en en') : dI i en = dI i en' := by
  cases i <;> simp only [rdI] at h
  case mv x => have hx := dX_agree h; funext h' nx κ; simp only [dI, oMv, hx]
  case sid x => have hx := dX_agree h; funext h' nx κ; simp only [dI, oSid, hx]
  case pick c x y => have hc := dX_agree h.left.left; have hx := dX_agree h.left.right; have hy := dX_agree h.right; funext h' nx κ; simp only [dI, oPick, hc, hx, hy]
  case nc x => have hx := dX_agree h; funext h' nx κ; simp only [dI, oNc, hx]
  case bin op k x y => exact dBin_agree (dX_agree h.left) (dX_agree h.right)
  case bs op x y => exact dBs_agree (dX_agree h.left) (dX_agree h.right)
  case bb g x y => have hx := dX_agree h.left; have hy := dX_agree h.right; funext h' nx κ; simp only [dI, oBB, hx, hy]
  case eqs n g ks x y => have hx := dX_agree h.left; have hy := dX_agree h.right; funext h' nx κ; simp only [dI, oEqs, hx, hy]
  case eqn n tc x y => have hx := dX_agree h.left; have hy := dX_agree h.right; funext h' nx κ; simp only [dI, oEqn, hx, hy]
  case nt x => have hx := dX_agree h; funext h' nx κ; simp only [dI, oNt, hx]
  case ng x => have hx := dX_agree h; funext h' nx κ; simp only [dI, oNg, hx]
  case cm x => have hx := dX_agree h; funext h' nx κ; simp only [dI, oCm, hx]
  case cvi k x => have hx := dX_agree h; funext h' nx κ; simp only [dI, oCvi, hx]
  case b2s x => have hx := dX_agree h; funext h' nx κ; simp only [dI, oB2s, hx]
  case s2b x => have hx := dX_agree h; funext h' nx κ; simp only [dI, oS2b, hx]
  case uptr x => have hx := dX_agree h; funext h' nx κ; simp only [dI, oUptr, hx]
  case s2a x n => have hx := dX_agree h; funext h' nx κ; simp only [dI, oS2a, hx]
  case mki t x => have hx := dX_agree h; funext h' nx κ; simp only [dI, oMki, hx]
  case mkf f xs => have hx := dXs_agree h; funext h' nx κ; simp only [dI, oMkf, hx]
  case ext x n => have hx := dX_agree h; funext h' nx κ; simp only [dI, oExt, hx]
  case fa x o => have hx := dX_agree h; funext h' nx κ; simp only [dI, oFa, hx]
  case fld x o n => have hx := dX_agree h; funext h' nx κ; simp only [dI, oFld, hx]
  case fl1 x o => have hx := dX_agree h; funext h' nx κ; simp only [dI, oFl1, hx]
  case ias x y s => have hx := dX_agree h.left; have hy := dX_agree h.right; funext h' nx κ; simp only [dI, oIas, hx, hy]
  case iaa x y l s => have hx := dX_agree h.left; have hy := dX_agree h.right; funext h' nx κ; simp only [dI, oIaa, hx, hy]
  case ixs x y => have hx := dX_agree h.left; have hy := dX_agree h.right; funext h' nx κ; simp only [dI, oIxs, hx, hy]
  case lens x => have hx := dX_agree h; funext h' nx κ; simp only [dI, oLens, hx]
  case lenl x => have hx := dX_agree h; funext h' nx κ; simp only [dI, oLenl, hx]
  case lenm x => have hx := dX_agree h; funext h' nx κ; simp only [dI, oLenm, hx]
  case mm b xs => have hx := dXs_agree h; funext h' nx κ; simp only [dI, oMm, hx]
  case ld x n => have hx := dX_agree h; funext h' nx κ; simp only [dI, oLd, hx]
  case ld1 x => have hx := dX_agree h; funext h' nx κ; simp only [dI, oLd1, hx]
  case st x y n => have hx := dX_agree h.left; have hy := dX_agree h.right; funext h' nx κ; simp only [dI, oSt, hx, hy]
  case al z n => rfl
  case bx x => have hx := dX_agree h; funext h' nx κ; simp only [dI, oBx, hx]
  case bxs t x => have hx := dX_agree h; funext h' nx κ; simp only [dI, oBxs, hx]
  case bld z ps => have hx := dP_agree h; funext h' nx κ; simp only [dI, oBld, hx]
  case bsl z n l ps => have hx := dP_agree h; funext h' nx κ; simp only [dI, oBsl, hx]
  case mks x y s z b => have hx := dX_agree h.left; have hy := dX_agree h.right; funext h' nx κ; simp only [dI, oMks, hx, hy]
  case mkm => rfl
  case lkp g ks x k ok z => have hx := dX_agree h.left; have hy := dX_agree h.right; funext h' nx κ; simp only [dI, oLkp, hx, hy]
  case mpu g ks x k v => have hx := dX_agree h.left.left; have hk := dX_agree h.left.right; have hv := dX_agree h.right; funext h' nx κ; simp only [dI, oMpu, hx, hk, hv]
  case mpe g ks x k z => have hx := dX_agree h.left; have hy := dX_agree h.right; funext h' nx κ; simp only [dI, oMpe, hx, hy]
  case ens x s v => have hx := dX_agree h.left.left; have hk := dX_agree h.left.right; have hv := dX_agree h.right; funext h' nx κ; simp only [dI, oEns, hx, hk, hv]
  case slc x l q m s => have hx := dX_agree h.left.left.left; have hl := dB_agree h.left.left.right; have hq := dB_agree h.left.right; have hm := dB_agree h.right; funext h' nx κ; simp only [dI, oSlc, hx, hl, hq, hm]
  case slr x l q m s => have hx := dX_agree h.left.left.left; have hl := dB_agree h.left.left.right; have hq := dB_agree h.left.right; have hm := dB_agree h.right; funext h' nx κ; simp only [dI, oSlr, hx, hl, hq, hm]
  case sls x l q => have hx := dX_agree h.left.left; have hl := dB_agree h.left.right; have hq := dB_agree h.right; funext h' nx κ; simp only [dI, oSls, hx, hl, hq]
  case sla x l q m n s => have hx := dX_agree h.left.left.left; have hl := dB_agree h.left.left.right; have hq := dB_agree h.left.right; have hm := dB_agree h.right; funext h' nx κ; simp only [dI, oSla, hx, hl, hq, hm]
  case apn x y s b => have hx := dX_agree h.left; have hy := dX_agree h.right; funext h' nx κ; simp only [dI, oApn, hx, hy]
  case apz x y s b z => have hx := dX_agree h.left; have hy := dX_agree h.right; funext h' nx κ; simp only [dI, oApz, hx, hy]
  case clr x z => have hx := dX_agree h; funext h' nx κ; simp only [dI, oClr, hx]
  case msh x => have hx := dX_agree h; funext h' nx κ; simp only [dI, oMsh, hx]
  case ety x => have hx := dX_agree h; funext h' nx κ; simp only [dI, oEty, hx]
  case cpy x y s => have hx := dX_agree h.left; have hy := dX_agree h.right; funext h' nx κ; simp only [dI, oCpy, hx, hy]
  case dlt g ks x k => have hx := dX_agree h.left; have hy := dX_agree h.right; funext h' nx κ; simp only [dI, oDlt, hx, hy]
  case ald k x => have hx := dX_agree h; funext h' nx κ; simp only [dI, oAld, hx]
  case ast x y => have hx := dX_agree h.left; have hy := dX_agree h.right; funext h' nx κ; simp only [dI, oAst, hx, hy]
  case acs k x y z => have hx := dX_agree h.left.left; have hy := dX_agree h.left.right; have hz := dX_agree h.right; funext h' nx κ; simp only [dI, oAcs, hx, hy, hz]
  case aad k x y => have hx := dX_agree h.left; have hy := dX_agree h.right; funext h' nx κ; simp only [dI, oAad, hx, hy]
  case als t z => rfl
  case cvp ok x => have hx := dX_agree h; funext h' nx κ; simp only [dI, oCvp, hx]
  case nes x => have hx := dX_agree h; funext h' nx κ; simp only [dI, oMv, hx]
  case apb t b x y => have hx := dX_agree h.left; have hy := dX_agree h.right; funext h' nx κ; simp only [dI, oApb, hx, hy]
  case usd x => have hx := dX_agree h; funext h' nx κ; simp only [dI, oUsd, hx]
  case ust t x y => have hx := dX_agree h.left; have hy := dX_agree h.right; funext h' nx κ; simp only [dI, oUst, hx, hy]
  case mnz t x => have hx := dX_agree h; funext h' nx κ; simp only [dI, oMnz, hx]
  case cnt x y => have hx := dX_agree h.left; have hy := dX_agree h.right; funext h' nx κ; simp only [dI, oCnt, hx, hy]
  case idx x y => have hx := dX_agree h.left; have hy := dX_agree h.right; funext h' nx κ; simp only [dI, oIdx, hx, hy]
  case cpc x => have hx := dX_agree h; funext h' nx κ; simp only [dI, oCap, hx]
  case cpn x y => have hx := dX_agree h.left; have hy := dX_agree h.right; funext h' nx κ; simp only [dI, oCpn, hx, hy]
  case nop => rfl
  case nopp x => have hx := dX_agree h; funext h' nx κ; simp only [dI, oNopp, hx]
  case bad => rfl
  case rng x => have hx := dX_agree h; funext h' nx κ; simp only [dI, oRng, hx]
  case nxt x => have hx := dX_agree h; funext h' nx κ; simp only [dI, oNxt, hx]
theorem dG_agree {g : Gd} {en en' : Env} (h : Agree (rdG (some g)) en en') : ∀ A B, dG g en A B = dG g en' A B := by
  intro A B
  cases g with
  | n => rfl
  | g t b => exact dX_agree (x := .t t) h _

/-! ### The model's steps at an operation -/
variable {b : Frame} {a : Act} {k : List Item} {cs : List Frame} {w w' : World} {ops : Array Oper} {i : Nat} {rest : List Nat} {o : Oper}
theorem step_value {n : Next} {u : Value} (ho : ops[i]? = some o) (hw : Region.wanted o (yielded ops a.tmps) = true) (hr : (execOp a.eval o).run P w = .ok n w') (hn : fin n = some u) :
    Steps P (lone (b.atR a (.inRegion ops (i :: rest) :: k)) cs w) (lone (b.atR (a.put o.dst u) (.inRegion ops rest :: k)) cs w') := by
  have hnd : ∀ c, o.op ≠ .defer c := by
    intro c hc
    have hd : execOp a.eval o = (do pure (.defer (← resolve a.eval c o.type))) := by simp only [execOp, hc]
    rw [hd] at hr
    simp only [Sem.run_bind, Sem.run_pure] at hr
    cases hq : (resolve a.eval c o.type).run P w with
    | ok x w2 =>
      rw [hq] at hr
      simp only [Result.andThen] at hr
      injection hr with h1 _
      subst h1
      cases hn
    | halt x w2 => rw [hq] at hr; simp [Result.andThen] at hr
  have hg := stepGR_op (P := P) (b := b) (k := k) (cs := cs) (w := w) (rest := rest) ho hw
  rw [Oper.semAt_eq _ _ _ hnd] at hg
  have hfin : ∀ v, (b.atR a (.inRegion ops (i :: rest) :: k)).finish v = b.atR (a.put o.dst v) (.inRegion ops rest :: k) := by
    intro v; rw [Frame.finish_atR, ho]; rfl
  refine .one (step_lone_go ?_)
  cases n <;> first | (cases hn; done) | skip
  · injection hn with hn; subst hn
    rw [hg, ← hfin]; simp [stepG.apply, hr]
  · injection hn with hn; subst hn
    rw [hg, ← hfin]; simp [stepG.apply, hr]
theorem step_unwanted (ho : ops[i]? = some o) (hw : Region.wanted o (yielded ops a.tmps) = false) :
    Steps P (lone (b.atR a (.inRegion ops (i :: rest) :: k)) cs w) (lone (b.atR (a.put o.dst Go.undef) (.inRegion ops rest :: k)) cs w) := by
  have hs := stepR_op_skip (P := P) (b := b) (a := a) (k := k) (cs := cs) (w := w) (ops := ops) (i := i) (rest := rest) (by simp [ho, hw])
  simp only [ho, Option.bind_some] at hs
  exact .one hs
/-- a step at an operation that enters a function -/
theorem step_enter {f : FuncId} {args : Array Value} (ho : ops[i]? = some o) (hw : Region.wanted o (yielded ops a.tmps) = true) (hnd : ∀ c, o.op ≠ .defer c) (hr : (execOp a.eval o).run P w = .ok (.enter f args) w') :
    Steps P (lone (b.atR a (.inRegion ops (i :: rest) :: k)) cs w) (lone (Frame.enter P f args .normal) (b.atR a (.inRegion ops (i :: rest) :: k) :: cs) w') := by
  have hg := stepGR_op (P := P) (b := b) (k := k) (cs := cs) (w := w) (rest := rest) ho hw
  rw [Oper.semAt_eq _ _ _ hnd] at hg
  exact .one (step_lone_go (by rw [hg]; simp [stepG.apply, hr, Frame.atR]))
theorem step_round {l : Nat} {f : FuncId} {tmps : Array Value} {x y : Code} (ho : ops[i]? = some o) (hw : Region.wanted o (yielded ops a.tmps) = true) (hnd : ∀ c, o.op ≠ .defer c) (hr : (execOp a.eval o).run P w = .ok (.round l f tmps x y) w') :
    Steps P (lone (b.atR a (.inRegion ops (i :: rest) :: k)) cs w) (lone (Frame.round l f tmps x y .normal) (b.atR a (.inRegion ops (i :: rest) :: k) :: cs) w') := by
  have hg := stepGR_op (P := P) (b := b) (k := k) (cs := cs) (w := w) (rest := rest) ho hw
  rw [Oper.semAt_eq _ _ _ hnd] at hg
  exact .one (step_lone_go (by rw [hg]; simp [stepG.apply, hr, Frame.atR]))
theorem step_defer_op {d : Deferred} (hb : b.roundOf = none) (ho : ops[i]? = some o) (hw : Region.wanted o (yielded ops a.tmps) = true) (hr : (execOp a.eval o).run P w = .ok (.defer d) w') :
    Steps P (lone (b.atR a (.inRegion ops (i :: rest) :: k)) cs w) (lone (b.atR ({ a with defers := d :: a.defers }.put o.dst Go.undef) (.inRegion ops rest :: k)) cs w') := by
  have hg := stepGR_op (P := P) (b := b) (k := k) (cs := cs) (w := w) (rest := rest) ho hw
  rw [hb, Oper.semAt_none] at hg
  have : ({ b.atR a (.inRegion ops (i :: rest) :: k) with defers := d :: a.defers } : Frame).finish Go.undef = b.atR ({ a with defers := d :: a.defers }.put o.dst Go.undef) (.inRegion ops rest :: k) := by
    have := Frame.finish_atR b { a with defers := d :: a.defers } ops i rest k Go.undef
    rw [ho] at this; exact this
  refine .one (step_lone_go ?_)
  rw [hg]; simp only [stepG.apply, Sem.runT_eq, hr, GStep.bare_after]
  exact congrArg (fun fr => GStep.go { frame := fr, callers := cs, status := .running, dying := none } w') this
theorem step_recover (hb : b.roundOf = none) (ho : ops[i]? = some o) (hw : Region.wanted o (yielded ops a.tmps) = true) (hnd : ∀ c, o.op ≠ .defer c) (hr : (execOp a.eval o).run P w = .ok .recover w')
    (ht : tryRecover (b.atR a (.inRegion ops (i :: rest) :: k)) cs = none) :
    Steps P (lone (b.atR a (.inRegion ops (i :: rest) :: k)) cs w) (lone (b.atR (a.put o.dst .nilIface) (.inRegion ops rest :: k)) cs w') := by
  have hg := stepGR_op (P := P) (b := b) (k := k) (cs := cs) (w := w) (rest := rest) ho hw
  rw [Oper.semAt_eq _ _ _ hnd] at hg
  have hfin : (b.atR a (.inRegion ops (i :: rest) :: k)).finish .nilIface = b.atR (a.put o.dst .nilIface) (.inRegion ops rest :: k) := by
    rw [Frame.finish_atR, ho]; rfl
  refine .one (step_lone_go ?_)
  have hro : (b.atR a (.inRegion ops (i :: rest) :: k)).roundOf = none := hb
  rw [hg, ← hfin]
  simp only [stepG.apply, Sem.runT_eq, hr, hro, ht, GStep.bare_after]
  rfl
end
end Go.AM
namespace Go.AM
open Go

section
variable {P : Program} {nt : Nat} {ops : Array Oper}
theorem memb_iff {n : Nat} : ∀ {l : List Nat}, memb n l = true ↔ n ∈ l
  | [] => by simp [memb]
  | m :: r => by
    simp only [memb, Bool.or_eq_true, List.mem_cons, memb_iff (l := r)]
    constructor
    · rintro (h | h)
      · exact .inl (Nat.eq_of_beq_eq_true h).symm
      · exact .inr h
    · rintro (h | h)
      · exact .inl (by rw [h]; exact Nat.beq_refl _)
      · exact .inr h
theorem memb_false {n : Nat} {l : List Nat} : memb n l = false ↔ n ∉ l := by
  rw [← memb_iff]; simp
/-! ### What comes before what -/
/-- i waits for j, at once or by others -/
inductive Waits (ops : Array Oper) : Nat → Nat → Prop where
  | one {i : Nat} {o : Oper} {e : Edge} (ho : ops[i]? = some o) (he : e ∈ o.after) (hb : Region.binds .any e = true) : Waits ops i e.on
  | more {i j : Nat} {o : Oper} {e : Edge} (ho : ops[i]? = some o) (he : e ∈ o.after) (hb : Region.binds .any e = true) (h : Waits ops e.on j) : Waits ops i j
/-- closed: with an operation all that it waits for -/
def Shut (ops : Array Oper) (D : Nat → Prop) : Prop := ∀ i, D i → ∀ o, ops[i]? = some o → ∀ e ∈ o.after, Region.binds .any e = true → D e.on
theorem Waits.shut {D : Nat → Prop} (hD : Shut ops D) : ∀ {i j : Nat}, Waits ops i j → (∀ o, ops[i]? = some o → ∀ e ∈ o.after, Region.binds .any e = true → D e.on) → D j
  | _, _, .one ho he hb, h => h _ ho _ he hb
  | _, _, .more ho he hb w, h => w.shut hD (hD _ (h _ ho _ he hb))
theorem before_waits : ∀ (i j : Nat), ((Region.before ops).getD i 0).testBit j = true → Waits ops i j := by
  have inner : ∀ (acc : Array Nat) (i : Nat) (o : Oper), ops[i]? = some o → (∀ k j, ((acc.getD k 0).testBit j = true → Waits ops k j)) → ∀ (es : List Edge) (s : Nat), (∀ e ∈ es, e ∈ o.after) → (∀ j, s.testBit j = true → Waits ops i j) →
      ∀ j, (es.foldl (fun s e => if Region.binds .any e then s ||| 2 ^ e.on ||| acc.getD e.on 0 else s) s).testBit j = true → Waits ops i j := by
    intro acc i o ho hacc es
    induction es with
    | nil => intro s _ hs j hj; exact hs j hj
    | cons e es ih =>
      intro s hes hs j hj
      rw [List.foldl_cons] at hj
      refine ih _ (fun e' he' => hes e' (List.mem_cons_of_mem _ he')) (fun j hj => ?_) j hj
      by_cases hb : Region.binds .any e = true
      · rw [if_pos hb, Nat.testBit_or, Nat.testBit_or] at hj
        simp only [Bool.or_eq_true] at hj
        rcases hj with (hj | hj) | hj
        · exact hs j hj
        · rw [Nat.testBit_two_pow] at hj
          have : e.on = j := by simpa using hj
          subst this
          exact .one ho (hes e (List.mem_cons_self ..)) hb
        · exact .more ho (hes e (List.mem_cons_self ..)) hb (hacc _ _ hj)
      · rw [if_neg hb] at hj; exact hs j hj
  have outer : ∀ (l : List Oper) (acc : Array Nat), (∀ k, k < acc.size + l.length → ops[k]? ≠ none) → (∀ k o, l[k]? = some o → ops[acc.size + k]? = some o) → (∀ k j, ((acc.getD k 0).testBit j = true → Waits ops k j)) →
      ∀ k j, (((l.foldl (fun acc o => acc.push (o.after.foldl (fun s e => if Region.binds .any e then s ||| 2 ^ e.on ||| acc.getD e.on 0 else s) 0)) acc).getD k 0).testBit j = true → Waits ops k j) := by
    intro l
    induction l with
    | nil => intro acc _ _ hacc; exact hacc
    | cons o l ih =>
      intro acc hsz hl hacc
      rw [List.foldl_cons]
      refine ih _ (fun k hk => hsz k (by simp at hk ⊢; omega)) (fun k o' hk => ?_) (fun k j hj => ?_)
      · have := hl (k + 1) o' (by simpa using hk)
        simp only [Array.size_push]
        rw [show acc.size + 1 + k = acc.size + (k + 1) by omega]; exact this
      · rw [Array.getD_eq_getD_getElem?, Array.getElem?_push] at hj
        split at hj
        · rename_i hk
          have ho := hl 0 o rfl
          rw [Nat.add_zero] at ho
          rw [hk]
          rw [← Array.foldl_toList] at hj
          exact inner acc acc.size o ho hacc o.after.toList 0 (fun e he => by simpa using he) (fun j hj => by simp at hj) j hj
        · exact hacc k j (by rw [Array.getD_eq_getD_getElem?]; exact hj)
  intro i j h
  unfold Region.before at h
  rw [← Array.foldl_toList] at h
  exact outer ops.toList #[] (fun k hk => by simp at hk; simp [hk]) (fun k o hk => by simpa using hk) (fun k j hj => by simp at hj) i j h
/-- the model's order -/
def Lin (ops : Array Oper) : (Nat → Prop) → List Nat → Prop
  | D, [] => ∀ i o, ops[i]? = some o → ¬ D i → ∃ e ∈ o.after, Region.binds .any e = true ∧ ¬ D e.on
  | D, i :: r => i < ops.size ∧ ¬ D i ∧ (∀ o, ops[i]? = some o → ∀ e ∈ o.after, Region.binds .any e = true → D e.on) ∧ Lin ops (fun j => D j ∨ j = i) r
theorem Lin.congr : ∀ {π : List Nat} {D D' : Nat → Prop}, (∀ i, D i ↔ D' i) → Lin ops D π → Lin ops D' π
  | [], D, D', h, hl => fun i o ho hn => let ⟨e, h1, h2, h3⟩ := hl i o ho (fun hd => hn ((h i).1 hd)); ⟨e, h1, h2, fun hd => h3 ((h _).2 hd)⟩
  | i :: π, D, D', h, ⟨h1, h2, h3, h4⟩ => ⟨h1, fun hd => h2 ((h i).2 hd), fun o ho e he hb => (h _).1 (h3 o ho e he hb), Lin.congr (fun j => by rw [h j]) h4⟩
theorem lin_of_go : ∀ (fuel t : Nat) (listed : Array Bool), listed.size = ops.size → (listed.toList.count false ≤ fuel) → Lin ops (fun i => listed.getD i false = true) (Region.linearise.go .any ops fuel t listed []) := by
  have noneReady : ∀ listed : Array Bool, listed.size = ops.size → Region.ready .any ops listed = [] → ∀ i o, ops[i]? = some o → ¬ (listed.getD i false = true) → ∃ e ∈ o.after, Region.binds .any e = true ∧ ¬ (listed.getD e.on false = true) := by
    intro listed hs hr i o ho hn
    apply Classical.byContradiction
    intro hcon
    have hi : i < ops.size := (Array.getElem?_eq_some_iff.1 ho).1
    have : i ∈ Region.ready .any ops listed := by
      unfold Region.ready
      rw [List.mem_filter]
      refine ⟨List.mem_range.2 hi, ?_⟩
      have hl : i < listed.size := by omega
      have h1 : listed.getD i true = false := by
        rw [Array.getD_eq_getD_getElem?, Array.getElem?_eq_getElem hl]
        rw [Array.getD_eq_getD_getElem?, Array.getElem?_eq_getElem hl] at hn
        simpa using hn
      have h2 : o.after.all (fun e => !Region.binds .any e || listed.getD e.on false) = true := by
        rw [Array.all_eq_true']
        intro e he
        cases hb : Region.binds .any e with
        | false => rfl
        | true =>
          cases hl : listed.getD e.on false with
          | true => rfl
          | false => exact absurd ⟨e, he, hb, by rw [hl]; simp⟩ hcon
      rw [h1, ho, Option.map_some, Option.getD_some, h2]; rfl
    rw [hr] at this
    cases this
  intro fuel
  induction fuel with
  | zero =>
    intro t listed hs hc
    have hall : ∀ i, i < ops.size → listed.getD i false = true := by
      intro i hi
      have hl : i < listed.size := by omega
      have : false ∉ listed.toList := List.count_eq_zero.1 (by omega)
      rw [Array.getD_eq_getD_getElem?, Array.getElem?_eq_getElem hl]
      cases hv : listed[i] with
      | true => rfl
      | false => exact absurd (by rw [← hv]; exact Array.getElem_mem_toList hl) this
    intro i o ho hn
    exact absurd (hall i (Array.getElem?_eq_some_iff.1 ho).1) hn
  | succ fuel ih =>
    intro t listed hs hc
    simp only [Region.linearise.go]
    change Lin ops _ (match (Region.ready .any ops listed)[t % (Region.ready .any ops listed).length]? with
      | some i => Region.linearise.go .any ops fuel (t / (Region.ready .any ops listed).length) (listed.setIfInBounds i true) [i]
      | none => [].reverse)
    cases hi : (Region.ready .any ops listed)[t % (Region.ready .any ops listed).length]? with
    | none =>
      have hnil : Region.ready .any ops listed = [] := by
        cases hr : Region.ready .any ops listed with
        | nil => rfl
        | cons x xs =>
          rw [hr] at hi
          have hlt : t % (x :: xs).length < (x :: xs).length := Nat.mod_lt _ (by simp)
          simp at hi
          simp at hlt
          omega
      exact noneReady listed hs hnil
    | some i =>
      have hm := List.mem_of_getElem? hi
      unfold Region.ready at hm
      rw [List.mem_filter] at hm
      obtain ⟨h1, h2⟩ := hm
      have h1 := List.mem_range.1 h1
      simp only [Bool.and_eq_true, Bool.not_eq_true'] at h2
      obtain ⟨h2, h3⟩ := h2
      have hl : i < listed.size := by omega
      have hfalse : listed[i] = false := by
        rw [Array.getD_eq_getD_getElem?, Array.getElem?_eq_getElem hl] at h2
        simpa using h2
      show Lin ops _ (Region.linearise.go .any ops fuel (t / (Region.ready .any ops listed).length) (listed.setIfInBounds i true) [i])
      rw [linearise_go_acc, List.reverse_singleton, List.singleton_append]
      refine ⟨h1, ?_, ?_, ?_⟩
      · show ¬ (listed.getD i false = true)
        rw [Array.getD_eq_getD_getElem?, Array.getElem?_eq_getElem hl, hfalse]; simp
      · intro o ho e he hb
        rw [ho] at h3
        simp only [Option.map_some, Option.getD_some] at h3
        have := Array.all_eq_true'.1 h3 e he
        rw [hb] at this
        simpa using this
      · refine Lin.congr (fun j => ?_) (ih (t / (Region.ready .any ops listed).length) (listed.setIfInBounds i true) (by simpa using hs) ?_)
        · show (listed.setIfInBounds i true).getD j false = true ↔ (listed.getD j false = true ∨ j = i)
          rw [Array.getD_eq_getD_getElem?, Array.getD_eq_getD_getElem?]
          by_cases hj : i = j
          · subst hj
            rw [Array.getElem?_setIfInBounds_self_of_lt hl]; simp
          · rw [Array.getElem?_setIfInBounds_ne hj]
            constructor
            · exact .inl
            · rintro (h | h)
              · exact h
              · exact absurd h.symm hj
        · rw [Array.toList_setIfInBounds]
          have hlt : i < listed.toList.length := by simpa using hl
          rw [List.count_set hlt]
          have : listed.toList[i] = false := by simpa using hfalse
          have hpos : 0 < listed.toList.count false := List.count_pos_iff.2 (by rw [← this]; exact List.getElem_mem hlt)
          rw [this]
          simp only [BEq.rfl, if_true]
          rw [if_neg (by decide)]
          omega
theorem lin_schedule (hm : P.follows .mixedOrders = true) (t : Nat) : Lin ops (fun _ => False) (Region.schedule (P.follows .mixedOrders) ops t) := by
  simp only [Region.schedule, hm, Bool.true_or, if_true, Region.linearise]
  refine Lin.congr (fun i => ?_) (lin_of_go ops.size t (Array.replicate ops.size false) (by simp) (by simp))
  rw [Array.getD_eq_getD_getElem?, Array.getElem?_replicate]
  split <;> simp
end
end Go.AM
namespace Go.AM
open Go

mutual
theorem beqV_eq : ∀ (x y : AV), beqV x y = true → x = y
  | .i k n, y, h => by
    cases y <;> simp [beqV] at h
    obtain ⟨h1, h2⟩ := h
    rw [h1, h2]
  | .b c, y, h => by cases y <;> simp [beqV] at h; rw [h]
  | .s l, y, h => by cases y <;> simp [beqV] at h; rw [h]
  | .p o i, y, h => by cases y <;> simp [beqV] at h; rw [h.1, h.2]
  | .np, y, h => by cases y <;> simp [beqV] at h; rfl
  | .sl o i l c, y, h => by cases y <;> simp [beqV] at h; rw [h.1.1.1, h.1.1.2, h.1.2, h.2]
  | .ns, y, h => by cases y <;> simp [beqV] at h; rfl
  | .m o, y, h => by cases y <;> simp [beqV] at h; rw [h]
  | .nm, y, h => by cases y <;> simp [beqV] at h; rfl
  | .fn f l, y, h => by
    cases y <;> simp [beqV] at h
    rw [h.1, beqVs_eq l _ h.2]
  | .yl o, y, h => by cases y <;> simp [beqV] at h; rw [h]
  | .nf, y, h => by cases y <;> simp [beqV] at h; rfl
  | .ifc t v, y, h => by
    cases y <;> simp [beqV] at h
    rw [h.1, beqV_eq v _ h.2]
  | .ni, y, h => by cases y <;> simp [beqV] at h; rfl
  | .x n, y, h => by cases y <;> simp [beqV] at h; rw [h]
  | .xi n k r m, y, h => by cases y <;> simp [beqV] at h; rw [h.1.1.1, h.1.1.2, h.1.2, h.2]
  | .l k n, y, h => by cases y <;> simp [beqV] at h; rw [h.1, h.2]
  | .q o i n, y, h => by cases y <;> simp [beqV] at h; rw [h.1.1, h.1.2, h.2]
  | .t l, y, h => by
    cases y <;> simp [beqV] at h
    rw [beqVs_eq l _ h]
  | .f n m, y, h => by cases y <;> simp [beqV] at h; rw [h.1, h.2]
  | .z n m, y, h => by cases y <;> simp [beqV] at h; rw [h.1, h.2]
  | .ag l, y, h => by
    cases y <;> simp [beqV] at h
    rw [beqVs_eq l _ h]
  | .tu l, y, h => by
    cases y <;> simp [beqV] at h
    rw [beqVs_eq l _ h]
theorem beqVs_eq : ∀ (l m : List AV), beqVs l m = true → l = m
  | [], m, h => by cases m <;> simp [beqVs] at h; rfl
  | x :: r, m, h => by
    cases m <;> simp [beqVs] at h
    rw [beqV_eq x _ h.1, beqVs_eq r _ h.2]
end
theorem inj_of_nodup {α β : Type} {f : α → β} : ∀ {l : List α}, (l.map f).Nodup → ∀ {x y : α}, x ∈ l → y ∈ l → f x = f y → x = y
  | [], _, x, _, hx, _, _ => by cases hx
  | a :: l, hn, x, y, hx, hy, h => by
    simp only [List.map_cons, List.nodup_cons] at hn
    rcases List.mem_cons.1 hx with ex | hx
    · rcases List.mem_cons.1 hy with ey | hy
      · rw [ex, ey]
      · exact absurd (List.mem_map.2 ⟨y, hy, by rw [← h, ex]⟩) hn.1
    · rcases List.mem_cons.1 hy with ey | hy
      · exact absurd (List.mem_map.2 ⟨x, hx, by rw [h, ey]⟩) hn.1
      · exact inj_of_nodup hn.2 hx hy h

section
variable {P : Program} {nt : Nat} {ops : Array Oper}
theorem trH_op {dr : Bool} {ps : String} {op : Op} {i : I} (h : trH P dr ps op = .op i) : i = trI P dr ps op := by
  unfold trH at h
  split at h
  · split at h
    · cases h
    · split at h
      · cases h
      · injection h with h; exact h.symm
    · split at h
      · cases h
      · cases h
    · split at h <;> cases h
    · injection h with h; exact h.symm
  · split at h
    · split at h
      · cases h
      · cases h
    · split at h
      · cases h
      · cases h
    · cases h
  · injection h with h; exact h.symm
theorem cls_of {dr : Bool} {o : Oper} {i : I} (h : trH P dr o.pos o.op = .op i) : Cls P o i := by rw [trH_op h]; exact cls_ok
/-- what is known of an operation of a drawn region by its text -/
structure Fitd (P : Program) (nt : Nat) (ops : Array Oper) (i : Nat) (o : Oper) (g : Gd) (d : Ds) : Prop where
  ho : ops[i]? = some o
  hg : trG ops o = some g
  hd : trD nt o = some d
  lt : ∀ t ∈ rdOf P ops o, t < 512
  rd : ∀ j o' t, ops[j]? = some o' → o'.dst = some t → t ∈ rdOf P ops o → Waits ops i j ∨ Waits ops j i
  ds : ∀ j o' t, ops[j]? = some o' → o'.dst = some t → i = j ∨ o.dst ≠ some t
theorem fitL_ok {done : List Nat} {i : Nat} (h : fitL P nt ops (Region.before ops) done i = true) : (∃ o g d, Fitd P nt ops i o g d) ∧ i ∉ done ∧ ∀ o, ops[i]? = some o → ∀ e ∈ o.after, Region.binds .any e = true → e.on ∈ done := by
  unfold fitL at h
  cases ho : ops[i]? with
  | none => rw [ho] at h; cases h
  | some o =>
    rw [ho] at h
    simp only [Bool.and_eq_true, Bool.not_eq_true'] at h
    obtain ⟨⟨⟨⟨⟨h1, h2⟩, h3⟩, h4⟩, h5⟩, h6⟩ := h
    obtain ⟨g, hg⟩ := Option.isSome_iff_exists.1 h2
    obtain ⟨d, hd⟩ := Option.isSome_iff_exists.1 h3
    have key : ∀ j o' t, ops[j]? = some o' → o'.dst = some t → ((memb t (rdOf P ops o) = false ∨ ((Region.before ops).getD i 0).testBit j = true) ∨ ((Region.before ops).getD j 0).testBit i = true) ∧ (i = j ∨ o.dst ≠ some t) := by
      intro j o' t ho' ht
      have hj : j < ops.size := (Array.getElem?_eq_some_iff.1 ho').1
      have := List.all_eq_true.1 h6 j (List.mem_range.2 hj)
      simp only [ho', ht, Bool.and_eq_true, Bool.or_eq_true, Bool.not_eq_true'] at this
      obtain ⟨q1, q2⟩ := this
      refine ⟨q1, ?_⟩
      rcases q2 with q2 | q2
      · exact .inl (Nat.eq_of_beq_eq_true q2)
      · right
        intro hod
        rw [hod] at q2
        have q2 : (!Nat.beq t t) = true := q2
        have : Nat.beq t t = true := Nat.beq_refl t
        rw [this] at q2; cases q2
    refine ⟨⟨o, g, d, ho, hg, hd, fun t ht => ?_, fun j o' t ho' hd' hm => ?_, fun j o' t ho' hd' => (key j o' t ho' hd').2⟩, memb_false.1 h1, fun o' ho' e he hb => ?_⟩
    · have := List.all_eq_true.1 h4 t ht
      simpa [Nat.blt_eq] using this
    · rcases (key j o' t ho' hd').1 with (h | h) | h
      · exact absurd hm (memb_false.1 h)
      · exact .inl (before_waits i j h)
      · exact .inr (before_waits j i h)
    · injection ho' with ho'; subst ho'
      have := List.all_eq_true.1 h5 e (by simpa using he)
      rw [hb] at this
      simpa using memb_iff.1 (by simpa using this)
theorem fitB_ok {i : Nat} (h : fitB P ops (Region.before ops) i = true) {o : Oper} (ho : ops[i]? = some o) : ∀ j o' t, ops[j]? = some o' → o'.dst = some t → t ∈ rdOf P ops o → Waits ops i j := by
  intro j o' t ho' ht hm
  unfold fitB at h
  rw [ho] at h
  have hj : j < ops.size := (Array.getElem?_eq_some_iff.1 ho').1
  have := List.all_eq_true.1 h j (List.mem_range.2 hj)
  simp only [ho', ht, Bool.or_eq_true, Bool.not_eq_true'] at this
  rcases this with h | h
  · exact absurd hm (memb_false.1 h)
  · exact before_waits i j h
/-- the temporaries as operation i read them: those that are written by operations ahead stand so in en, those that are written behind stand so in enM -/
def EnI (ops : Array Oper) (i : Nat) (rd : List Nat) (eni en enM : Env) : Prop := ∀ t ∈ rd,
  ((∀ j oj, ops[j]? = some oj → oj.dst = some t → Waits ops i j) ∧ getL AV 3 t eni = getL AV 3 t en) ∨
  ((∃ j oj, ops[j]? = some oj ∧ oj.dst = some t ∧ Waits ops j i ∧ ¬ Waits ops i j) ∧ getL AV 3 t eni = getL AV 3 t enM)
/-- operation i has been carried out by the machine, and not by the model -/
def Pend (P : Program) (ops : Array Oper) (qs : List (Nat × Nat × AO)) (st : List Nat) (h : H) (en enM : Env) (i : Nat) (o : Oper) (g : Gd) (d : Ds) : Prop :=
  ∃ I eni, trH P true o.pos o.op = .op I ∧ clsI I < 3 ∧ EnI ops i (rdOf P ops o) eni en enM ∧
    ((GSays g eni false ∧ ∀ t, d = .d t → getL AV 3 t en = undef) ∨
     (GSays g eni true ∧
      ((clsI I = 0 ∧ ∃ v, (∀ t, d = .d t → getL AV 3 t en = v) ∧ ∀ h' nx' κ', dI I eni h' nx' κ' = κ' v h' nx') ∨
       (clsI I = 1 ∧ (i ∈ st ∨ ∃ v, (∀ t, d = .d t → getL AV 3 t en = v) ∧ ∀ h', Ext h h' → ∀ nx' κ', dI I eni h' nx' κ' = κ' v h' nx')) ∨
       (clsI I = 2 ∧ ∃ (a0 : AO) (vf : Nat → AV) (o' : Nat), (i, o', a0) ∈ qs ∧ (∀ t, d = .d t → getL AV 3 t en = vf o') ∧ ∀ h' nx' κ', nx' < 2097152 → dI I eni h' nx' κ' = κ' (vf nx') (setO h' nx' a0) (nx' + 1)))))
def Ord (ops : Array Oper) : List Nat → Prop
  | [] => True
  | i :: A => (∀ o, ops[i]? = some o → ∀ e ∈ o.after, Region.binds .any e = true → e.on ∈ A) ∧ Ord ops A
theorem Ord.shut : ∀ {A : List Nat}, Ord ops A → Shut ops (fun i => i ∈ A)
  | [], _, i, hi => by cases hi
  | j :: A, ⟨h1, h2⟩, i, hi => by
    intro o ho e he hb
    rcases List.mem_cons.1 hi with rfl | hi
    · exact List.mem_cons_of_mem _ (h1 o ho e he hb)
    · exact List.mem_cons_of_mem _ (h2.shut i hi o ho e he hb)
/-- a drawn region under way: A: what the machine has carried out, D: what the model has -/
structure Dr (P : Program) (nt : Nat) (ops : Array Oper) (θ : Th) (h : H) (qs : List (Nat × Nat × AO)) (L : List (Bool × Nat)) (A st : List Nat) (en enM : Env) (tmps : Array Value) (π : List Nat) (D : Nat → Prop) : Prop where
  chk : okL P nt ops (Region.before ops) L A st = true
  lin : Lin ops D π
  shut : Shut ops D
  sub : ∀ i, D i → i ∈ A
  ord : Ord ops A
  act : ∀ i ∈ A, 3 ≤ clsAt P ops i → D i
  er : ER θ enM tmps
  agr : ∀ t, t < 512 → (∀ i o, i ∈ A → ¬ D i → ops[i]? = some o → o.dst ≠ some t) → getL AV 3 t en = getL AV 3 t enM
  pend : ∀ i ∈ A, ∃ o g d, Fitd P nt ops i o g d ∧ (¬ D i → Pend P ops qs st h en enM i o g d)
theorem GSays.agree {g : Gd} {en en' : Env} (h : Agree (rdG (some g)) en en') {c : Bool} (hs : GSays g en c) : GSays g en' c := by
  cases hs with
  | yes h1 => exact .yes fun A B => by rw [← dG_agree h]; exact h1 A B
  | no h1 => exact .no fun A B => by rw [← dG_agree h]; exact h1 A B
theorem rdOf_I {o : Oper} {I : I} {g : Gd} (hI : trH P true o.pos o.op = .op I) (hg : trG ops o = some g) {en en' : Env} (h : Agree (rdOf P ops o) en en') : Agree (rdI I) en en' ∧ Agree (rdG (some g)) en en' := by
  unfold rdOf at h
  rw [hI, hg] at h
  exact ⟨h.left, h.right⟩
theorem putE_ne {d : Ds} {v : AV} {en : Env} {t : Nat} (ht : t < 512) (hn : nt ≤ 512) {o : Oper} (hd : trD nt o = some d) (hne : o.dst ≠ some t) : getL AV 3 t (putE d v en) = getL AV 3 t en := by
  rcases trD_some hd with ⟨_, rfl⟩ | ⟨s, h1, rfl, h2⟩
  · rfl
  · exact getL_setL_ne (i := s) (j := t) v 3 en (Nat.lt_of_lt_of_le h2 hn) ht (fun e => hne (by rw [h1, e]))
theorem putE_same {d : Ds} {v : AV} {en : Env} {t : Nat} (h : d = .d t) : getL AV 3 t (putE d v en) = v := by
  subst h; exact getL_setL v 3 t en
/-- what is pending stays so, where what it read stands as it stood -/
theorem Pend.move {qs : List (Nat × Nat × AO)} {st : List Nat} {h : H} {en enM en' enM' : Env} {i : Nat} {o : Oper} {g : Gd} {d : Ds} (hp : Pend P ops qs st h en enM i o g d)
    (hd : ∀ t, d = .d t → getL AV 3 t en' = getL AV 3 t en)
    (h1 : ∀ t ∈ rdOf P ops o, (∀ j oj, ops[j]? = some oj → oj.dst = some t → Waits ops i j) → getL AV 3 t en' = getL AV 3 t en)
    (h2 : ∀ t ∈ rdOf P ops o, ∀ j oj, ops[j]? = some oj → oj.dst = some t → Waits ops j i → getL AV 3 t enM' = getL AV 3 t enM) : Pend P ops qs st h en' enM' i o g d := by
  obtain ⟨I, eni, hI, hlt, hE, hp⟩ := hp
  refine ⟨I, eni, hI, hlt, fun t ht => ?_, ?_⟩
  · rcases hE t ht with ⟨q1, q2⟩ | ⟨⟨j, oj, q1, q2, q3, q4⟩, q5⟩
    · exact .inl ⟨q1, by rw [h1 t ht q1]; exact q2⟩
    · exact .inr ⟨⟨j, oj, q1, q2, q3, q4⟩, by rw [h2 t ht j oj q1 q2 q3]; exact q5⟩
  · rcases hp with ⟨p1, p2⟩ | ⟨p1, p2⟩
    · exact .inl ⟨p1, fun t ht => by rw [hd t ht]; exact p2 t ht⟩
    · refine .inr ⟨p1, ?_⟩
      rcases p2 with ⟨c, v', q1, q2⟩ | ⟨c, hs | ⟨v', q1, q2⟩⟩ | ⟨c, a0, vf, o', q1, q2, q3⟩
      · exact .inl ⟨c, v', fun t ht => by rw [hd t ht]; exact q1 t ht, q2⟩
      · exact .inr (.inl ⟨c, .inl hs⟩)
      · exact .inr (.inl ⟨c, .inr ⟨v', fun t ht => by rw [hd t ht]; exact q1 t ht, q2⟩⟩)
      · exact .inr (.inr ⟨c, a0, vf, o', q1, fun t ht => by rw [hd t ht]; exact q2 t ht, q3⟩)
/-- what is pending stays so, where one more is carried out by the machine -/
theorem Pend.put {qs : List (Nat × Nat × AO)} {st : List Nat} {h : H} {en enM enM' : Env} {i : Nat} {o : Oper} {g : Gd} {d : Ds} (hn : nt ≤ 512) (hf : Fitd P nt ops i o g d) (hp : Pend P ops qs st h en enM i o g d)
    {j : Nat} {oj : Oper} {dj : Ds} {v : AV} (hoj : ops[j]? = some oj) (hdj : trD nt oj = some dj) (hij : i ≠ j) (hw : ¬ Waits ops i j)
    (h2 : ∀ t ∈ rdOf P ops o, ∀ j oj, ops[j]? = some oj → oj.dst = some t → Waits ops j i → getL AV 3 t enM' = getL AV 3 t enM) : Pend P ops qs st h (putE dj v en) enM' i o g d := by
  refine hp.move (fun t ht => ?_) (fun t ht hb => ?_) h2
  · rcases trD_some hf.hd with ⟨_, h2⟩ | ⟨s, h1, h2, h3⟩
    · rw [h2] at ht; cases ht
    · rw [h2] at ht; injection ht with ht; subst ht
      refine putE_ne (Nat.lt_of_lt_of_le h3 hn) hn hdj (fun e => ?_)
      rcases hf.ds j oj s hoj e with h | h
      · exact hij h
      · exact h h1
  · exact putE_ne (hf.lt t ht) hn hdj (fun e => hw (hb j oj hoj e))
/-- what another operation writes is not what a later one writes -/
theorem Fitd.keep {j : Nat} {oj : Oper} {gj : Gd} {dj : Ds} (hn : nt ≤ 512) (fj : Fitd P nt ops j oj gj dj) {i : Nat} (hw : ¬ Waits ops j i) {v : AV} {enM : Env} {t : Nat} (ht : t < 512) :
    ∀ k ok, ops[k]? = some ok → ok.dst = some t → Waits ops k i → getL AV 3 t (putE dj v enM) = getL AV 3 t enM := by
  intro k ok hk hkt hki
  refine putE_ne ht hn fj.hd (fun e => ?_)
  rcases fj.ds k ok t hk hkt with h | h
  · subst h; exact hw hki
  · exact h e
theorem Pend.ext {qs qs' : List (Nat × Nat × AO)} {st : List Nat} {h h' : H} {en enM : Env} {i : Nat} {o : Oper} {g : Gd} {d : Ds} (hp : Pend P ops qs st h en enM i o g d) (hx : Ext h h') (hq : ∀ x ∈ qs, x.1 = i → x ∈ qs') : Pend P ops qs' st h' en enM i o g d := by
  obtain ⟨I, eni, hI, hlt, hE, hp⟩ := hp
  refine ⟨I, eni, hI, hlt, hE, hp.imp id fun ⟨p1, p2⟩ => ⟨p1, ?_⟩⟩
  rcases p2 with p2 | ⟨c, hs | ⟨v', q1, q2⟩⟩ | ⟨c, a0, vf, o', q1, q2, q3⟩
  · exact .inl p2
  · exact .inr (.inl ⟨c, .inl hs⟩)
  · exact .inr (.inl ⟨c, .inr ⟨v', q1, fun h'' hx' => q2 h'' (fun o a e => hx' o a (hx o a e))⟩⟩)
  · exact .inr (.inr ⟨c, a0, vf, o', hq _ q1 rfl, q2, q3⟩)
section
variable {θ : Th} {h : H} {qs : List (Nat × Nat × AO)} {L : List (Bool × Nat)} {A st : List Nat} {en enM : Env} {a : Act} {π : List Nat} {D : Nat → Prop} {w0 w : World} {pd : List (Nat × AO)} {nx : Nat} {b : Frame} {k : List Item} {cs : List Frame}
/-- what the model's next operation reads stands there -/
theorem Dr.agree {i : Nat} (hD : Dr P nt ops θ h qs L A st en enM a.tmps (i :: π) D) (hia : i ∉ A) {o : Oper} {g : Gd} {d : Ds} (hf : Fitd P nt ops i o g d) : Agree (rdOf P ops o) en enM := by
  intro t ht
  refine hD.agr t (hf.lt t ht) fun j oj hj hnd hoj hdst => ?_
  rcases hf.rd j oj t hoj hdst ht with h | h
  · exact hnd (h.shut hD.shut hD.lin.2.2.1)
  · exact hia (h.shut hD.ord.shut (fun o ho e he hb => hD.ord.shut j hj o ho e he hb))
/-- what one that is pending read stands there for the model -/
theorem Dr.agreeP {i : Nat} (hD : Dr P nt ops θ h qs L A st en enM a.tmps (i :: π) D) {o : Oper} {g : Gd} {d : Ds} (hf : Fitd P nt ops i o g d) {eni : Env} (hE : EnI ops i (rdOf P ops o) eni en enM) : Agree (rdOf P ops o) eni enM := by
  intro t ht
  rcases hE t ht with ⟨h1, h2⟩ | ⟨_, h2⟩
  · rw [h2]
    exact hD.agr t (hf.lt t ht) fun j oj hj hnd hoj hdst => hnd ((h1 j oj hoj hdst).shut hD.shut hD.lin.2.2.1)
  · exact h2
/-- one that is pending is carried out -/
theorem dr_one {j : Nat} (hD : Dr P nt ops θ h qs L A [] en enM a.tmps (j :: π) D) (hj : j ∈ A) (hR : HR P w0 (qs.map (·.2) ++ pd) θ h nx w) (hsz : nt ≤ a.tmps.size) (hn : nt ≤ 512) :
    ∃ θ' w' qs' enM' a', θ.le θ' ∧ Steps P (lone (b.atR a (.inRegion ops (j :: π) :: k)) cs w) (lone (b.atR a' (.inRegion ops π :: k)) cs w') ∧ HR P w0 (qs'.map (·.2) ++ pd) θ' h nx w' ∧
      Dr P nt ops θ' h qs' L A [] en enM' a'.tmps π (fun x => D x ∨ x = j) ∧ a'.tmps.size = a.tmps.size ∧ a'.defers = a.defers := by
  obtain ⟨hlt, hnd, hdeps, hlin⟩ := hD.lin
  obtain ⟨o, g, d, hf, hpend⟩ := hD.pend j hj
  obtain ⟨I, eni, hI, hcl, hEni, hp⟩ := hpend hnd
  have hag := hD.agreeP hf hEni
  obtain ⟨a1, a2⟩ := rdOf_I hI hf.hg hag
  have hI' : dI I enM = dI I eni := (dI_agree a1).symm
  have hcls := cls_of hI
  -- what is left
  have fin' : ∀ {θ' : Th} {w' : World} {qs' : List (Nat × Nat × AO)} {v : AV} {u : Value}, θ.le θ' → VR θ' v u → (∀ t, d = .d t → getL AV 3 t en = v) → (∀ x ∈ qs, x.1 ≠ j → x ∈ qs') →
      Dr P nt ops θ' h qs' L A [] en (putE d v enM) (a.put o.dst u).tmps π (fun x => D x ∨ x = j) := by
    intro θ' w' qs' v u hle hvr hval hq
    refine ⟨hD.chk, hlin, ?_, ?_, hD.ord, fun i hi hc => .inl (hD.act i hi hc), er_put hf.hd (hD.er.mono hle) hsz hn hvr, ?_, ?_⟩
    · rintro i (hi | rfl) o' ho' e he hb
      · exact .inl (hD.shut i hi o' ho' e he hb)
      · exact .inl (hdeps o' ho' e he hb)
    · rintro i (hi | rfl)
      · exact hD.sub i hi
      · exact hj
    · intro t ht hno
      by_cases e : o.dst = some t
      · rcases trD_some hf.hd with ⟨h1, _⟩ | ⟨s, h1, h2, _⟩
        · rw [h1] at e; cases e
        · rw [h1] at e; injection e with e
          have hd : d = .d t := by rw [h2]; exact congrArg Ds.d e
          rw [putE_same hd]; exact hval t hd
      · rw [putE_ne ht hn hf.hd e]
        refine hD.agr t ht fun i o' hi hnd' ho' => ?_
        by_cases hij : i = j
        · subst hij
          rw [hf.ho] at ho'; injection ho' with ho'; subst ho'; exact e
        · exact hno i o' hi (fun h => h.elim hnd' hij) ho'
    · intro i hi
      obtain ⟨o', g', d', hf', hp'⟩ := hD.pend i hi
      refine ⟨o', g', d', hf', fun hnd' => ?_⟩
      have hwj : ¬ Waits ops j i := fun hw => hnd' (.inl (hw.shut hD.shut hdeps))
      exact ((hp' fun h => hnd' (.inl h)).move (fun _ _ => rfl) (fun _ _ _ => rfl) (fun t ht => hf.keep hn hwj (hf'.lt t ht))).ext (Ext.refl h) (fun x hx hxi => hq x hx (fun e => hnd' (.inr (hxi ▸ e))))
  rcases hp with ⟨p1, p2⟩ | ⟨p1, p2⟩
  · have p1' := p1.agree a2
    have hw : Region.wanted o (yielded ops a.tmps) = false := by
      have e : dG g enM false true = true := by cases p1' with | no h => exact h _ _
      rcases gd_ok hf.hg hD.er e with ⟨_, h, _⟩ | ⟨_, _, h⟩
      · cases h
      · exact h
    exact ⟨θ, w, qs, _, _, .refl θ, step_unwanted hf.ho hw, hR, fin' (w' := w) (.refl θ) (vr_undef θ) p2 (fun x hx _ => hx), put_size, put_defers⟩
  · have p1' := p1.agree a2
    have hw : Region.wanted o (yielded ops a.tmps) = true := by
      have e : dG g enM true false = true := by cases p1' with | yes h => exact h _ _
      rcases gd_ok hf.hg hD.er e with ⟨_, _, h⟩ | ⟨_, h, _⟩
      · exact h
      · cases h
    rcases p2 with ⟨c, v, q1, q2⟩ | ⟨c, hs | ⟨v, q1, q2⟩⟩ | ⟨c, a0, vf, o', q1, q2, q3⟩
    · unfold Cls at hcls
      rw [c] at hcls
      obtain ⟨v', k1, k2⟩ := hcls enM h nx (fun _ _ _ => true) (by rw [hI', q2])
      obtain ⟨u, k3, k4⟩ := k2 θ a w hD.er
      have hv : v' = v := by
        have := k1 h nx (is1 v)
        rw [hI', q2] at this
        have h2 : is1 v v h nx = true := by simp [is1]
        rw [h2] at this
        simpa [is1] using this.symm
      subst hv
      exact ⟨θ, w, qs, _, _, .refl θ, step_value hf.ho hw k4 rfl, hR, fin' (w' := w) (.refl θ) k3 q1 (fun x hx _ => hx), put_size, put_defers⟩
    · cases hs
    · unfold Cls at hcls
      rw [c] at hcls
      obtain ⟨v', k1, k2⟩ := hcls enM h nx (fun _ _ _ => true) (by rw [hI', q2 h (Ext.refl h)])
      obtain ⟨u, k3, k4⟩ := k2 θ a w w0 _ nx hD.er hR
      have hv : v' = v := by
        have := k1 h (Ext.refl h) nx (is1 v)
        rw [hI', q2 h (Ext.refl h)] at this
        have h2 : is1 v v h nx = true := by simp [is1]
        rw [h2] at this
        simpa [is1] using this.symm
      subst hv
      exact ⟨θ, w, qs, _, _, .refl θ, step_value hf.ho hw k4 rfl, hR, fin' (w' := w) (.refl θ) k3 q1 (fun x hx _ => hx), put_size, put_defers⟩
    · unfold Cls at hcls
      rw [c] at hcls
      obtain ⟨a0', vf', k0, _, _, k1, k2⟩ := hcls enM h 0 (fun _ _ _ => true) (by rw [hI', q3 h 0 _ (by omega)])
      have hmem : (o', a0) ∈ qs.map (·.2) ++ pd := List.mem_append_left _ (List.mem_map.2 ⟨_, q1, rfl⟩)
      have ho' : o' < 2097152 := Nat.lt_of_lt_of_le (hR.pend o' a0 hmem).2.1 hR.lim
      have hsame : vf' o' = vf o' ∧ a0' = a0 := by
        have := k1 h o' (fun v hh _ => @decide (v = vf o' ∧ hh = setO h o' a0) (Classical.propDecidable _)) ho'
        rw [hI', q3 h o' _ ho'] at this
        have h2 : (vf' o' = vf o' ∧ setO h o' a0' = setO h o' a0) := by simpa using this.symm
        refine ⟨h2.1, ?_⟩
        have e1 := obj_set h o' a0'
        rw [h2.2, obj_set] at e1
        injection e1 with e1; exact e1.symm
      obtain ⟨s1, s2⟩ := hsame
      subst s2
      obtain ⟨u, θ', w', m1, m2, m3, m4⟩ := k2 w0 _ θ a w h nx o' hD.er hR hmem
      rw [s1] at m2
      have hnod := hR.nodup
      rw [List.map_append, List.nodup_append] at hnod
      have hqn : (qs.map (fun x => x.2.1)).Nodup := by
        have := hnod.1
        rw [List.map_map] at this
        exact this
      refine ⟨θ', w', qs.filter (fun x => x.2.1 != o'), _, _, m1, step_value hf.ho hw m4 rfl, ?_, fin' (w' := w') m1 m2 q2 (fun x hx hxj => ?_), put_size, put_defers⟩
      · have e1 : (qs.map (·.2) ++ pd).filter (fun q => q.1 != o') = (qs.filter (fun x => x.2.1 != o')).map (·.2) ++ pd := by
          rw [List.filter_append]
          congr 1
          · rw [List.filter_map]; rfl
          · apply List.filter_eq_self.2
            intro q hq
            have : q.1 ≠ o' := fun e => hnod.2.2 o' (List.mem_map.2 ⟨(o', a0'), List.mem_map.2 ⟨_, q1, rfl⟩, rfl⟩) q.1 (List.mem_map.2 ⟨q, hq, rfl⟩) e.symm
            simpa using this
        rw [← e1]; exact m3
      · rw [List.mem_filter]
        refine ⟨hx, ?_⟩
        have : x.2.1 ≠ o' := fun e => hxj (by rw [inj_of_nodup hqn hx q1 e])
        simpa using this
theorem okL_cover : ∀ {L : List (Bool × Nat)} {A st : List Nat}, okL P nt ops (Region.before ops) L A st = true → ∀ i, i < ops.size → i ∈ A ∨ (false, i) ∈ L
  | [], A, st, h, i, hi => by
    simp only [okL, Bool.and_eq_true] at h
    exact .inl (memb_iff.1 (List.all_eq_true.1 h.2 i (List.mem_range.2 hi)))
  | (true, j) :: L, A, st, h, i, hi => by
    simp only [okL, Bool.and_eq_true] at h
    exact (okL_cover h.2 i hi).imp id (List.mem_cons_of_mem _)
  | (false, j) :: L, A, st, h, i, hi => by
    simp only [okL, Bool.and_eq_true] at h
    have : ∃ st', okL P nt ops (Region.before ops) L (j :: A) st' = true := by
      have h2 := h.2
      split at h2
      · exact ⟨_, h2⟩
      · simp only [Bool.and_eq_true] at h2; exact ⟨_, h2.2⟩
    obtain ⟨st', h2⟩ := this
    rcases okL_cover h2 i hi with h3 | h3
    · rcases List.mem_cons.1 h3 with rfl | h3
      · exact .inr (List.mem_cons_self ..)
      · exact .inl h3
    · exact .inr (List.mem_cons_of_mem _ h3)
theorem all_done : ∀ {A : List Nat}, Ord ops A → (∀ i ∈ A, ∃ o, ops[i]? = some o) → Lin ops D [] → ∀ i ∈ A, D i
  | [], _, _, _, i, hi => by cases hi
  | j :: A, ⟨h1, h2⟩, hex, hl, i, hi => by
    have ih := all_done h2 (fun i hi => hex i (List.mem_cons_of_mem _ hi)) hl
    rcases List.mem_cons.1 hi with rfl | hi
    · apply Classical.byContradiction
      intro hn
      obtain ⟨o, ho⟩ := hex i (List.mem_cons_self ..)
      obtain ⟨e, he, hb, hnd⟩ := hl i o ho hn
      exact hnd (ih _ (h1 o ho e he hb))
    · exact ih i hi
/-- the model catches up with the machine's next act -/
theorem dr_catch {i : Nat} (hi : i < ops.size) (hia : i ∉ A) (hdeps : ∀ o, ops[i]? = some o → ∀ e ∈ o.after, Region.binds .any e = true → e.on ∈ A) (hlater : ∀ j, j < ops.size → j ∉ A → j = i ∨ Waits ops j i) (hn : nt ≤ 512) :
    ∀ (π : List Nat) (θ : Th) (qs : List (Nat × Nat × AO)) (enM : Env) (a : Act) (D : Nat → Prop) (w : World), Dr P nt ops θ h qs L A [] en enM a.tmps π D → HR P w0 (qs.map (·.2) ++ pd) θ h nx w → nt ≤ a.tmps.size →
      ∃ π' θ' qs' enM' a' D' w', θ.le θ' ∧ Steps P (lone (b.atR a (.inRegion ops π :: k)) cs w) (lone (b.atR a' (.inRegion ops (i :: π') :: k)) cs w') ∧ HR P w0 (qs'.map (·.2) ++ pd) θ' h nx w' ∧
        Dr P nt ops θ' h qs' L A [] en enM' a'.tmps (i :: π') D' ∧ a'.tmps.size = a.tmps.size ∧ a'.defers = a.defers := by
  intro π
  induction π with
  | nil =>
    intro θ qs enM a D w hD hR hsz
    have hall := all_done hD.ord (fun i hi => let ⟨o, _, _, hf, _⟩ := hD.pend i hi; ⟨o, hf.ho⟩) hD.lin
    have ho : ops[i]? = some ops[i] := Array.getElem?_eq_getElem hi
    obtain ⟨e, he, hb, hnd⟩ := hD.lin i _ ho (fun hd => hia (hD.sub i hd))
    exact absurd (hall _ (hdeps _ ho e he hb)) hnd
  | cons j π ih =>
    intro θ qs enM a D w hD hR hsz
    by_cases hji : j = i
    · subst hji
      exact ⟨π, θ, qs, enM, a, D, w, .refl θ, .refl P _, hR, hD, rfl, rfl⟩
    · have hj : j ∈ A := by
        apply Classical.byContradiction
        intro hja
        rcases hlater j hD.lin.1 hja with h | h
        · exact hji h
        · exact hia (hD.sub i (h.shut hD.shut hD.lin.2.2.1))
      obtain ⟨θ', w', qs', enM', a', k1, k2, k3, k4, k5, k6⟩ := dr_one (b := b) (k := k) (cs := cs) hD hj hR hsz hn
      obtain ⟨π', θ'', qs'', enM'', a'', D'', w'', m1, m2, m3, m4, m5, m6⟩ := ih θ' qs' enM' a' _ w' k4 k3 (by omega)
      exact ⟨π', θ'', qs'', enM'', a'', D'', w'', k1.trans m1, k2.trans m2, m3, m4, m5.trans k5, m6.trans k6⟩
/-- the model catches up with the machine at the region's end -/
theorem dr_end (hall : ∀ i, i < ops.size → i ∈ A) (hn : nt ≤ 512) :
    ∀ (π : List Nat) (θ : Th) (qs : List (Nat × Nat × AO)) (enM : Env) (a : Act) (D : Nat → Prop) (w : World), Dr P nt ops θ h qs L A [] en enM a.tmps π D → HR P w0 (qs.map (·.2) ++ pd) θ h nx w → nt ≤ a.tmps.size →
      ∃ θ' a' w', θ.le θ' ∧ Steps P (lone (b.atR a (.inRegion ops π :: k)) cs w) (lone (b.atR a' k) cs w') ∧ HR P w0 pd θ' h nx w' ∧ ER θ' en a'.tmps ∧ a'.tmps.size = a.tmps.size ∧ a'.defers = a.defers := by
  intro π
  induction π with
  | nil =>
    intro θ qs enM a D w hD hR hsz
    have hdone := all_done hD.ord (fun i hi => let ⟨o, _, _, hf, _⟩ := hD.pend i hi; ⟨o, hf.ho⟩) hD.lin
    refine ⟨θ, a, w, .refl θ, .one stepR_region_end, ?_, fun t ht => ?_, rfl, rfl⟩
    · refine ⟨hR.lim, hR.own, hR.apart, hR.size, hR.kept, hR.plain, fun o a ho => hR.pend o a (List.mem_append_right _ ho), ?_, hR.fresh, hR.glo⟩
      have := hR.nodup
      rw [List.map_append, List.nodup_append] at this
      exact this.2.1
    · have := hD.agr t ht (fun i o hi hnd _ => absurd (hdone i hi) hnd)
      rw [this]
      exact hD.er t ht
  | cons j π ih =>
    intro θ qs enM a D w hD hR hsz
    obtain ⟨θ', w', qs', enM', a', k1, k2, k3, k4, k5, k6⟩ := dr_one (b := b) (k := k) (cs := cs) hD (hall j hD.lin.1) hR hsz hn
    obtain ⟨θ'', a'', w'', m1, m2, m3, m4, m5, m6⟩ := ih θ' qs' enM' a' _ w' k4 k3 (by omega)
    exact ⟨θ'', a'', w'', k1.trans m1, k2.trans m2, m3, m4, m5.trans k5, m6.trans k6⟩
/-- an act was carried out by both -/
theorem dr_act {i : Nat} (hD : Dr P nt ops θ h qs ((false, i) :: L) A [] en enM a.tmps (i :: π) D) (hcl : 3 ≤ clsAt P ops i) {o : Oper} {g : Gd} {d : Ds} (hf : Fitd P nt ops i o g d) (hsz : nt ≤ a.tmps.size) (hn : nt ≤ 512)
    {θ' : Th} (hle : θ.le θ') (h' : H) {v : AV} {u : Value} (hv : VR θ' v u) :
    ∃ st', Dr P nt ops θ' h' qs L (i :: A) st' (putE d v en) (putE d v enM) (a.put o.dst u).tmps π (fun x => D x ∨ x = i) := by
  have hchk := hD.chk
  simp only [okL, Bool.and_eq_true] at hchk
  obtain ⟨hfit, hrest⟩ := hchk
  obtain ⟨_, hia, hdepA⟩ := fitL_ok hfit
  rw [if_neg (by omega)] at hrest
  simp only [Bool.and_eq_true] at hrest
  obtain ⟨hlt, hnd, hdeps, hlin⟩ := hD.lin
  refine ⟨A.filter fun j => Nat.beq (clsAt P ops j) 1 && !(((Region.before ops).getD i 0).testBit j), hrest.2, hlin, ?_, ?_, ⟨fun o' ho' e he hb => hdepA o' ho' e he hb, hD.ord⟩, ?_, er_put hf.hd (hD.er.mono hle) hsz hn hv, ?_, ?_⟩
  · rintro j (hj | rfl) o' ho' e he hb
    · exact .inl (hD.shut j hj o' ho' e he hb)
    · exact .inl (hdeps o' ho' e he hb)
  · rintro j (hj | rfl)
    · exact List.mem_cons_of_mem _ (hD.sub j hj)
    · exact List.mem_cons_self ..
  · intro j hj hc
    rcases List.mem_cons.1 hj with rfl | hj
    · exact .inr rfl
    · exact .inl (hD.act j hj hc)
  · intro t ht hno
    by_cases e : o.dst = some t
    · rcases trD_some hf.hd with ⟨h1, _⟩ | ⟨s, h1, h2, _⟩
      · rw [h1] at e; cases e
      · rw [h1] at e; injection e with e
        have hd : d = .d t := by rw [h2]; exact congrArg Ds.d e
        rw [putE_same hd, putE_same hd]
    · rw [putE_ne ht hn hf.hd e, putE_ne ht hn hf.hd e]
      exact hD.agr t ht fun j o' hj hnd' ho' => hno j o' (List.mem_cons_of_mem _ hj) (fun h => h.elim hnd' (fun e => hia (e ▸ hj))) ho'
  · intro j hj
    rcases List.mem_cons.1 hj with rfl | hj
    · exact ⟨o, g, d, hf, fun h => absurd (.inr rfl) h⟩
    · obtain ⟨o', g', d', hf', hp'⟩ := hD.pend j hj
      refine ⟨o', g', d', hf', fun hnd' => ?_⟩
      have hji : j ≠ i := fun e => hia (e ▸ hj)
      have hw : ¬ Waits ops j i := fun h => hia (h.shut hD.ord.shut (fun o ho e he hb => hD.ord.shut j hj o ho e he hb))
      have hwi : ¬ Waits ops i j := fun hw => hnd' (.inl (hw.shut hD.shut hdeps))
      have hp := (hp' fun h => hnd' (.inl h)).put (v := v) hn hf' hf.ho hf.hd hji hw (fun t ht => hf.keep (v := v) (enM := enM) hn hwi (hf'.lt t ht))
      obtain ⟨I, eni, hI, hc, hEi, hp⟩ := hp
      refine ⟨I, eni, hI, hc, hEi, hp.imp id fun ⟨p1, p2⟩ => ⟨p1, ?_⟩⟩
      rcases p2 with p2 | ⟨c, _⟩ | p2
      · exact .inl p2
      · refine .inr (.inl ⟨c, .inl ?_⟩)
        rw [List.mem_filter]
        refine ⟨hj, ?_⟩
        have hcj : clsAt P ops j = 1 := by unfold clsAt cls; rw [hf'.ho]; simp only [hI, clsH]; exact c
        have hnb : ((Region.before ops).getD i 0).testBit j = false := by
          cases hb : ((Region.before ops).getD i 0).testBit j with
          | false => rfl
          | true => exact absurd (.inl ((before_waits i j hb).shut hD.shut hdeps)) hnd'
        rw [hcj, hnb]; rfl
      · exact .inr (.inr p2)
end
end
end Go.AM
