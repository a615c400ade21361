/-
  AM, 9: operations that only work out a value. Conditions: none.
-/
import Derived.Test.YthdnombgdnpcbaaGreatAmG
namespace Go.AM
open Go

/-- an operation that only works out a value -/
def PureOk (P : Program) (o : Oper) (f : OpF) : Prop := ∀ en h nx κ, f en h nx κ = true →
  ∃ v, (∀ h' nx' κ', f en h' nx' κ' = κ' v h' nx') ∧ ∀ θ (a : Act) w, ER θ en a.tmps → ∃ u, VR θ v u ∧ (execOp a.eval o).run P w = .ok (.value u) w

section types
variable {P : Program} {w : World}
theorem sizeT_info {t : TypeId} {k : Nat} (h : sizeT P t = some k) : ∃ i, P.info? t = some i ∧ i.size = k := by
  unfold sizeT at h
  obtain ⟨i, h1, h2⟩ := Option.map_eq_some_iff.1 h
  exact ⟨i, h1, h2⟩
theorem run_size {t : TypeId} {k : Nat} (h : sizeT P t = some k) : (sizeOf t).run P w = .ok k w := by
  obtain ⟨i, hi, rfl⟩ := sizeT_info h
  simp [sizeOf, typeInfo, hi]
theorem aggT_some {t : TypeId} {b : Bool} (h : aggT P t = some b) : ∃ d, P.underlying t = some d ∧ (isAgg t).run P w = .ok b w := by
  unfold aggT at h
  obtain ⟨d, h1, h2⟩ := Option.map_eq_some_iff.1 h
  refine ⟨d, h1, ?_⟩
  simp only [isAgg, Sem.run_bind, run_underlying h1, Result.andThen]
  subst h2
  cases d <;> rfl
theorem cellsA_ok {θ : Th} {x : AV} {v : Value} (h : VR θ x v) (h1 : (cellsA x).all one = true) : Oks θ (cellsA x) ∧ v.cells.toList = toVs θ (cellsA x) := by
  obtain ⟨h2, h3⟩ := h
  subst h3
  cases x <;> first
    | exact ⟨⟨h2, trivial⟩, rfl⟩
    | (simp [cellsA, one] at h1; done)
    | exact ⟨⟨h2, trivial⟩, cells_one (θ.ext1 _)⟩
    | exact ⟨⟨h2, trivial⟩, cells_one (toV_one rfl)⟩
    | exact ⟨h2.1, by simp [toV, Value.cells, cellsA]⟩
theorem zeroT_some {t : TypeId} {z : List AV} (h : zeroT P t = some z) : ∃ i v, P.info? t = some i ∧ i.zero = some v ∧ z.all one = true ∧ ∀ θ, Oks θ z ∧ v.cells = (toVs θ z).toArray := by
  unfold zeroT at h
  split at h
  · rename_i i hi
    split at h
    · rename_i v hv
      split at h
      · rename_i x hx
        split at h
        · rename_i h1
          injection h with h; subst h
          refine ⟨i, v, hi, hv, h1, fun θ => ?_⟩
          obtain ⟨k1, k2⟩ := cellsA_ok (ofV_ok θ hx) h1
          exact ⟨k1, by rw [← k2]⟩
        · cases h
      · cases h
    · cases h
  · cases h
theorem zeroV_some {t : TypeId} {z : AV} (h : zeroV P t = some z) : ∃ i v, P.info? t = some i ∧ i.zero = some v ∧ ∀ θ, VR θ z v := by
  unfold zeroV at h
  split at h
  · rename_i i hi
    split at h
    · rename_i v hv
      exact ⟨i, v, hi, hv, fun θ => ofV_ok θ h⟩
    · cases h
  · cases h
end types

section ops
variable {P : Program} {o : Oper} {x y : XF} {X Y : Operand}
theorem p_mv (hx : XOk x X) (ho : o.op = .move X ∨ o.op = .assign X) : PureOk P o (oMv x) := by
  intro en h nx κ e
  obtain ⟨v, hv, hr⟩ := hx en
  refine ⟨v, fun h' nx' κ' => hv _, fun θ a w hE => ⟨_, hr θ a hE, ?_⟩⟩
  rcases ho with ho | ho <;> simp [execOp, ho]
theorem p_sid {s d : TypeId} (hx : XOk x X) (hs : P.underlying s = some .string) (hd : P.underlying d = some .string) (ho : o.op = .convert s d X) : PureOk P o (oSid x) := by
  intro en h nx κ e
  obtain ⟨v, hv, hr⟩ := hx en
  simp only [oSid, hv] at e
  obtain ⟨l, rfl, e1⟩ := asS_true e
  refine ⟨.s l, fun h' nx' κ' => by simp only [oSid, hv]; rfl, fun θ a w hE => ⟨_, hr θ a hE, ?_⟩⟩
  have hX := (hr θ a hE).s.1
  simp [execOp, ho, hX, convert, run_underlying hs, run_underlying hd]
theorem p_pick {c : XF} {Cc : Operand} (hc : XOk c Cc) (hx : XOk x X) (hy : XOk y Y) (ho : o.op = .pick Cc X Y) : PureOk P o (oPick c x y) := by
  intro en h nx κ e
  obtain ⟨v, hv, hr⟩ := hx en
  obtain ⟨v2, hv2, hr2⟩ := hy en
  obtain ⟨q, hq, hrq⟩ := hc en
  simp only [oPick, hv, hv2, hq] at e
  obtain ⟨t, rfl, e1⟩ := asB_true e
  cases t with
  | true =>
    refine ⟨v, fun h' nx' κ' => ?_, fun θ a w hE => ⟨_, hr θ a hE, ?_⟩⟩
    · simp only [oPick, hv, hv2, hq]; rfl
    · have := (hrq θ a hE).b
      simp [execOp, ho, this, asBool]
  | false =>
    refine ⟨v2, fun h' nx' κ' => ?_, fun θ a w hE => ⟨_, hr2 θ a hE, ?_⟩⟩
    · simp only [oPick, hv, hv2, hq]; rfl
    · have := (hrq θ a hE).b
      simp [execOp, ho, this, asBool]
theorem p_nc (hx : XOk x X) (ho : o.op = .nilCheck X) : PureOk P o (oNc x) := by
  intro en h nx κ e
  obtain ⟨v, hv, hr⟩ := hx en
  simp only [oNc, hv] at e
  refine ⟨v, fun h' nx' κ' => ?_, fun θ a w hE => ⟨_, hr θ a hE, ?_⟩⟩
  · simp only [oNc, hv]
    cases v <;> first | rfl | cases e
  · have := (hr θ a hE).2
    simp only [execOp, ho, this]
    cases v <;> first | rfl | cases e

/-! ### Two numbers -/
theorem eqGuard_int {w : World} (op : BinOp) (t : TypeId) (x y : Operand) (i j : IntKind) (m n : Int) : (eqGuard op t x y (.int i m) (.int j n)).run P w = .ok () w := by
  cases op <;> rfl
theorem bin_run {w : World} {a : Act} {op : BinOp} {t t2 : TypeId} {r v v' : Value} (ho : o.op = .binOp op t X Y t2) (hx : a.eval X = v) (hy : a.eval Y = v')
    (hg : (eqGuard op t X Y v v').run P w = .ok () w) (h : (binOp op t v v').run P w = .ok r w) : (execOp a.eval o).run P w = .ok (.value r) w := by
  simp only [execOp, ho, hx, hy, Sem.run_bind, hg, h, Result.andThen, Sem.run_pure]
/-- an operation on two numbers of one kind -/
theorem p_ar {op : BinOp} {t t2 : TypeId} {f : ArF} {k : Nat} (hx : XOk x X) (hy : XOk y Y) (ho : o.op = .binOp op t X Y t2)
    (hf : ∀ a b κ, f k a b κ = true → ∃ c, (∀ κ', f k a b κ' = κ' c) ∧ ∀ w, (binOp op t (.int (kindOf k) a) (.int (kindOf k) b)).run P w = .ok (.int (kindOf k) c) w) : PureOk P o (oAr f k x y) := by
  intro en h nx κ e
  obtain ⟨v, hv, hr⟩ := hx en
  obtain ⟨v2, hv2, hr2⟩ := hy en
  simp only [oAr, hv, hv2] at e
  obtain ⟨a, rfl, e1⟩ := asK_true e
  obtain ⟨b, rfl, e2⟩ := asK_true e1
  obtain ⟨c, hc, hrun⟩ := hf a b _ e2
  refine ⟨.i k c, fun h' nx' κ' => ?_, fun θ ac w hE => ⟨_, vr_i θ k c, ?_⟩⟩
  · simp only [oAr, hv, hv2, asK_i, hc]
  · exact bin_run ho (hr θ ac hE).i (hr2 θ ac hE).i (eqGuard_int _ _ _ _ _ _ _ _) (hrun w)
theorem p_rem {t t2 : TypeId} {k : Nat} (hx : XOk x X) (hy : XOk y Y) (ho : o.op = .binOp .rem t X Y t2) : PureOk P o (oRem k x y) := by
  have hp : PureOk P o (oAr arRem k x y) := p_ar hx hy ho fun a b κ e => ⟨_, fun κ' => arRem_eq k a b κ' (isZ_true e).1, fun w => by simp [binOp, Op.intDiv, (isZ_true e).1]⟩
  intro en h nx κ e
  obtain ⟨v, hv, hr⟩ := hx en
  obtain ⟨v2, hv2, hr2⟩ := hy en
  by_cases hxi : ∃ n k' r m, v = .xi n k' r m
  · obtain ⟨n, k', r, m, rfl⟩ := hxi
    simp only [oRem, hv, hv2] at e
    obtain ⟨b0, e⟩ := br_t e
    obtain ⟨b1, e1⟩ := br_t e
    obtain ⟨b, rfl, e2⟩ := asK_true e1
    cases b with
    | negSucc b => cases e2
    | ofNat b =>
      obtain ⟨b2, e3⟩ := br_t e2
      obtain ⟨b3, e4⟩ := br_t e3
      refine ⟨.i k (.ofNat r), fun h' nx' κ' => ?_, fun θ ac w hE => ⟨_, vr_i θ k _, ?_⟩⟩
      · simp only [oRem, hv, hv2, b0, b1, asK_i]
        show br (Nat.beq b m) (br (Nat.blt 0 m) _ _) _ = _
        rw [b2, b3]; rfl
      · have b1 := Nat.eq_of_beq_eq_true b1
        have b2 := Nat.eq_of_beq_eq_true b2
        have b3 : 0 < m := by simpa [Nat.blt_eq] using b3
        subst b1 b2
        obtain ⟨hok, hX⟩ := hr θ ac hE
        obtain ⟨w', w0, w1, w2, w3⟩ := xi_num (by simpa [Nat.blt_eq] using b0) hok
        have hX : ac.eval X = .int (kindOf k') (w' : Int) := by rw [hX, w0]
        refine bin_run ho hX (hr2 θ ac hE).i (eqGuard_int _ _ _ _ _ _ _ _) ?_
        have hb : (Int.ofNat b) ≠ 0 := by simp; omega
        have hq : Int.tmod (w' : Int) (Int.ofNat b) = Int.ofNat r := by
          subst w2; rfl
        have hb' : b ≠ 0 := by omega
        have hq : Int.tmod (w' : Int) (b : Int) = (r : Int) := hq
        simp [binOp, Op.intDiv, hb', hq]
  · have hsame : ∀ h nx κ, oRem k x y en h nx κ = oAr arRem k x y en h nx κ := by
      intro h nx κ
      simp only [oRem, oAr, hv]
      cases v <;> first | rfl | exact absurd ⟨_, _, _, _, rfl⟩ hxi
    rw [hsame] at e
    obtain ⟨v', k1, k2⟩ := hp en h nx κ e
    exact ⟨v', fun h' nx' κ' => (hsame h' nx' κ').trans (k1 h' nx' κ'), k2⟩
theorem p_cmp {op : BinOp} {t t2 : TypeId} {g : Int → Int → Bool} {k : Nat} {f : OpF} (hx : XOk x X) (hy : XOk y Y) (ho : o.op = .binOp op t X Y t2)
    (hf : ∀ en h nx κ, f en h nx κ = x en (asK k fun a => y en (asK k fun b => κ (.b (g a b)) h nx)))
    (hg : ∀ a b w, (binOp op t (.int (kindOf k) a) (.int (kindOf k) b)).run P w = .ok (.bool (g a b)) w) : PureOk P o f := by
  intro en h nx κ e
  obtain ⟨v, hv, hr⟩ := hx en
  obtain ⟨v2, hv2, hr2⟩ := hy en
  simp only [hf, hv, hv2] at e
  obtain ⟨a, rfl, e1⟩ := asK_true e
  obtain ⟨b, rfl, e2⟩ := asK_true e1
  refine ⟨.b (g a b), fun h' nx' κ' => ?_, fun θ ac w hE => ⟨_, vr_b θ _, ?_⟩⟩
  · simp only [hf, hv, hv2, asK_i]
  · exact bin_run ho (hr θ ac hE).i (hr2 θ ac hE).i (eqGuard_int _ _ _ _ _ _ _ _) (hg a b w)
theorem p_sh {op : BinOp} {t t2 : TypeId} {g : Nat → Int → Nat → Int} {k : Nat} {f : OpF} (hx : XOk x X) (hy : XOk y Y) (ho : o.op = .binOp op t X Y t2)
    (hf : ∀ en h nx κ, f en h nx κ = x en (asK k fun a => y en (asN fun n => κ (.i k (g k a n)) h nx)))
    (hg : ∀ a n j w, (binOp op t (.int (kindOf k) a) (.int j (.ofNat n))).run P w = .ok (.int (kindOf k) (g k a n)) w) : PureOk P o f := by
  intro en h nx κ e
  obtain ⟨v, hv, hr⟩ := hx en
  obtain ⟨v2, hv2, hr2⟩ := hy en
  simp only [hf, hv, hv2] at e
  obtain ⟨a, rfl, e1⟩ := asK_true e
  obtain ⟨j, n, rfl, e2⟩ := asN_true e1
  refine ⟨.i k (g k a n), fun h' nx' κ' => ?_, fun θ ac w hE => ⟨_, vr_i θ k _, ?_⟩⟩
  · simp only [hf, hv, hv2, asK_i]; rfl
  · exact bin_run ho (hr θ ac hE).i (hr2 θ ac hE).i (eqGuard_int _ _ _ _ _ _ _ _) (hg a n _ w)
theorem p_gt {t t2 : TypeId} {k : Nat} (hx : XOk x X) (hy : XOk y Y) (ho : o.op = .binOp .gtr t X Y t2) : PureOk P o (oGt k x y) := by
  have hp : PureOk P o (fun en h nx κ => x en (asK k fun a => y en (asK k fun b => cmLt b a (kB κ h nx)))) :=
    p_cmp (k := k) (g := fun a b => decide (b < a)) hx hy ho (fun en h nx κ => by simp only [cmLt_eq, kB_eq]) fun a b w => by simp [binOp, Op.intCmp]
  intro en h nx κ e
  obtain ⟨v, hv, hr⟩ := hx en
  obtain ⟨v2, hv2, hr2⟩ := hy en
  by_cases hxi : ∃ n k' r m, v = .xi n k' r m
  · obtain ⟨n, k', r, m, rfl⟩ := hxi
    simp only [oGt, hv, hv2] at e
    obtain ⟨b1, e⟩ := br_t e
    obtain ⟨b2, e⟩ := br_t e
    obtain ⟨b, rfl, e5⟩ := asK_true e
    rw [cmEq_eq] at e5
    obtain ⟨b3, e6⟩ := br_t e5
    have b1' := Nat.eq_of_beq_eq_true b1
    have b2' := Nat.eq_of_beq_eq_true b2
    have b3' : b = .ofNat 100 := by simpa using b3
    subst b1' b2' b3'
    refine ⟨.b (Nat.blt 0 m), fun h' nx' κ' => ?_, fun θ ac w hE => ⟨_, vr_b θ _, ?_⟩⟩
    · simp only [oGt, hv, hv2]
      show br (Nat.blt 0 m) (κ' (.b true) h' nx') (κ' (.b false) h' nx') = _
      cases Nat.blt 0 m <;> rfl
    · obtain ⟨hok, hX⟩ := hr θ ac hE
      obtain ⟨z, z0, z1, z2⟩ := xi_len hok
      have hX : ac.eval X = .int .i64 (z : Int) := by rw [hX, z0]
      refine bin_run ho hX (hr2 θ ac hE).i (eqGuard_int _ _ _ _ _ _ _ _) ?_
      have hd : decide ((100 : Int) < (z : Int)) = Nat.blt 0 m := by
        cases hb : Nat.blt 0 m with
        | true => have : 0 < m := by simpa [Nat.blt_eq] using hb
                  exact decide_eq_true (by have := z2 this; omega)
        | false => have : m = 0 := by
                     rcases Nat.eq_zero_or_pos m with h | h
                     · exact h
                     · rw [show Nat.blt 0 m = true by simpa [Nat.blt_eq] using h] at hb; cases hb
                   exact decide_eq_false (by have := z1 this; omega)
      rw [← hd]
      show (binOp .gtr t (.int .i64 (z : Int)) (.int .i64 (100 : Int))).run P w = _
      simp [binOp, Op.intCmp]
  · have hsame : ∀ h nx κ, oGt k x y en h nx κ = x en (asK k fun a => y en (asK k fun b => cmLt b a (kB κ h nx))) := by
      intro h nx κ
      simp only [oGt, hv]
      cases v <;> first | rfl | exact absurd ⟨_, _, _, _, rfl⟩ hxi
    rw [hsame] at e
    obtain ⟨v', k1, k2⟩ := hp en h nx κ e
    exact ⟨v', fun h' nx' κ' => (hsame h' nx' κ').trans (k1 h' nx' κ'), k2⟩
theorem p_bin {op : BinOp} {t t2 : TypeId} {k : Nat} (hx : XOk x X) (hy : XOk y Y) (ho : o.op = .binOp op t X Y t2) : PureOk P o (dBin op k x y) := by
  cases op
  case add => exact p_ar hx hy ho fun a b κ _ => ⟨_, fun κ' => arAdd_eq k a b κ', fun w => by simp [binOp, Op.intArith]⟩
  case sub => exact p_ar hx hy ho fun a b κ _ => ⟨_, fun κ' => arSub_eq k a b κ', fun w => by simp [binOp, Op.intArith]⟩
  case mul => exact p_ar hx hy ho fun a b κ _ => ⟨_, fun κ' => arMul_eq k a b κ', fun w => by simp [binOp, Op.intArith]⟩
  case quo => exact p_ar hx hy ho fun a b κ e => ⟨_, fun κ' => arQuo_eq k a b κ' (isZ_true e).1, fun w => by simp [binOp, Op.intDiv, (isZ_true e).1]⟩
  case rem => exact p_rem hx hy ho
  case and => exact p_ar hx hy ho fun a b κ e => ⟨_, fun κ' => arAnd_eq k a b κ', fun w => by simp [binOp, Op.intBits, bitsI]⟩
  case or => exact p_ar hx hy ho fun a b κ e => ⟨_, fun κ' => arOr_eq k a b κ', fun w => by simp [binOp, Op.intBits, bitsI]⟩
  case xor => exact p_ar hx hy ho fun a b κ e => ⟨_, fun κ' => arXor_eq k a b κ', fun w => by simp [binOp, Op.intBits, bitsI]⟩
  case andNot => exact p_ar hx hy ho fun a b κ e => ⟨_, fun κ' => arAnn_eq k a b κ', fun w => by simp [binOp, Op.intBits, bitsI]⟩
  case shl => exact p_sh (k := k) (g := fun k a n => (kindOf k).wrap (a * 2 ^ min n (kindOf k).bits)) hx hy ho (fun en h nx κ => by simp only [dBin, oShl, shl_eq]) fun a n j w => by simp [binOp, Op.shift, show ¬ ((n : Int) < 0) by omega]
  case shr => exact p_sh (k := k) (g := fun k a n => a.fdiv (2 ^ min n (kindOf k).bits)) hx hy ho (fun en h nx κ => by simp only [dBin, oShr, shr_eq]) fun a n j w => by simp [binOp, Op.shift, show ¬ ((n : Int) < 0) by omega]
  case eql => exact p_cmp (k := k) (g := fun a b => a == b) hx hy ho (fun en h nx κ => by simp only [dBin, oEq, cmEq_eq, kB_eq, negc_eq]; rfl) fun a b w => by simp [binOp, Op.intCmp]
  case neq => exact p_cmp (k := k) (g := fun a b => !(a == b)) hx hy ho (fun en h nx κ => by simp only [dBin, oEq, cmEq_eq, kB_eq, negc_eq]; rfl) fun a b w => by simp [binOp, Op.intCmp]; rfl
  case lss => exact p_cmp (k := k) (g := fun a b => decide (a < b)) hx hy ho (fun en h nx κ => by simp only [dBin, oLt, cmLt_eq, kB_eq]) fun a b w => by simp [binOp, Op.intCmp]
  case leq => exact p_cmp (k := k) (g := fun a b => decide (a ≤ b)) hx hy ho (fun en h nx κ => by simp only [dBin, oLe, cmLe_eq, kB_eq]) fun a b w => by simp [binOp, Op.intCmp]
  case gtr => exact p_gt hx hy ho
  case geq => exact p_cmp (k := k) (g := fun a b => decide (b ≤ a)) hx hy ho (fun en h nx κ => by simp only [dBin, oGe, cmLe_eq, kB_eq]) fun a b w => by simp [binOp, Op.intCmp]

/-! ### Two texts, two bools -/
theorem p_str {op : BinOp} {t t2 : TypeId} {g : List Nat → List Nat → Bool} (hx : XOk x X) (hy : XOk y Y) (ho : o.op = .binOp op t X Y t2)
    (hg : ∀ a b w, (∀ x ∈ a, x < 256) → (∀ x ∈ b, x < 256) → (binOp op t (.string (bytesOf a)) (.string (bytesOf b))).run P w = .ok (.bool (g a b)) w) : PureOk P o (oSS g x y) := by
  intro en h nx κ e
  obtain ⟨v, hv, hr⟩ := hx en
  obtain ⟨v2, hv2, hr2⟩ := hy en
  simp only [oSS, hv, hv2] at e
  obtain ⟨a, rfl, e1⟩ := asS_true e
  obtain ⟨b, rfl, e2⟩ := asS_true e1
  refine ⟨.b (g a b), fun h' nx' κ' => ?_, fun θ ac w hE => ⟨_, vr_b θ _, ?_⟩⟩
  · simp only [oSS, hv, hv2]
    exact kB_eq _ _ _ _
  · exact bin_run ho (hr θ ac hE).s.1 (hr2 θ ac hE).s.1 (by cases op <;> rfl) (hg a b w (hr θ ac hE).s.2 (hr2 θ ac hE).s.2)
theorem p_cat {t t2 : TypeId} (hx : XOk x X) (hy : XOk y Y) (ho : o.op = .binOp .add t X Y t2) : PureOk P o (oCat x y) := by
  intro en h nx κ e
  obtain ⟨v, hv, hr⟩ := hx en
  obtain ⟨v2, hv2, hr2⟩ := hy en
  simp only [oCat, hv, hv2] at e
  obtain ⟨a, rfl, e1⟩ := asS_true e
  obtain ⟨b, rfl, e2⟩ := asS_true e1
  obtain ⟨hl, e3⟩ := br_t e2
  refine ⟨.s (a ++ b), fun h' nx' κ' => ?_, fun θ ac w hE => ⟨_, ⟨?_, rfl⟩, ?_⟩⟩
  · simp only [oCat, hv, hv2]
    show br (Nat.blt (Nat.add (lenN Nat a) (lenN Nat b)) 9223372036854775808) (appK Nat a b fun l => κ' (.s l) h' nx') false = _
    rw [hl]
    exact appK_eq _ _ _
  · intro z hz
    rcases List.mem_append.1 hz with hz | hz
    · exact (hr θ ac hE).s.2 z hz
    · exact (hr2 θ ac hE).s.2 z hz
  · refine bin_run ho (hr θ ac hE).s.1 (hr2 θ ac hE).s.1 rfl ?_
    have hl' : a.length + b.length < 9223372036854775808 := by
      rw [lenN_eq, lenN_eq] at hl
      simpa [Nat.blt_eq] using hl
    have h63 : ¬ ((((bytesOf a).size + (bytesOf b).size : Nat) : Int) > IntKind.i64.max) := by
      rw [bytes_size, bytes_size]
      have : IntKind.i64.max = 9223372036854775807 := by decide
      omega
    simp only [binOp, Op.stringOp, if_neg h63, Sem.run_pure, toV, bytes_append]
theorem asSQ_true {x y : AV} {κ : Bool → R} (e : asSQ x y κ = true) : ∃ r, (∀ κ', asSQ x y κ' = κ' r) ∧ κ r = true ∧ one x = true ∧ one y = true ∧ (r = true → x = y) ∧
    ∀ θ u v, VR θ x u → VR θ y v → ∃ a b, u = .string a ∧ v = .string b ∧ (a == b) = r ∧ (b == a) = r := by
  unfold asSQ at e
  split at e
  · rename_i a
    split at e
    · rename_i b
      refine ⟨eqL a b, fun _ => rfl, e, rfl, rfl, fun h => ?_, fun θ u v hu hv => ⟨_, _, hu.s.1, hv.s.1, ?_, ?_⟩⟩
      · rw [eqL_eq] at h
        have : a = b := by simpa using h
        rw [this]
      · rw [beq_toListBytes, str_eq hu.s.2 hv.s.2]
      · rw [beq_toListBytes, str_eq hv.s.2 hu.s.2, eqL_eq, eqL_eq]
        exact decide_eq_decide.2 ⟨Eq.symm, Eq.symm⟩
    · rename_i n k r m
      obtain ⟨b1, e1⟩ := br_t e
      obtain ⟨b2, e2⟩ := br_t e1
      have b1' := Nat.eq_of_beq_eq_true b1
      subst b1'
      have b2' : a = [r] := by rw [eqL_eq] at b2; simpa using b2
      subst b2'
      refine ⟨false, fun κ' => ?_, e2, rfl, rfl, (fun h => by cases h), fun θ u v hu hv => ?_⟩
      · show br (Nat.beq 8 8) (br (eqL [r] [r]) (κ' false) false) false = _
        rw [b1, b2]; rfl
      · obtain ⟨_, s, k1, _, _, k2, k3⟩ := xi_str hv.1
        exact ⟨_, s, hu.s.1, hv.2.trans k1, k3, k2⟩
    · cases e
  · rename_i n k r m
    split at e
    · rename_i b
      obtain ⟨b1, e1⟩ := br_t e
      obtain ⟨b2, e2⟩ := br_t e1
      have b1' := Nat.eq_of_beq_eq_true b1
      subst b1'
      have b2' : b = [r] := by rw [eqL_eq] at b2; simpa using b2
      subst b2'
      refine ⟨false, fun κ' => ?_, e2, rfl, rfl, (fun h => by cases h), fun θ u v hu hv => ?_⟩
      · show br (Nat.beq 8 8) (br (eqL [r] [r]) (κ' false) false) false = _
        rw [b1, b2]; rfl
      · obtain ⟨_, s, k1, _, _, k2, k3⟩ := xi_str hu.1
        exact ⟨s, _, hu.2.trans k1, hv.s.1, k2, k3⟩
    · cases e
  · cases e
theorem p_sq {op : BinOp} {t t2 : TypeId} {neg : Bool} (hx : XOk x X) (hy : XOk y Y) (ho : o.op = .binOp op t X Y t2)
    (hg : ∀ a b w, (binOp op t (.string a) (.string b)).run P w = .ok (.bool (eqB neg (not' (a == b)))) w) : PureOk P o (oSQ neg x y) := by
  intro en h nx κ e
  obtain ⟨v, hv, hr⟩ := hx en
  obtain ⟨v2, hv2, hr2⟩ := hy en
  simp only [oSQ, hv, hv2] at e
  obtain ⟨r, k1, _, _, _, _, k2⟩ := asSQ_true e
  refine ⟨.b (eqB neg (not' r)), fun h' nx' κ' => ?_, fun θ ac w hE => ⟨_, vr_b θ _, ?_⟩⟩
  · simp only [oSQ, hv, hv2, k1]
  · obtain ⟨a, b, h1, h2, h3, _⟩ := k2 θ _ _ (hr θ ac hE) (hr2 θ ac hE)
    rw [← h3]
    exact bin_run ho h1 h2 (by cases op <;> rfl) (hg a b w)
theorem p_bs {op : BinOp} {t t2 : TypeId} (hx : XOk x X) (hy : XOk y Y) (ho : o.op = .binOp op t X Y t2) : PureOk P o (dBs op x y) := by
  have hbad : PureOk P o oBad := fun en h nx κ e => by cases e
  cases op
  case add => exact p_cat hx hy ho
  case eql => exact p_sq (neg := false) hx hy ho fun a b w => by rw [beq_toListBytes]; simp only [binOp, Op.stringOp, Sem.run_pure]; cases (a.toList == b.toList) <;> rfl
  case neq => exact p_sq (neg := true) hx hy ho fun a b w => by rw [beq_toListBytes]; simp only [binOp, Op.stringOp, Sem.run_pure, bne]; cases (a.toList == b.toList) <;> rfl
  case lss => exact p_str hx hy ho fun a b w ha hb => by simp [binOp, Op.stringOp, str_lt ha hb, sLt]
  case leq => exact p_str hx hy ho fun a b w ha hb => by simp [binOp, Op.stringOp, str_lt ha hb, str_eq ha hb, sLe, or'_eq]
  case gtr => exact p_str hx hy ho fun a b w ha hb => by simp [binOp, Op.stringOp, str_lt ha hb, str_eq ha hb, sGt, not'_eq, or'_eq]
  case geq => exact p_str hx hy ho fun a b w ha hb => by simp [binOp, Op.stringOp, str_lt ha hb, sGe, not'_eq]
  all_goals exact hbad
theorem run_equal_bool {t : TypeId} {w : World} (hu : P.underlying t = some .bool) (m n : Bool) : (Op.equal t (.bool m) (.bool n)).run P w = .ok (m == n) w := by
  have h : ∀ d : Nat, (Op.equalIn (d + 1) t (.bool m) (.bool n)).run P w = .ok (m == n) w := fun d => by simp [Op.equalIn, run_underlying hu]
  exact h 9999
theorem p_bb {neg : Bool} {t t2 : TypeId} (hx : XOk x X) (hy : XOk y Y) (hu : P.underlying t = some .bool) (ho : o.op = .binOp (if neg then .neq else .eql) t X Y t2) : PureOk P o (oBB neg x y) := by
  intro en h nx κ e
  obtain ⟨v, hv, hr⟩ := hx en
  obtain ⟨v2, hv2, hr2⟩ := hy en
  simp only [oBB, hv, hv2] at e
  obtain ⟨a, rfl, e1⟩ := asB_true e
  obtain ⟨b, rfl, e2⟩ := asB_true e1
  refine ⟨.b (if neg then !(a == b) else a == b), fun h' nx' κ' => ?_, fun θ ac w hE => ⟨_, vr_b θ _, ?_⟩⟩
  · simp only [oBB, hv, hv2]
    show kB κ' h' nx' (eqB neg (not' (eqB a b))) = _
    rw [kB_eq, negc_eq, eqB_eq]
  · refine bin_run ho (hr θ ac hE).b (hr2 θ ac hE).b (by cases neg <;> rfl) ?_
    cases neg <;> simp [binOp, run_equal_bool hu]

/-! ### One operand -/
theorem p_nt {t : TypeId} (hx : XOk x X) (ho : o.op = .unOp .not t X) : PureOk P o (oNt x) := by
  intro en h nx κ e
  obtain ⟨v, hv, hr⟩ := hx en
  simp only [oNt, hv] at e
  obtain ⟨a, rfl, e1⟩ := asB_true e
  refine ⟨.b !a, fun h' nx' κ' => ?_, fun θ ac w hE => ⟨_, vr_b θ _, ?_⟩⟩
  · simp only [oNt, hv]
    show kB κ' h' nx' (not' a) = _
    rw [kB_eq, not'_eq]
  · simp [execOp, ho, (hr θ ac hE).b, Op.unary]
theorem p_ng {t : TypeId} (hx : XOk x X) (ho : o.op = .unOp .neg t X) : PureOk P o (oNg x) := by
  intro en h nx κ e
  obtain ⟨v, hv, hr⟩ := hx en
  simp only [oNg, hv] at e
  obtain ⟨k, n, rfl, e1⟩ := asI_true e
  refine ⟨.i k ((kindOf k).wrap (0 - n)), fun h' nx' κ' => ?_, fun θ ac w hE => ⟨_, vr_i θ _ _, ?_⟩⟩
  · simp only [oNg, hv]
    show wrap k (Int.sub 0 n) (fun r => κ' (.i k r) h' nx') = _
    rw [wrap_eq]; rfl
  · simp [execOp, ho, (hr θ ac hE).i, Op.unary, Op.intArith]
theorem ones_eq (k : Nat) : ones k = (if (kindOf k).signed then -1 else (kindOf k).max) := by
  rcases k with _ | _ | _ | _ | _ | _ | _ | k <;> rfl
theorem p_cm {t : TypeId} (hx : XOk x X) (ho : o.op = .unOp .xor t X) : PureOk P o (oCm x) := by
  intro en h nx κ e
  obtain ⟨v, hv, hr⟩ := hx en
  simp only [oCm, hv] at e
  obtain ⟨k, n, rfl, e1⟩ := asI_true e
  refine ⟨.i k (bitsI .xor (kindOf k) (if (kindOf k).signed then -1 else (kindOf k).max) n), fun h' nx' κ' => ?_, fun θ ac w hE => ⟨_, vr_i θ _ _, ?_⟩⟩
  · simp only [oCm, hv]
    show arXor k _ n (fun r => κ' (.i k r) h' nx') = _
    rw [ones_eq, arXor_eq]
  · simp [execOp, ho, (hr θ ac hE).i, Op.unary, Op.intBits, bitsI]
theorem p_cvi {s d : TypeId} {k k0 : Nat} {k1 : IntKind} (hx : XOk x X) (hs : P.underlying s = some (.int k1)) (hd : P.underlying d = some (.int (kindOf k))) (ho : o.op = .convert s d X) : PureOk P o (oCvi k x) := by
  intro en h nx κ e
  obtain ⟨v, hv, hr⟩ := hx en
  by_cases hxi : ∃ n k' r m, v = .xi n k' r m
  · obtain ⟨n, k', r, m, rfl⟩ := hxi
    simp only [oCvi, hv] at e
    obtain ⟨b0, e⟩ := br_t e
    obtain ⟨b1, e1⟩ := br_t e
    have b1' := Nat.eq_of_beq_eq_true b1
    subst b1'
    refine ⟨.xi n 3 r m, fun h' nx' κ' => by simp only [oCvi, hv, b0]; rfl, fun θ ac w hE => ?_⟩
    obtain ⟨hok, hX⟩ := hr θ ac hE
    obtain ⟨w', w0, w1, w2, w3⟩ := xi_num (by simpa [Nat.blt_eq] using b0) hok
    refine ⟨.int (kindOf 3) (xnat (θ.ext n)), ⟨xi_ok (by omega) w' w1 w2 w3, rfl⟩, ?_⟩
    have hX : ac.eval X = .int (kindOf k') (w' : Int) := by rw [hX, w0]
    have hw : (kindOf 3).wrap (w' : Int) = (w' : Int) := wrap_nat (k := 3) (m := w') (by simp only [khi]; omega)
    simp [execOp, ho, hX, convert, run_underlying hs, run_underlying hd, Conv.intToInt, hw, w1]
  · have hsame : ∀ h nx κ, oCvi k x en h nx κ = asI (fun _ n => wrap k n fun r => κ (.i k r) h nx) v := by
      intro h nx κ
      simp only [oCvi, hv]
      cases v <;> first | rfl | exact absurd ⟨_, _, _, _, rfl⟩ hxi
    rw [hsame] at e
    obtain ⟨j, n, rfl, e1⟩ := asI_true e
    refine ⟨.i k ((kindOf k).wrap n), fun h' nx' κ' => ?_, fun θ ac w hE => ⟨_, vr_i θ _ _, ?_⟩⟩
    · rw [hsame]
      show wrap k n (fun r => κ' (.i k r) h' nx') = _
      rw [wrap_eq]
    · simp [execOp, ho, (hr θ ac hE).i, convert, run_underlying hs, run_underlying hd, Conv.intToInt]
theorem p_mki {t : TypeId} {d : TypeDesc} (hx : XOk x X) (hu : P.underlying t = some d) (hd : ∀ ms, d ≠ .interface ms) (ho : o.op = .makeInterface t X) : PureOk P o (oMki t x) := by
  intro en h nx κ e
  obtain ⟨v, hv, hr⟩ := hx en
  refine ⟨.ifc t v, fun h' nx' κ' => by simp only [oMki, hv], fun θ a w hE => ⟨.iface t (a.eval X), ⟨(hr θ a hE).1, by rw [(hr θ a hE).2]; rfl⟩, ?_⟩⟩
  simp only [execOp, ho, Instr.makeInterface, Sem.run_bind, run_underlying hu, Result.andThen]
  cases d <;> first | rfl | exact absurd rfl (hd _)
theorem p_mkf {f : FuncId} {xs : XsF} {cs : Array Operand} (hx : XsOk xs cs.toList) (ho : o.op = .makeFunc (.func f) #[] cs) : PureOk P o (oMkf f xs) := by
  intro en h nx κ e
  obtain ⟨vs, hv, _, hr⟩ := hx en
  refine ⟨.fn f vs, fun h' nx' κ' => by simp only [oMkf, hv], fun θ a w hE => ⟨.func (.func f) #[] (cs.map a.eval), ⟨(hr θ a hE).1, ?_⟩, ?_⟩⟩
  · have := (hr θ a hE).2
    have h2 : cs.map a.eval = (toVs θ vs).toArray := by rw [← this]; apply Array.ext'; simp
    rw [h2]; rfl
  · simp [execOp, ho, Instr.makeFunc]
theorem p_ext {n : Nat} (hx : XOk x X) (ho : o.op = .extract X n) : PureOk P o (oExt x n) := by
  intro en h nx κ e
  obtain ⟨v, hv, hr⟩ := hx en
  simp only [oExt, hv] at e
  obtain ⟨l, rfl, e1⟩ := asTu_true e
  rw [nthK_eq] at e1
  cases hl : l[n]? with
  | none => rw [hl] at e1; cases e1
  | some r =>
    refine ⟨r, fun h' nx' κ' => ?_, fun θ ac w hE => ⟨toV θ r, ?_, ?_⟩⟩
    · simp only [oExt, hv]
      show nthK AV _ l n = _
      rw [nthK_eq, hl]
    · exact ⟨Oks_iff.1 (hr θ ac hE).tu.2 r (List.mem_of_getElem? hl), rfl⟩
    · simp [execOp, ho, (hr θ ac hE).tu.1, Instr.extract, toVs_get, hl]
theorem p_fa {s : TypeId} {n k off : Nat} {fs : Array Field} {fd : Field} (hx : XOk x X) (hu : P.underlying s = some (.struct fs)) (hf : fs[n]? = some fd) (hk : sizeT P fd.type = some k) (hk0 : k ≠ 0) (hoff : fd.offset = off)
    (ho : o.op = .fieldAddr s X n) : PureOk P o (oFa x off) := by
  intro en h nx κ e
  obtain ⟨v, hv, hr⟩ := hx en
  simp only [oFa, hv] at e
  obtain ⟨b, i, rfl, e1⟩ := asP_true e
  refine ⟨.p b (i + off), fun h' nx' κ' => ?_, fun θ ac w hE => ⟨_, ⟨(hr θ ac hE).1, rfl⟩, ?_⟩⟩
  · simp only [oFa, hv]
    exact fnat_eq (i + off) fun j => κ' (.p b j) h' nx'
  · have hx' := (hr θ ac hE).p.1
    simp [execOp, ho, hx', Instr.fieldAt, run_underlying hu, hf, Instr.sureAddr, fieldPlace, run_size hk, hk0, Addr.add_lit, hoff, toV, Nat.add_assoc]
theorem p_fld {s : TypeId} {n k off : Nat} {fs : Array Field} {fd : Field} (hx : XOk x X) (hu : P.underlying s = some (.struct fs)) (hf : fs[n]? = some fd) (hk : sizeT P fd.type = some k) (hg : aggT P fd.type = some true) (hoff : fd.offset = off)
    (ho : o.op = .field s X n) : PureOk P o (oFld x off k) := by
  intro en h nx κ e
  obtain ⟨v, hv, hr⟩ := hx en
  simp only [oFld, hv] at e
  obtain ⟨l, rfl, e1⟩ := asAg_true e
  simp only [dropL_eq, takeK_eq, List.length_drop] at e1
  split at e1
  · rename_i hn
    refine ⟨.ag ((l.drop off).take k), fun h' nx' κ' => ?_, fun θ ac w hE => ⟨_, ⟨⟨Oks_take _ (Oks_drop _ (hr θ ac hE).ag.2.1), all_take _ (all_drop _ (hr θ ac hE).ag.2.2)⟩, rfl⟩, ?_⟩⟩
    · simp only [oFld, hv]
      show takeK AV k (dropL AV off l) _ = _
      simp only [dropL_eq, takeK_eq, List.length_drop]
      rw [if_pos hn]
    · obtain ⟨d, hd, hag⟩ := aggT_some (w := w) hg
      have hp : (part fd.type (toVs θ l).toArray fd.offset).run P w = .ok (.agg (toVs θ ((l.drop off).take k)).toArray) w := by
        simp only [part, Sem.run_bind, hag, Result.andThen, if_true, run_size hk, Sem.run_pure]
        congr 2
        apply Array.ext'
        simp [hoff, toVs_map, List.extract_eq_take_drop, List.map_take, List.map_drop]
      simp [execOp, ho, (hr θ ac hE).ag.1, Instr.field, run_underlying hu, hf, asAgg, hp, toV]
  · cases e1
theorem p_fl1 {s : TypeId} {n off : Nat} {fs : Array Field} {fd : Field} (hx : XOk x X) (hu : P.underlying s = some (.struct fs)) (hf : fs[n]? = some fd) (hg : aggT P fd.type = some false) (hoff : fd.offset = off)
    (ho : o.op = .field s X n) : PureOk P o (oFl1 x off) := by
  intro en h nx κ e
  obtain ⟨v, hv, hr⟩ := hx en
  simp only [oFl1, hv] at e
  obtain ⟨l, rfl, e1⟩ := asAg_true e
  rw [nthK_eq] at e1
  cases hl : l[off]? with
  | none => rw [hl] at e1; cases e1
  | some r =>
    refine ⟨r, fun h' nx' κ' => ?_, fun θ ac w hE => ⟨toV θ r, ?_, ?_⟩⟩
    · simp only [oFl1, hv]
      show nthK AV _ l off = _
      rw [nthK_eq, hl]
    · exact ⟨Oks_iff.1 (hr θ ac hE).ag.2.1 r (List.mem_of_getElem? hl), rfl⟩
    · obtain ⟨d, hd, hag⟩ := aggT_some (w := w) hg
      have hp : (part fd.type (toVs θ l).toArray fd.offset).run P w = .ok (toV θ r) w := by
        simp only [part, Sem.run_bind, hag, Result.andThen]
        simp [hoff, toVs_get, hl]
      simp [execOp, ho, (hr θ ac hE).ag.1, Instr.field, run_underlying hu, hf, asAgg, hp]
theorem p_ias {t e' : TypeId} {size : Nat} (hx : XOk x X) (hy : XOk y Y) (hu : P.underlying t = some (.slice e')) (hs : sizeT P e' = some size) (ho : o.op = .indexAddr t X Y) : PureOk P o (oIas x y size) := by
  intro en h nx κ e
  obtain ⟨v, hv, hr⟩ := hx en
  obtain ⟨v2, hv2, hr2⟩ := hy en
  simp only [oIas, hv, hv2] at e
  obtain ⟨b, off, len, cap, rfl, e1⟩ := asSl_true e
  obtain ⟨j, i, rfl, e2⟩ := asN_true e1
  obtain ⟨hl, e3⟩ := br_t e2
  have hl' : i < len := by simpa [Nat.blt_eq] using hl
  refine ⟨.p b (off + i * size), fun h' nx' κ' => ?_, fun θ ac w hE => ⟨_, ⟨(hr θ ac hE).1, rfl⟩, ?_⟩⟩
  · simp only [oIas, hv, hv2]
    show br (Nat.blt i len) (fnat _ _) false = _
    rw [hl]
    exact fnat_eq (off + i * size) fun j => κ' (.p b j) h' nx'
  · obtain ⟨_, c, hx'⟩ := (hr θ ac hE).sl
    have hy' := (hr2 θ ac hE).i
    simp [execOp, ho, hx', hy', Instr.indexAt, asIntOf, run_underlying hu, run_size hs, Addr.add_lit, hl', toV, Nat.add_assoc]
theorem p_iaa {t e' : TypeId} {size len : Nat} (hx : XOk x X) (hy : XOk y Y) (hu : P.underlying t = some (.array len e')) (hs : sizeT P e' = some size) (ho : o.op = .indexAddr t X Y) : PureOk P o (oIaa x y len size) := by
  intro en h nx κ e
  obtain ⟨v, hv, hr⟩ := hx en
  obtain ⟨v2, hv2, hr2⟩ := hy en
  simp only [oIaa, hv, hv2] at e
  obtain ⟨b, off, rfl, e1⟩ := asP_true e
  obtain ⟨j, i, rfl, e2⟩ := asN_true e1
  obtain ⟨hl, e3⟩ := br_t e2
  have hl' : i < len := by simpa [Nat.blt_eq] using hl
  refine ⟨.p b (off + i * size), fun h' nx' κ' => ?_, fun θ ac w hE => ⟨_, ⟨(hr θ ac hE).1, rfl⟩, ?_⟩⟩
  · simp only [oIaa, hv, hv2]
    show br (Nat.blt i len) (fnat _ _) false = _
    rw [hl]
    exact fnat_eq (off + i * size) fun j => κ' (.p b j) h' nx'
  · have hx' := (hr θ ac hE).p.1
    have hy' := (hr2 θ ac hE).i
    simp [execOp, ho, hx', hy', Instr.indexAt, Instr.sureAddr, asIntOf, run_underlying hu, run_size hs, Addr.add_lit, hl', toV, Nat.add_assoc]
theorem p_ixs {t : TypeId} (hx : XOk x X) (hy : XOk y Y) (hu : P.underlying t = some .string) (ho : o.op = .index t X Y) : PureOk P o (oIxs x y) := by
  intro en h nx κ e
  obtain ⟨v, hv, hr⟩ := hx en
  obtain ⟨v2, hv2, hr2⟩ := hy en
  simp only [oIxs, hv, hv2] at e
  obtain ⟨l, rfl, e1⟩ := asS_true e
  obtain ⟨j, i, rfl, e2⟩ := asN_true e1
  rw [nthK_eq] at e2
  cases hl : l[i]? with
  | none => rw [hl] at e2; cases e2
  | some c =>
    refine ⟨.i 4 (.ofNat c), fun h' nx' κ' => ?_, fun θ ac w hE => ⟨_, vr_i θ _ _, ?_⟩⟩
    · simp only [oIxs, hv, hv2]
      show nthK Nat _ l i = _
      rw [nthK_eq, hl]
    · obtain ⟨hx', hb⟩ := (hr θ ac hE).s
      have hy' := (hr2 θ ac hE).i
      have hc : c < 256 := hb c (List.mem_of_getElem? hl)
      have hget : (bytesOf l)[i]? = some (UInt8.ofNat c) := by
        have hlt : i < l.length := (List.getElem?_eq_some_iff.1 hl).1
        have hs : i < (bytesOf l).size := by rw [bytes_size]; exact hlt
        rw [ByteArray.getElem?_lt' _ _ hs]
        have : (bytesOf l)[i] = (l.map UInt8.ofNat).toArray[i]'(by simpa using hlt) := rfl
        rw [this]
        simp [(List.getElem?_eq_some_iff.1 hl).2]
      have hdat : (bytesOf l).data[i]? = some (UInt8.ofNat c) := by simp [bytesOf, hl]
      simp [execOp, ho, hx', hy', Instr.index, asIntOf, run_underlying hu, hget, hdat, Nat.mod_eq_of_lt hc]
      rfl
end ops
end Go.AM
