/-
  AM, 9: operations that only work out a value. Conditions: none.
-/
import Derived.Test.YtniakcilpolneaaGreatDoorAmD
namespace Go.AM
open Go

/-- an operation that only works out a value -/
def PureOk (P : Program) (o : Oper) (f : OpF) : Prop := ∀ en h nx κ, f en h nx κ = true →
  ∃ v, (∀ h' nx' κ', f en h' nx' κ' = κ' v h' nx') ∧ ∀ θ (a : Act) w, ER θ en a.tmps → ∃ u, VR θ v u ∧ (execOp a.eval o).run P w = .ok (.value u) w

section types
variable {P : Program} {w : World}
theorem sizeT_info {t : TypeId} {k : Nat} (h : sizeT P t = some k) : ∃ i, P.info? t = some i ∧ i.size = k := by
  unfold sizeT at h
  obtain ⟨i, h1, h2⟩ := Option.map_eq_some_iff.1 h
  exact ⟨i, h1, h2⟩
theorem run_size {t : TypeId} {k : Nat} (h : sizeT P t = some k) : (sizeOf t).run P w = .ok k w := by
  obtain ⟨i, hi, rfl⟩ := sizeT_info h
  simp [sizeOf, typeInfo, hi]
theorem aggT_some {t : TypeId} {b : Bool} (h : aggT P t = some b) : ∃ d, P.underlying t = some d ∧ (isAgg t).run P w = .ok b w := by
  unfold aggT at h
  obtain ⟨d, h1, h2⟩ := Option.map_eq_some_iff.1 h
  refine ⟨d, h1, ?_⟩
  simp only [isAgg, Sem.run_bind, run_underlying h1, Result.andThen]
  subst h2
  cases d <;> rfl
theorem cellsA_ok {θ : Th} {x : AV} {v : Value} (h : VR θ x v) (h1 : (cellsA x).all one = true) : Oks θ (cellsA x) ∧ v.cells.toList = toVs θ (cellsA x) := by
  obtain ⟨h2, h3⟩ := h
  subst h3
  cases x <;> first
    | exact ⟨⟨h2, trivial⟩, rfl⟩
    | (simp [cellsA, one] at h1; done)
    | exact ⟨⟨h2, trivial⟩, cells_one (θ.ext1 _)⟩
    | exact ⟨⟨h2, trivial⟩, cells_one (toV_one rfl)⟩
    | exact ⟨h2.1, by simp [toV, Value.cells, cellsA]⟩
theorem zeroT_some {t : TypeId} {z : List AV} (h : zeroT P t = some z) : ∃ i v, P.info? t = some i ∧ i.zero = some v ∧ z.all one = true ∧ ∀ θ, Oks θ z ∧ v.cells = (toVs θ z).toArray := by
  unfold zeroT at h
  split at h
  · rename_i i hi
    split at h
    · rename_i v hv
      split at h
      · rename_i x hx
        split at h
        · rename_i h1
          injection h with h; subst h
          refine ⟨i, v, hi, hv, h1, fun θ => ?_⟩
          obtain ⟨k1, k2⟩ := cellsA_ok (ofV_ok θ hx) h1
          exact ⟨k1, by rw [← k2]⟩
        · cases h
      · cases h
    · cases h
  · cases h
theorem zeroV_some {t : TypeId} {z : AV} (h : zeroV P t = some z) : ∃ i v, P.info? t = some i ∧ i.zero = some v ∧ ∀ θ, VR θ z v := by
  unfold zeroV at h
  split at h
  · rename_i i hi
    split at h
    · rename_i v hv
      exact ⟨i, v, hi, hv, fun θ => ofV_ok θ h⟩
    · cases h
  · cases h
end types

section ops
variable {P : Program} {o : Oper} {x y : XF} {X Y : Operand}
theorem p_mv (hx : XOk x X) (ho : o.op = .move X ∨ o.op = .assign X) : PureOk P o (oMv x) := by
  intro en h nx κ e
  obtain ⟨v, hv, hr⟩ := hx en
  refine ⟨v, fun h' nx' κ' => hv _, fun θ a w hE => ⟨_, hr θ a hE, ?_⟩⟩
  rcases ho with ho | ho <;> simp [execOp, ho]
theorem p_sid {s d : TypeId} (hx : XOk x X) (hs : P.underlying s = some .string) (hd : P.underlying d = some .string) (ho : o.op = .convert s d X) : PureOk P o (oSid x) := by
  intro en h nx κ e
  obtain ⟨v, hv, hr⟩ := hx en
  simp only [oSid, hv] at e
  obtain ⟨l, rfl, e1⟩ := asS_true e
  refine ⟨.s l, fun h' nx' κ' => by simp only [oSid, hv]; rfl, fun θ a w hE => ⟨_, hr θ a hE, ?_⟩⟩
  have hX := (hr θ a hE).s.1
  simp [execOp, ho, hX, convert, run_underlying hs, run_underlying hd]
theorem p_pick {c : XF} {Cc : Operand} (hc : XOk c Cc) (hx : XOk x X) (hy : XOk y Y) (ho : o.op = .pick Cc X Y) : PureOk P o (oPick c x y) := by
  intro en h nx κ e
  obtain ⟨v, hv, hr⟩ := hx en
  obtain ⟨v2, hv2, hr2⟩ := hy en
  obtain ⟨q, hq, hrq⟩ := hc en
  simp only [oPick, hv, hv2, hq] at e
  obtain ⟨t, rfl, e1⟩ := asB_true e
  cases t with
  | true =>
    refine ⟨v, fun h' nx' κ' => ?_, fun θ a w hE => ⟨_, hr θ a hE, ?_⟩⟩
    · simp only [oPick, hv, hv2, hq]; rfl
    · have := (hrq θ a hE).b
      simp [execOp, ho, this, asBool]
  | false =>
    refine ⟨v2, fun h' nx' κ' => ?_, fun θ a w hE => ⟨_, hr2 θ a hE, ?_⟩⟩
    · simp only [oPick, hv, hv2, hq]; rfl
    · have := (hrq θ a hE).b
      simp [execOp, ho, this, asBool]
theorem p_nc (hx : XOk x X) (ho : o.op = .nilCheck X) : PureOk P o (oNc x) := by
  intro en h nx κ e
  obtain ⟨v, hv, hr⟩ := hx en
  simp only [oNc, hv] at e
  refine ⟨v, fun h' nx' κ' => ?_, fun θ a w hE => ⟨_, hr θ a hE, ?_⟩⟩
  · simp only [oNc, hv]
    cases v <;> first | rfl | cases e
  · have := (hr θ a hE).2
    simp only [execOp, ho, this]
    cases v <;> first | rfl | cases e

/-! ### Two numbers -/
theorem eqGuard_int {w : World} (op : BinOp) (t : TypeId) (x y : Operand) (i j : IntKind) (m n : Int) : (eqGuard op t x y (.int i m) (.int j n)).run P w = .ok () w := by
  cases op <;> rfl
theorem bin_run {w : World} {a : Act} {op : BinOp} {t t2 : TypeId} {r v v' : Value} (ho : o.op = .binOp op t X Y t2) (hx : a.eval X = v) (hy : a.eval Y = v')
    (hg : (eqGuard op t X Y v v').run P w = .ok () w) (h : (binOp op t v v').run P w = .ok r w) : (execOp a.eval o).run P w = .ok (.value r) w := by
  simp only [execOp, ho, hx, hy, Sem.run_bind, hg, h, Result.andThen, Sem.run_pure]
/-- an operation on two numbers of one kind -/
theorem p_ar {op : BinOp} {t t2 : TypeId} {f : ArF} {k : Nat} (hx : XOk x X) (hy : XOk y Y) (ho : o.op = .binOp op t X Y t2)
    (hf : ∀ a b κ, f k a b κ = true → ∃ c, (∀ κ', f k a b κ' = κ' c) ∧ ∀ w, (binOp op t (.int (kindOf k) a) (.int (kindOf k) b)).run P w = .ok (.int (kindOf k) c) w) : PureOk P o (oAr f k x y) := by
  intro en h nx κ e
  obtain ⟨v, hv, hr⟩ := hx en
  obtain ⟨v2, hv2, hr2⟩ := hy en
  simp only [oAr, hv, hv2] at e
  obtain ⟨a, rfl, e1⟩ := asK_true e
  obtain ⟨b, rfl, e2⟩ := asK_true e1
  obtain ⟨c, hc, hrun⟩ := hf a b _ e2
  refine ⟨.i k c, fun h' nx' κ' => ?_, fun θ ac w hE => ⟨_, vr_i θ k c, ?_⟩⟩
  · simp only [oAr, hv, hv2, asK_i, hc]
  · exact bin_run ho (hr θ ac hE).i (hr2 θ ac hE).i (eqGuard_int _ _ _ _ _ _ _ _) (hrun w)
/-- .. in lanes, too -/
theorem p_la {op : BinOp} {t t2 : TypeId} {f : ArF} {g : LaF} {k : Nat} (hx : XOk x X) (hy : XOk y Y) (ho : o.op = .binOp op t X Y t2)
    (hf : ∀ a b κ, f k a b κ = true → ∃ c, (∀ κ', f k a b κ' = κ' c) ∧ ∀ w, (binOp op t (.int (kindOf k) a) (.int (kindOf k) b)).run P w = .ok (.int (kindOf k) c) w) (hg : LaOk op k g) : PureOk P o (oLa f g k x y) := by
  intro en h nx κ e
  obtain ⟨v, hv, hr⟩ := hx en
  obtain ⟨v2, hv2, hr2⟩ := hy en
  simp only [oLa, hv, hv2, laV] at e
  rcases br_true e with ⟨h1, e1⟩ | ⟨h1, e1⟩
  · obtain ⟨A, a1, e2, a2, _, a4⟩ := lnK_true e1
    obtain ⟨B, b1, e3, b2, _, b4⟩ := lnK_true e2
    obtain ⟨N, n1, e4, n3⟩ := hg A B _ e3
    have hk : k < 8 := by
      have h1' := h1
      unfold isLL at h1'
      rw [or'_eq, Bool.or_eq_true] at h1'
      exact h1'.elim a2 b2
    refine ⟨.l k N, fun h' nx' κ' => ?_, fun θ ac w hE => ?_⟩
    · simp only [oLa, hv, hv2, laV, h1, br_tt]
      rw [a1, b1, n1]
    · obtain ⟨la, ua⟩ := a4 θ _ (hr θ ac hE)
      obtain ⟨lb, ub⟩ := b4 θ _ (hr2 θ ac hE)
      obtain ⟨lN, hrun⟩ := n3 la lb
      exact ⟨_, vr_l θ hk lN, bin_run ho ua ub (eqGuard_int _ _ _ _ _ _ _ _) (hrun P t θ.lane w θ.lane_lt)⟩
  · have hsame : ∀ h nx κ, oLa f g k x y en h nx κ = oAr f k x y en h nx κ := by
      intro h nx κ
      simp only [oLa, oAr, hv, hv2, laV, h1, br_ff]
    obtain ⟨v', k1, k2⟩ := p_ar hx hy ho hf en h nx κ ((hsame h nx κ).symm.trans (by simp only [oLa, hv, hv2, laV]; exact e))
    exact ⟨v', fun h' nx' κ' => (hsame h' nx' κ').trans (k1 h' nx' κ'), k2⟩
/-- the same in all lanes -/
theorem colV_ok (v : AV) : ∃ v', (∀ κ, colV v κ = κ v') ∧ ∀ θ u, VR θ v u → VR θ v' u := by
  by_cases hl : ∃ k N, v = .l k N
  · obtain ⟨k, N, rfl⟩ := hl
    have hs : ∀ κ, colV (.l k N) κ = br (Nat.blt k 8) (br (Nat.beq (Nat.mul LO (Nat.mod N 340282366920938463463374607431768211456)) N) (κ (.i k (.ofNat (Nat.mod N 340282366920938463463374607431768211456)))) (κ (.l k N))) (κ (.l k N)) := fun κ => by
      unfold colV
      exact fnat_eq _ _
    cases h1 : Nat.blt k 8 with
    | false => exact ⟨.l k N, fun κ => by rw [hs, h1]; rfl, fun _ _ h => h⟩
    | true =>
      cases h2 : Nat.beq (Nat.mul LO (Nat.mod N 340282366920938463463374607431768211456)) N with
      | false => exact ⟨.l k N, fun κ => by rw [hs, h1, h2]; rfl, fun _ _ h => h⟩
      | true =>
        refine ⟨_, fun κ => by rw [hs, h1, h2]; rfl, fun θ u h => ?_⟩
        have hk : k < 8 := by simpa [Nat.blt_eq] using h1
        obtain ⟨_, hu⟩ := h.l hk
        have h3 := Nat.eq_of_beq_eq_true h2
        have h4 : ln θ.lane N = Nat.mod N 340282366920938463463374607431768211456 := by
          conv => lhs; rw [← h3, mul_is]
          exact ln_LO (Nat.mod_lt _ (by decide)) θ.lane_lt
        rw [hu, h4]
        exact vr_i θ k _
  · refine ⟨v, fun κ => ?_, fun _ _ h => h⟩
    cases v <;> first | rfl | exact absurd ⟨_, _, rfl⟩ hl
/-- + with a number handed in -/
theorem p_ad {t t2 : TypeId} {k : Nat} (hx : XOk x X) (hy : XOk y Y) (ho : o.op = .binOp .add t X Y t2) : PureOk P o (oAd k x y) := by
  intro en h nx κ e
  obtain ⟨v, hv, hr⟩ := hx en
  obtain ⟨v2, hv2, hr2⟩ := hy en
  by_cases hxi : ∃ n k' r m, v2 = .xi n k' r m
  · obtain ⟨n, k', r, m, rfl⟩ := hxi
    have hs : ∀ h' nx' (κ' : K), oAd k x y en h' nx' κ' = br (Nat.beq k' 13) (br (Nat.beq k 3) (asK 3 (fun c => @Int.rec (fun _ => R) (fun c => fnat (Nat.add r c) fun c => br (Nat.blt c 4294967296) (κ' (.xi n 13 c 1) h' nx') false) (fun _ => false) c) v) false) false := fun h' nx' κ' => by
      simp only [oAd, hv, hv2]; rfl
    rw [hs] at e
    obtain ⟨b1, e⟩ := br_t e
    obtain ⟨b2, e⟩ := br_t e
    obtain ⟨c, rfl, e⟩ := asK_true e
    cases c with
    | negSucc c => cases e
    | ofNat c =>
      have e : fnat (Nat.add r c) (fun c => br (Nat.blt c 4294967296) (κ (.xi n 13 c 1) h nx) false) = true := e
      rw [fnat_eq] at e
      obtain ⟨b3, e⟩ := br_t e
      refine ⟨.xi n 13 (Nat.add r c) 1, fun h' nx' κ' => ?_, fun θ ac w hE => ?_⟩
      · rw [hs, b1, br_tt, b2, br_tt, asK_i]
        show fnat (Nat.add r c) _ = _
        rw [fnat_eq, b3]; rfl
      · have b1 := Nat.eq_of_beq_eq_true b1
        have b2 := Nat.eq_of_beq_eq_true b2
        have b3 : r + c < 4294967296 := by simpa [Nat.blt_eq] using b3
        subst b1 b2
        obtain ⟨hok, hY⟩ := hr2 θ ac hE
        obtain ⟨h2, w', w1, w2, w3⟩ := xo_num (by omega) hok
        refine ⟨_, ⟨xo_ok (by omega) w' w1 w2 b3, rfl⟩, bin_run ho (hr θ ac hE).i (hY.trans w3) (eqGuard_int _ _ _ _ _ _ _ _) ?_⟩
        have hw : (IntKind.i64).wrap (((w' + (r + c) : Nat) : Int)) = ((w' + (r + c) : Nat) : Int) := wrap_nat (k := 3) (m := w' + (r + c)) (by simp only [khi]; omega)
        have hs2 : ((c : Int) + ((w' : Int) + (r : Int))) = ((w' + (r + c) : Nat) : Int) := by omega
        have hs3 : toV θ (.xi n 13 (Nat.add r c) 1) = .int .i64 ((w' + (r + c) : Nat) : Int) := by
          show (Value.int .i64 (xnat (θ.ext n) + ((Nat.add r c : Nat) : Int))) = _
          rw [w1]; congr 1
        rw [hs3]
        show (binOp .add t (.int .i64 (c : Int)) (.int .i64 (xnat (θ.ext n) + (r : Int)))).run P w = _
        rw [w1]
        simp [binOp, Op.intArith, hs2]
        have := hw
        simp only [Int.natCast_add] at this
        exact this
  · have hsame : ∀ h nx κ, oAd k x y en h nx κ = oLa arAdd laAdd k x y en h nx κ := by
      intro h nx κ
      simp only [oAd, oLa, hv, hv2]
      cases v2 <;> first | rfl | exact absurd ⟨_, _, _, _, rfl⟩ hxi
    rw [hsame] at e
    obtain ⟨v', k1, k2⟩ := p_la hx hy ho (fun a b κ _ => ⟨_, fun κ' => arAdd_eq k a b κ', fun w => by simp [binOp, Op.intArith]⟩) (laAdd_ok k) en h nx κ e
    exact ⟨v', fun h' nx' κ' => (hsame h' nx' κ').trans (k1 h' nx' κ'), k2⟩
theorem p_rem {t t2 : TypeId} {k : Nat} (hx : XOk x X) (hy : XOk y Y) (ho : o.op = .binOp .rem t X Y t2) : PureOk P o (oRem k x y) := by
  have hrem : ∀ (a b : Int) (κ : Int → R), arRem k a b κ = true → ∃ c, (∀ κ', arRem k a b κ' = κ' c) ∧ ∀ w, (binOp .rem t (.int (kindOf k) a) (.int (kindOf k) b)).run P w = .ok (.int (kindOf k) c) w :=
    fun a b κ e => ⟨_, fun κ' => arRem_eq k a b κ' (isZ_true e).1, fun w => by simp [binOp, Op.intDiv, (isZ_true e).1]⟩
  have hp : PureOk P o (oAr arRem k x y) := p_ar hx hy ho hrem
  intro en h nx κ e
  obtain ⟨v, hv, hr⟩ := hx en
  obtain ⟨v2, hv2, hr2⟩ := hy en
  by_cases hl : ∃ k' N, v = .l k' N
  · obtain ⟨k', N, rfl⟩ := hl
    have hsame : ∀ h nx (κ : K), oRem k x y en h nx κ = oLa arRem laRem k x y en h nx (fun v h nx => colV v fun v => κ v h nx) := by
      intro h nx κ
      simp only [oRem, oLa, hv]
    rw [hsame] at e
    obtain ⟨v', k1, k2⟩ := p_la hx hy ho hrem (laRem_ok k) en h nx _ e
    obtain ⟨v3, c1, c2⟩ := colV_ok v'
    refine ⟨v3, fun h' nx' κ' => ((hsame h' nx' κ').trans (k1 h' nx' _)).trans (c1 _), fun θ ac w hE => ?_⟩
    obtain ⟨r, r1, r2⟩ := k2 θ ac w hE
    exact ⟨r, c2 θ r r1, r2⟩
  by_cases hxi : ∃ n k' r m, v = .xi n k' r m
  · obtain ⟨n, k', r, m, rfl⟩ := hxi
    simp only [oRem, hv, hv2] at e
    obtain ⟨b0, e⟩ := br_t e
    obtain ⟨b1, e1⟩ := br_t e
    obtain ⟨b, rfl, e2⟩ := asK_true e1
    cases b with
    | negSucc b => cases e2
    | ofNat b =>
      rcases br_true e2 with ⟨bm, e2⟩ | ⟨bm, e2⟩
      · obtain ⟨c1, e3⟩ := br_t e2
        obtain ⟨c2, e4⟩ := br_t e3
        obtain ⟨c3, e5⟩ := br_t e4
        refine ⟨.f n b, fun h' nx' κ' => ?_, fun θ ac w hE => ?_⟩
        · simp only [oRem, hv, hv2, b0, b1, asK_i]
          show br (Nat.beq m 1) (br (Nat.beq k 3) (br (Nat.blt 0 b) (br (Nat.blt b 9223372036854775808) _ _) _) _) _ = _
          rw [bm, c1, c2, c3]; rfl
        · have b1 := Nat.eq_of_beq_eq_true b1
          have c1 := Nat.eq_of_beq_eq_true c1
          have c2 : 0 < b := by simpa [Nat.blt_eq] using c2
          subst b1 c1
          obtain ⟨hok, hX⟩ := hr θ ac hE
          obtain ⟨w', w0, w1, w2, w3⟩ := xi_num (by decide) hok
          have hX : ac.eval X = .int (kindOf 3) (w' : Int) := by rw [hX, w0]
          refine ⟨.int .i64 (xnat (θ.ext n) % (b : Int)), ⟨⟨⟨w', w1⟩, c2⟩, rfl⟩, bin_run ho hX (hr2 θ ac hE).i (eqGuard_int _ _ _ _ _ _ _ _) ?_⟩
          have hb' : b ≠ 0 := by omega
          have hq : Int.tmod (w' : Int) (b : Int) = xnat (θ.ext n) % (b : Int) := by rw [w1]; rfl
          simp [binOp, Op.intDiv, hb', hq, kindOf]
      obtain ⟨b2, e3⟩ := br_t e2
      obtain ⟨b3, e4⟩ := br_t e3
      refine ⟨.i k (.ofNat r), fun h' nx' κ' => ?_, fun θ ac w hE => ⟨_, vr_i θ k _, ?_⟩⟩
      · simp only [oRem, hv, hv2, b0, b1, asK_i]
        show br (Nat.beq m 1) _ (br (Nat.beq b m) (br (Nat.blt 0 m) _ _) _) = _
        rw [bm, b2, b3]; rfl
      · have b1 := Nat.eq_of_beq_eq_true b1
        have b2 := Nat.eq_of_beq_eq_true b2
        have b3 : 0 < m := by simpa [Nat.blt_eq] using b3
        subst b1 b2
        obtain ⟨hok, hX⟩ := hr θ ac hE
        obtain ⟨w', w0, w1, w2, w3⟩ := xi_num (by simpa [Nat.blt_eq] using b0) hok
        have hX : ac.eval X = .int (kindOf k') (w' : Int) := by rw [hX, w0]
        refine bin_run ho hX (hr2 θ ac hE).i (eqGuard_int _ _ _ _ _ _ _ _) ?_
        have hb : (Int.ofNat b) ≠ 0 := by simp; omega
        have hb' : b ≠ 0 := by omega
        have hq : Int.tmod (w' : Int) (b : Int) = (r : Int) := by
          subst w2; rfl
        simp [binOp, Op.intDiv, hb', hq]
  · have hsame : ∀ h nx κ, oRem k x y en h nx κ = oAr arRem k x y en h nx κ := by
      intro h nx κ
      simp only [oRem, oAr, hv]
      cases v <;> first | rfl | exact absurd ⟨_, _, _, _, rfl⟩ hxi | exact absurd ⟨_, _, rfl⟩ hl
    rw [hsame] at e
    obtain ⟨v', k1, k2⟩ := hp en h nx κ e
    exact ⟨v', fun h' nx' κ' => (hsame h' nx' κ').trans (k1 h' nx' κ'), k2⟩
theorem p_cmp {op : BinOp} {t t2 : TypeId} {g : Int → Int → Bool} {k : Nat} {f : OpF} (hx : XOk x X) (hy : XOk y Y) (ho : o.op = .binOp op t X Y t2)
    (hf : ∀ en h nx κ, f en h nx κ = x en (asK k fun a => y en (asK k fun b => κ (.b (g a b)) h nx)))
    (hg : ∀ a b w, (binOp op t (.int (kindOf k) a) (.int (kindOf k) b)).run P w = .ok (.bool (g a b)) w) : PureOk P o f := by
  intro en h nx κ e
  obtain ⟨v, hv, hr⟩ := hx en
  obtain ⟨v2, hv2, hr2⟩ := hy en
  simp only [hf, hv, hv2] at e
  obtain ⟨a, rfl, e1⟩ := asK_true e
  obtain ⟨b, rfl, e2⟩ := asK_true e1
  refine ⟨.b (g a b), fun h' nx' κ' => ?_, fun θ ac w hE => ⟨_, vr_b θ _, ?_⟩⟩
  · simp only [hf, hv, hv2, asK_i]
  · exact bin_run ho (hr θ ac hE).i (hr2 θ ac hE).i (eqGuard_int _ _ _ _ _ _ _ _) (hg a b w)
theorem p_sh {op : BinOp} {t t2 : TypeId} {g : Nat → Int → Nat → Int} {k : Nat} {f : OpF} (hx : XOk x X) (hy : XOk y Y) (ho : o.op = .binOp op t X Y t2)
    (hf : ∀ en h nx κ, f en h nx κ = x en (asK k fun a => y en (asN fun n => κ (.i k (g k a n)) h nx)))
    (hg : ∀ a n j w, (binOp op t (.int (kindOf k) a) (.int j (.ofNat n))).run P w = .ok (.int (kindOf k) (g k a n)) w) : PureOk P o f := by
  intro en h nx κ e
  obtain ⟨v, hv, hr⟩ := hx en
  obtain ⟨v2, hv2, hr2⟩ := hy en
  simp only [hf, hv, hv2] at e
  obtain ⟨a, rfl, e1⟩ := asK_true e
  obtain ⟨j, n, rfl, e2⟩ := asN_true e1
  refine ⟨.i k (g k a n), fun h' nx' κ' => ?_, fun θ ac w hE => ⟨_, vr_i θ k _, ?_⟩⟩
  · simp only [hf, hv, hv2, asK_i]; rfl
  · exact bin_run ho (hr θ ac hE).i (hr2 θ ac hE).i (eqGuard_int _ _ _ _ _ _ _ _) (hg a n _ w)
theorem p_shl {t t2 : TypeId} {k : Nat} (hx : XOk x X) (hy : XOk y Y) (ho : o.op = .binOp .shl t X Y t2) : PureOk P o (oShl k x y) := by
  have hp : PureOk P o (fun en h nx κ => x en (asK k fun a => y en (asN fun n => shl k a n fun r => κ (.i k r) h nx))) :=
    p_sh (k := k) (g := fun k a n => (kindOf k).wrap (a * 2 ^ min n (kindOf k).bits)) hx hy ho (fun en h nx κ => by simp only [shl_eq]) fun a n j w => by simp [binOp, Op.shift, show ¬ ((n : Int) < 0) by omega]
  intro en h nx κ e
  obtain ⟨v, hv, hr⟩ := hx en
  obtain ⟨v2, hv2, hr2⟩ := hy en
  by_cases hl : ∃ k' A, v = .l k' A
  · obtain ⟨k', A, rfl⟩ := hl
    simp only [oShl, hv, hv2] at e
    obtain ⟨b1, e⟩ := br_t e
    obtain ⟨b2, e⟩ := br_t e
    obtain ⟨j, n, rfl, e⟩ := asN_true e
    obtain ⟨b3, e⟩ := br_t e
    rw [fnat_eq] at e
    obtain ⟨M, k1, k2, k3, k4⟩ := laCut_true e
    have b1' := Nat.eq_of_beq_eq_true b1
    have b2' : k < 8 := by simpa [Nat.blt_eq] using b2
    have b3' : n < kbit k := by simpa [Nat.blt_eq] using b3
    subst b1'
    refine ⟨.l k' M, fun h' nx' κ' => ?_, fun θ ac w hE => ⟨_, vr_l θ b2' k3, ?_⟩⟩
    · simp only [oShl, hv, hv2, b1, b2]
      show br (Nat.blt n (kbit k')) _ _ = _
      rw [b3, br_tt, fnat_eq]; exact k1 _
    · obtain ⟨la, ua⟩ := (hr θ ac hE).l b2'
      refine bin_run ho ua (hr2 θ ac hE).i (eqGuard_int _ _ _ _ _ _ _ _) ?_
      rw [kbit_eq] at b3'
      have h64 : (kindOf k').bits ≤ 64 := by rcases k' with _ | _ | _ | _ | _ | _ | _ | k' <;> first | decide | (show IntKind.u64.bits ≤ 64; decide)
      have hm : ln θ.lane (Nat.mul A (Nat.pow 2 n)) = ln θ.lane A * 2 ^ n := by
        refine ln_mul fun i hi => ?_
        have h3 : ln i A < 2 ^ 64 := la.all64 i (by have := θ.lane_lt; omega)
        have h4 : 2 ^ n < 2 ^ 64 := Nat.pow_lt_pow_right (by decide) (by omega)
        exact Nat.lt_of_lt_of_le (Nat.mul_lt_mul'' h3 h4) (by decide)
      have := k4 θ.lane θ.lane_lt
      rw [hm] at this
      simp only [binOp, Op.shift, show ¬ (Int.ofNat n < 0) by simp, if_false, Sem.run_pure, Nat.min_eq_left (Nat.le_of_lt b3'), Int.ofNat_eq_natCast, Int.toNat_natCast]
      refine congrArg (fun x => Result.ok (Value.int (kindOf k') x) w) ?_
      rw [← this]
      congr 1
  · have hsame : ∀ h nx κ, oShl k x y en h nx κ = x en (asK k fun a => y en (asN fun n => shl k a n fun r => κ (.i k r) h nx)) := by
      intro h nx κ
      simp only [oShl, hv]
      cases v <;> first | rfl | exact absurd ⟨_, _, rfl⟩ hl
    rw [hsame] at e
    obtain ⟨v', k1, k2⟩ := hp en h nx κ e
    exact ⟨v', fun h' nx' κ' => (hsame h' nx' κ').trans (k1 h' nx' κ'), k2⟩
theorem p_shr {t t2 : TypeId} {k : Nat} (hx : XOk x X) (hy : XOk y Y) (ho : o.op = .binOp .shr t X Y t2) : PureOk P o (oShr k x y) := by
  have hp : PureOk P o (fun en h nx κ => x en (asK k fun a => y en (asN fun n => shr k a n fun r => κ (.i k r) h nx))) :=
    p_sh (k := k) (g := fun k a n => a.fdiv (2 ^ min n (kindOf k).bits)) hx hy ho (fun en h nx κ => by simp only [shr_eq]) fun a n j w => by simp [binOp, Op.shift, show ¬ ((n : Int) < 0) by omega]
  intro en h nx κ e
  obtain ⟨v, hv, hr⟩ := hx en
  obtain ⟨v2, hv2, hr2⟩ := hy en
  by_cases hl : ∃ k' A, v = .l k' A
  · obtain ⟨k', A, rfl⟩ := hl
    simp only [oShr, hv, hv2] at e
    obtain ⟨b1, e⟩ := br_t e
    obtain ⟨b2, e⟩ := br_t e
    obtain ⟨j, n, rfl, e⟩ := asN_true e
    obtain ⟨b3, e⟩ := br_t e
    rw [fnat_eq] at e
    have b1' := Nat.eq_of_beq_eq_true b1
    have b2' : k < 8 := by simpa [Nat.blt_eq] using b2
    have b3' : n < kbit k := by simpa [Nat.blt_eq] using b3
    subst b1'
    have h64 : (kindOf k').bits ≤ 64 := by rcases k' with _ | _ | _ | _ | _ | _ | _ | k' <;> first | decide | (show IntKind.u64.bits ≤ 64; decide)
    rw [kbit_eq] at b3'
    have hs : ∀ {i : Nat}, i < 256 → Lim (khi k') A → ln i (Nat.land (Nat.shiftRight A n) LM) = ln i A / 2 ^ n := fun {i} hi la => ln_shr hi (by omega) (la.all64 i hi)
    refine ⟨.l k' (Nat.land (Nat.shiftRight A n) LM), fun h' nx' κ' => ?_, fun θ ac w hE => ?_⟩
    · simp only [oShr, hv, hv2, b1, b2]
      show br (Nat.blt n (kbit k')) _ _ = _
      rw [b3, br_tt, fnat_eq]
    · obtain ⟨la, ua⟩ := (hr θ ac hE).l b2'
      refine ⟨_, vr_l θ b2' (fun i hi => by rw [hs hi la]; exact Nat.lt_of_le_of_lt (Nat.div_le_self _ _) (la i hi)), bin_run ho ua (hr2 θ ac hE).i (eqGuard_int _ _ _ _ _ _ _ _) ?_⟩
      rw [hs θ.lane_lt la]
      simp only [binOp, Op.shift, show ¬ (Int.ofNat n < 0) by simp, if_false, Sem.run_pure, Nat.min_eq_left (Nat.le_of_lt b3'), Int.ofNat_eq_natCast, Int.toNat_natCast]
      refine congrArg (fun x => Result.ok (Value.int (kindOf k') x) w) ?_
      rw [Int.fdiv_eq_ediv_of_nonneg _ (by exact Int.pow_nonneg (by decide))]
      simp
  · have hsame : ∀ h nx κ, oShr k x y en h nx κ = x en (asK k fun a => y en (asN fun n => shr k a n fun r => κ (.i k r) h nx)) := by
      intro h nx κ
      simp only [oShr, hv]
      cases v <;> first | rfl | exact absurd ⟨_, _, rfl⟩ hl
    rw [hsame] at e
    obtain ⟨v', k1, k2⟩ := hp en h nx κ e
    exact ⟨v', fun h' nx' κ' => (hsame h' nx' κ').trans (k1 h' nx' κ'), k2⟩
theorem zLt_true {m : Nat} {b : Int} {κ : Bool → R} (e : zLt m b κ = true) : ∃ c, (∀ κ', zLt m b κ' = κ' c) ∧ κ c = true ∧ ∀ z : Int, (m = 0 → z < 0) → (0 < m → (m : Int) ≤ z) → decide (z < b) = c := by
  cases b with
  | negSucc b => cases e
  | ofNat b =>
    rcases br_true e with ⟨h1, e1⟩ | ⟨h1, e1⟩
    · have h0 := Nat.eq_of_beq_eq_true h1
      refine ⟨true, fun κ' => ?_, e1, fun z h2 _ => decide_eq_true ?_⟩
      · show br (Nat.beq m 0) _ _ = _
        rw [h1]; rfl
      · have := h2 h0
        simp only [Int.ofNat_eq_natCast]; omega
    · obtain ⟨h2, e2⟩ := br_t e1
      refine ⟨false, fun κ' => ?_, e2, fun z _ h3 => decide_eq_false ?_⟩
      · show br (Nat.beq m 0) _ (br (Nat.ble b m) _ _) = _
        rw [h1, h2]; rfl
      · have hb := Nat.le_of_ble_eq_true h2
        have hm : 0 < m := by
          rcases Nat.eq_zero_or_pos m with h | h
          · subst h; cases h1
          · exact h
        have := h3 hm
        simp only [Int.ofNat_eq_natCast]; omega
/-- two numbers, one of them in lanes: which is less -/
theorem ltm_run {A B : Nat} {k : Nat} {θ : Th} {t : TypeId} {w : World} (la : Lim (khi k) A) (lb : Lim (khi k) B) :
    (binOp .lss t (.int (kindOf k) (ln θ.lane A : Nat)) (.int (kindOf k) (ln θ.lane B : Nat))).run P w = .ok (.bool (ln θ.lane (ltm A B) != 0)) w := by
  rw [ln_ltm θ.lane_lt la.all64 lb.all64]
  by_cases h : ln θ.lane A < ln θ.lane B
  · rw [if_pos h]; simp [binOp, Op.intCmp, h]
  · rw [if_neg h]; simp [binOp, Op.intCmp, h]
theorem ltV_w {k : Nat} {a b : AV} (hb : isXi b = false) (κ : AV → R) : ltV k a b κ = ltW k a b κ := by
  unfold ltV; rw [hb]; rfl
theorem ltV_old {k : Nat} {a b : AV} (hb : isXi b = false) (hz : ∀ n m, a ≠ .z n m) (hl : isLL a b = false) (κ : AV → R) : ltV k a b κ = asK k (fun a => asK k (fun b => cmLt a b fun c => fbool c fun c => κ (.b c)) b) a := by
  have e : ltV k a b κ = br (isLL a b) (lnK k a fun A => lnK k b fun B => ltmK A B fun Y => lbK Y κ) (asK k (fun a => asK k (fun b => cmLt a b fun c => fbool c fun c => κ (.b c)) b) a) := by
    rw [ltV_w hb]
    cases a <;> first | rfl | exact absurd rfl (hz _ _)
  rw [e, hl, br_ff]
theorem ltV_la {k : Nat} {a b : AV} (hb : isXi b = false) (hz : ∀ n m, a ≠ .z n m) (hl : isLL a b = true) (κ : AV → R) : ltV k a b κ = lnK k a fun A => lnK k b fun B => ltmK A B fun Y => lbK Y κ := by
  have e : ltV k a b κ = br (isLL a b) (lnK k a fun A => lnK k b fun B => ltmK A B fun Y => lbK Y κ) (asK k (fun a => asK k (fun b => cmLt a b fun c => fbool c fun c => κ (.b c)) b) a) := by
    rw [ltV_w hb]
    cases a <;> first | rfl | exact absurd rfl (hz _ _)
  rw [e, hl, br_tt]
theorem p_lt {t t2 : TypeId} {k : Nat} (hx : XOk x X) (hy : XOk y Y) (ho : o.op = .binOp .lss t X Y t2) : PureOk P o (oLt k x y) := by
  have hp : PureOk P o (fun en h nx κ => x en (asK k fun a => y en (asK k fun b => cmLt a b (kB κ h nx)))) :=
    p_cmp (k := k) (g := fun a b => decide (a < b)) hx hy ho (fun en h nx κ => by simp only [cmLt_eq, kB_eq]) fun a b w => by simp [binOp, Op.intCmp]
  intro en h nx κ e
  obtain ⟨v, hv, hr⟩ := hx en
  obtain ⟨v2, hv2, hr2⟩ := hy en
  by_cases hxi : ∃ n k' r m, v2 = .xi n k' r m
  · obtain ⟨n, k', r, m, rfl⟩ := hxi
    have hs : ∀ h' nx' (κ' : K), oLt k x y en h' nx' κ' = xoLt n k' r k v (fun v => κ' v h' nx') := fun h' nx' κ' => by
      simp only [oLt, hv, hv2]; rfl
    rw [hs] at e
    unfold xoLt at e
    obtain ⟨b1, e⟩ := br_t e
    obtain ⟨b2, e⟩ := br_t e
    have b1' := Nat.eq_of_beq_eq_true b1
    have b2' := Nat.eq_of_beq_eq_true b2
    subst b1' b2'
    by_cases hi : ∃ k2 c, v = .i k2 c
    · obtain ⟨k2, c, rfl⟩ := hi
      obtain ⟨b3, e⟩ := br_t (c := Nat.beq k2 3) e
      have b3' := Nat.eq_of_beq_eq_true b3
      subst b3'
      cases c with
      | negSucc c => cases e
      | ofNat c =>
        rcases br_true (c := Nat.ble (Nat.add r 255) c) e with ⟨b4, _⟩ | ⟨b4, _⟩
        · refine ⟨.b false, fun h' nx' κ' => ?_, fun θ ac w hE => ⟨_, vr_b θ false, ?_⟩⟩
          · rw [hs]; show br (Nat.ble (Nat.add r 255) c) _ _ = _; rw [b4]; rfl
          · obtain ⟨hok, hY⟩ := hr2 θ ac hE
            obtain ⟨h2, w', w1, w2, w3⟩ := xo_num (by omega) hok
            refine bin_run ho (hr θ ac hE).i (hY.trans w3) (eqGuard_int _ _ _ _ _ _ _ _) ?_
            have b4 : r + 255 ≤ c := Nat.le_of_ble_eq_true b4
            show (binOp .lss t (.int .i64 (c : Int)) (.int .i64 (xnat (θ.ext n) + (r : Int)))).run P w = _
            rw [w1]
            have : ¬ ((c : Int) < (w' : Int) + (r : Int)) := by omega
            simp [binOp, Op.intCmp, this]
        · refine ⟨.xi n 15 r c, fun h' nx' κ' => ?_, fun θ ac w hE => ?_⟩
          · rw [hs]; show br (Nat.ble (Nat.add r 255) c) _ _ = _; rw [b4]; rfl
          · obtain ⟨hok, hY⟩ := hr2 θ ac hE
            obtain ⟨h2, w', w1, w2, w3⟩ := xo_num (by omega) hok
            refine ⟨_, ⟨xo_ok (by omega) w' w1 w2 h2, rfl⟩, bin_run ho (hr θ ac hE).i (hY.trans w3) (eqGuard_int _ _ _ _ _ _ _ _) ?_⟩
            show (binOp .lss t (.int .i64 (c : Int)) (.int .i64 (xnat (θ.ext n) + (r : Int)))).run P w = .ok (.bool (decide ((c : Int) < xnat (θ.ext n) + r))) w
            simp [binOp, Op.intCmp]
    by_cases hi2 : ∃ k2 N, v = .l k2 N
    · obtain ⟨k2, N, rfl⟩ := hi2
      obtain ⟨b3, e⟩ := br_t (c := Nat.beq k2 3) e
      have b3' := Nat.eq_of_beq_eq_true b3
      subst b3'
      refine ⟨.xi n 16 r N, fun h' nx' κ' => ?_, fun θ ac w hE => ?_⟩
      · rw [hs]; rfl
      · obtain ⟨hok, hY⟩ := hr2 θ ac hE
        obtain ⟨h2, w', w1, w2, w3⟩ := xo_num (by omega) hok
        obtain ⟨_, ua⟩ := (hr θ ac hE).l (by omega)
        refine ⟨_, ⟨xo_ok (by omega) w' w1 w2 h2, rfl⟩, bin_run ho ua (hY.trans w3) (eqGuard_int _ _ _ _ _ _ _ _) ?_⟩
        show (binOp .lss t (.int .i64 (ln θ.lane N : Int)) (.int .i64 (xnat (θ.ext n) + (r : Int)))).run P w = .ok (.bool (decide ((ln θ.lane N : Int) < xnat (θ.ext n) + r))) w
        simp [binOp, Op.intCmp]
    · exfalso
      cases v <;> first | (cases e; done) | exact hi ⟨_, _, rfl⟩ | exact hi2 ⟨_, _, rfl⟩
  have hb2 : isXi v2 = false := by
    cases v2 <;> first | rfl | exact absurd ⟨_, _, _, _, rfl⟩ hxi
  by_cases hz : ∃ n m, v = .z n m
  · obtain ⟨n, m, rfl⟩ := hz
    have hs : ∀ h' nx' (κ' : K), oLt k x y en h' nx' κ' = br (Nat.beq k 3) (asK 3 (fun b => zLt m b fun c => κ' (.b c) h' nx') v2) false := fun h' nx' κ' => by
      simp only [oLt, hv, hv2, ltV_w hb2]; rfl
    rw [hs] at e
    obtain ⟨b1, e1⟩ := br_t e
    obtain ⟨b, rfl, e2⟩ := asK_true e1
    obtain ⟨c, c1, _, c3⟩ := zLt_true e2
    have b1' := Nat.eq_of_beq_eq_true b1
    subst b1'
    refine ⟨.b c, fun h' nx' κ' => by rw [hs, b1, br_tt, asK_i, c1], fun θ ac w hE => ⟨_, vr_b θ c, ?_⟩⟩
    obtain ⟨⟨z1, z2⟩, hX⟩ := hr θ ac hE
    refine bin_run ho hX (hr2 θ ac hE).i (eqGuard_int _ _ _ _ _ _ _ _) ?_
    rw [← c3 _ z1 z2]
    show (binOp .lss t (.int .i64 _) (.int .i64 b)).run P w = _
    simp [binOp, Op.intCmp]
  have hz' : ∀ n m, v ≠ .z n m := fun n m h => hz ⟨n, m, h⟩
  cases hl : isLL v v2 with
  | true =>
    have hs : ∀ h' nx' (κ' : K), oLt k x y en h' nx' κ' = lnK k v (fun A => lnK k v2 fun B => ltmK A B fun Y => lbK Y fun v => κ' v h' nx') := fun h' nx' κ' => by
      simp only [oLt, hv, hv2]; exact ltV_la hb2 hz' hl _
    rw [hs] at e
    obtain ⟨A, a1, e, _, _, a4⟩ := lnK_true e
    obtain ⟨B, b1, e, _, _, b4⟩ := lnK_true e
    unfold ltmK at e
    rw [fnat_eq] at e
    obtain ⟨v', c1, _, c3⟩ := lbK_true e
    refine ⟨v', fun h' nx' κ' => ?_, fun θ ac w hE => ?_⟩
    · rw [hs, a1, b1]
      unfold ltmK
      rw [fnat_eq, c1]
    · obtain ⟨la, ua⟩ := a4 θ _ (hr θ ac hE)
      obtain ⟨lb, ub⟩ := b4 θ _ (hr2 θ ac hE)
      exact ⟨_, c3 (lim_ltm la.all64 lb.all64) θ, bin_run ho ua ub (eqGuard_int _ _ _ _ _ _ _ _) (ltm_run la lb)⟩
  | false =>
    have hsame : ∀ h nx κ, oLt k x y en h nx κ = x en (asK k fun a => y en (asK k fun b => cmLt a b (kB κ h nx))) := by
      intro h nx κ
      simp only [oLt, hv, hv2]
      exact ltV_old hb2 hz' hl _
    rw [hsame] at e
    obtain ⟨v', k1, k2⟩ := hp en h nx κ e
    exact ⟨v', fun h' nx' κ' => (hsame h' nx' κ').trans (k1 h' nx' κ'), k2⟩
theorem p_ge {t t2 : TypeId} {k : Nat} (hx : XOk x X) (hy : XOk y Y) (ho : o.op = .binOp .geq t X Y t2) : PureOk P o (oGe k x y) := by
  have hp : PureOk P o (fun en h nx κ => x en (asK k fun a => y en (asK k fun b => cmLe b a (kB κ h nx)))) :=
    p_cmp (k := k) (g := fun a b => decide (b ≤ a)) hx hy ho (fun en h nx κ => by simp only [cmLe_eq, kB_eq]) fun a b w => by simp [binOp, Op.intCmp]
  intro en h nx κ e
  obtain ⟨v, hv, hr⟩ := hx en
  obtain ⟨v2, hv2, hr2⟩ := hy en
  by_cases hz : ∃ n m, v = .z n m
  · obtain ⟨n, m, rfl⟩ := hz
    have hs : ∀ h' nx' (κ' : K), oGe k x y en h' nx' κ' = br (Nat.beq k 3) (asK 3 (fun b => zLt m b fun c => κ' (.b (not' c)) h' nx') v2) false := fun h' nx' κ' => by
      simp only [oGe, hv, hv2]; rfl
    rw [hs] at e
    obtain ⟨b1, e1⟩ := br_t e
    obtain ⟨b, rfl, e2⟩ := asK_true e1
    obtain ⟨c, c1, _, c3⟩ := zLt_true e2
    have b1' := Nat.eq_of_beq_eq_true b1
    subst b1'
    refine ⟨.b (not' c), fun h' nx' κ' => by rw [hs, b1, br_tt, asK_i, c1], fun θ ac w hE => ⟨_, vr_b θ _, ?_⟩⟩
    obtain ⟨⟨z1, z2⟩, hX⟩ := hr θ ac hE
    refine bin_run ho hX (hr2 θ ac hE).i (eqGuard_int _ _ _ _ _ _ _ _) ?_
    rw [← c3 _ z1 z2, not'_eq, ← decide_not]
    show (binOp .geq t (.int .i64 _) (.int .i64 b)).run P w = _
    simp [binOp, Op.intCmp, Int.not_lt]
  have hz' : ∀ n m, v ≠ .z n m := fun n m h => hz ⟨n, m, h⟩
  have hge : ∀ κ : AV → R, geV k v v2 κ = br (isLL v v2) (lnK k v fun A => lnK k v2 fun B => ltmK A B fun Y => fnat (Nat.xor LO Y) fun Y => lbK Y κ) (asK k (fun a => asK k (fun b => cmLe b a fun c => fbool c fun c => κ (.b c)) v2) v) := by
    intro κ
    cases v <;> first | rfl | exact absurd rfl (hz' _ _)
  cases hl : isLL v v2 with
  | true =>
    have hs : ∀ h' nx' (κ' : K), oGe k x y en h' nx' κ' = lnK k v (fun A => lnK k v2 fun B => ltmK A B fun Y => fnat (Nat.xor LO Y) fun Y => lbK Y fun v => κ' v h' nx') := fun h' nx' κ' => by
      simp only [oGe, hv, hv2, hge, hl, br_tt]
    rw [hs] at e
    obtain ⟨A, a1, e, _, _, a4⟩ := lnK_true e
    obtain ⟨B, b1, e, _, _, b4⟩ := lnK_true e
    unfold ltmK at e
    rw [fnat_eq, fnat_eq] at e
    obtain ⟨v', c1, _, c3⟩ := lbK_true e
    refine ⟨v', fun h' nx' κ' => ?_, fun θ ac w hE => ?_⟩
    · rw [hs, a1, b1]
      unfold ltmK
      rw [fnat_eq, fnat_eq, c1]
    · obtain ⟨la, ua⟩ := a4 θ _ (hr θ ac hE)
      obtain ⟨lb, ub⟩ := b4 θ _ (hr2 θ ac hE)
      refine ⟨_, c3 (lim_not la.all64 lb.all64) θ, bin_run ho ua ub (eqGuard_int _ _ _ _ _ _ _ _) ?_⟩
      rw [ltm_not θ.lane_lt la.all64 lb.all64]
      by_cases h : ln θ.lane A < ln θ.lane B
      · rw [if_pos h]; simp [binOp, Op.intCmp]; omega
      · rw [if_neg h]; simp [binOp, Op.intCmp]; omega
  | false =>
    have hsame : ∀ h nx κ, oGe k x y en h nx κ = x en (asK k fun a => y en (asK k fun b => cmLe b a (kB κ h nx))) := by
      intro h nx κ
      simp only [oGe, hv, hv2, hge, hl, br_ff]
      rfl
    rw [hsame] at e
    obtain ⟨v', k1, k2⟩ := hp en h nx κ e
    exact ⟨v', fun h' nx' κ' => (hsame h' nx' κ').trans (k1 h' nx' κ'), k2⟩
theorem p_eq {neg : Bool} {t t2 : TypeId} {k : Nat} (hx : XOk x X) (hy : XOk y Y) (ho : o.op = .binOp (if neg then .neq else .eql) t X Y t2) : PureOk P o (oEq neg k x y) := by
  have hrun : ∀ (a b : Int) (w : World), (binOp (if neg then .neq else .eql) t (.int (kindOf k) a) (.int (kindOf k) b)).run P w = .ok (.bool (eqB neg (not' (a == b)))) w := by
    intro a b w
    cases neg
    · simp [binOp, Op.intCmp, eqB, not']
      cases (a == b) <;> rfl
    · simp [binOp, Op.intCmp, eqB, not', bne]
      cases (a == b) <;> rfl
  have hp : PureOk P o (fun en h nx κ => x en (asK k fun a => y en (asK k fun b => cmEq a b fun c => kB κ h nx (eqB neg (not' c))))) :=
    p_cmp (k := k) (g := fun a b => eqB neg (not' (a == b))) hx hy ho (fun en h nx κ => by simp only [cmEq_eq, kB_eq]) hrun
  intro en h nx κ e
  obtain ⟨v, hv, hr⟩ := hx en
  obtain ⟨v2, hv2, hr2⟩ := hy en
  cases hl : isLL v v2 with
  | true =>
    have hs : ∀ h' nx' (κ' : K), oEq neg k x y en h' nx' κ' = laEq k v v2 (fun c => κ' (.b (eqB neg (not' c))) h' nx') := fun h' nx' κ' => by
      simp only [oEq, hv, hv2, eqV, hl, br_tt]
    rw [hs] at e
    obtain ⟨r, r1, _, r3⟩ := laEq_true e
    refine ⟨.b (eqB neg (not' r)), fun h' nx' κ' => by rw [hs, r1], fun θ ac w hE => ?_⟩
    obtain ⟨a, b, ua, ub, hab⟩ := r3 θ _ _ (hr θ ac hE) (hr2 θ ac hE)
    refine ⟨_, vr_b θ _, bin_run ho ua ub (by cases neg <;> rfl) ?_⟩
    rw [hrun, hab]
    congr 4
    by_cases h : a = b
    · subst h; simp
    · have : ¬ (a : Int) = (b : Int) := by omega
      rw [beq_false_of_ne h, beq_false_of_ne this]
  | false =>
    have hsame : ∀ h nx κ, oEq neg k x y en h nx κ = x en (asK k fun a => y en (asK k fun b => cmEq a b fun c => kB κ h nx (eqB neg (not' c)))) := by
      intro h nx κ
      simp only [oEq, hv, hv2, eqV, hl, br_ff]
      rfl
    rw [hsame] at e
    obtain ⟨v', k1, k2⟩ := hp en h nx κ e
    exact ⟨v', fun h' nx' κ' => (hsame h' nx' κ').trans (k1 h' nx' κ'), k2⟩
theorem p_gt {t t2 : TypeId} {k : Nat} (hx : XOk x X) (hy : XOk y Y) (ho : o.op = .binOp .gtr t X Y t2) : PureOk P o (oGt k x y) := by
  have hp : PureOk P o (fun en h nx κ => x en (asK k fun a => y en (asK k fun b => cmLt b a (kB κ h nx)))) :=
    p_cmp (k := k) (g := fun a b => decide (b < a)) hx hy ho (fun en h nx κ => by simp only [cmLt_eq, kB_eq]) fun a b w => by simp [binOp, Op.intCmp]
  intro en h nx κ e
  obtain ⟨v, hv, hr⟩ := hx en
  obtain ⟨v2, hv2, hr2⟩ := hy en
  by_cases hxi : ∃ n k' r m, v = .xi n k' r m
  · obtain ⟨n, k', r, m, rfl⟩ := hxi
    simp only [oGt, hv, hv2] at e
    obtain ⟨b1, e⟩ := br_t e
    obtain ⟨b2, e⟩ := br_t e
    obtain ⟨b, rfl, e5⟩ := asK_true e
    rw [cmEq_eq] at e5
    obtain ⟨b3, e6⟩ := br_t e5
    have b1' := Nat.eq_of_beq_eq_true b1
    have b2' := Nat.eq_of_beq_eq_true b2
    have b3' : b = .ofNat 100 := by simpa using b3
    subst b1' b2' b3'
    refine ⟨.b (Nat.blt 0 m), fun h' nx' κ' => ?_, fun θ ac w hE => ⟨_, vr_b θ _, ?_⟩⟩
    · simp only [oGt, hv, hv2]
      show br (Nat.blt 0 m) (κ' (.b true) h' nx') (κ' (.b false) h' nx') = _
      cases Nat.blt 0 m <;> rfl
    · obtain ⟨hok, hX⟩ := hr θ ac hE
      obtain ⟨z, z0, z1, z2⟩ := xi_len hok
      have hX : ac.eval X = .int .i64 (z : Int) := by rw [hX, z0]
      refine bin_run ho hX (hr2 θ ac hE).i (eqGuard_int _ _ _ _ _ _ _ _) ?_
      have hd : decide ((100 : Int) < (z : Int)) = Nat.blt 0 m := by
        cases hb : Nat.blt 0 m with
        | true => have : 0 < m := by simpa [Nat.blt_eq] using hb
                  exact decide_eq_true (by have := z2 this; omega)
        | false => have : m = 0 := by
                     rcases Nat.eq_zero_or_pos m with h | h
                     · exact h
                     · rw [show Nat.blt 0 m = true by simpa [Nat.blt_eq] using h] at hb; cases hb
                   exact decide_eq_false (by have := z1 this; omega)
      rw [← hd]
      show (binOp .gtr t (.int .i64 (z : Int)) (.int .i64 (100 : Int))).run P w = _
      simp [binOp, Op.intCmp]
  · have hbr : ∀ h nx κ, oGt k x y en h nx κ = br (isLL v v2) (lnK k v fun A => lnK k v2 fun B => ltmK B A fun Y => lbK Y fun v => κ v h nx) (asK k (fun a => asK k (fun b => cmLt b a (kB κ h nx)) v2) v) := by
      intro h nx κ
      simp only [oGt, hv, hv2]
      cases v <;> first | rfl | exact absurd ⟨_, _, _, _, rfl⟩ hxi
    cases hl : isLL v v2 with
    | true =>
      have hs : ∀ h' nx' (κ' : K), oGt k x y en h' nx' κ' = lnK k v (fun A => lnK k v2 fun B => ltmK B A fun Y => lbK Y fun v => κ' v h' nx') := fun h' nx' κ' => by
        rw [hbr, hl]; rfl
      rw [hs] at e
      obtain ⟨A, a1, e, _, _, a4⟩ := lnK_true e
      obtain ⟨B, b1, e, _, _, b4⟩ := lnK_true e
      unfold ltmK at e
      rw [fnat_eq] at e
      obtain ⟨v', c1, _, c3⟩ := lbK_true e
      refine ⟨v', fun h' nx' κ' => ?_, fun θ ac w hE => ?_⟩
      · rw [hs, a1, b1]
        unfold ltmK
        rw [fnat_eq, c1]
      · obtain ⟨la, ua⟩ := a4 θ _ (hr θ ac hE)
        obtain ⟨lb, ub⟩ := b4 θ _ (hr2 θ ac hE)
        refine ⟨_, c3 (lim_ltm lb.all64 la.all64) θ, bin_run ho ua ub (eqGuard_int _ _ _ _ _ _ _ _) ?_⟩
        rw [ln_ltm θ.lane_lt lb.all64 la.all64]
        by_cases h : ln θ.lane B < ln θ.lane A
        · rw [if_pos h]; simp [binOp, Op.intCmp, h]
        · rw [if_neg h]; simp [binOp, Op.intCmp, h]
    | false =>
    have hsame : ∀ h nx κ, oGt k x y en h nx κ = x en (asK k fun a => y en (asK k fun b => cmLt b a (kB κ h nx))) := by
      intro h nx κ
      simp only [hbr, hl, hv, hv2]
      rfl
    rw [hsame] at e
    obtain ⟨v', k1, k2⟩ := hp en h nx κ e
    exact ⟨v', fun h' nx' κ' => (hsame h' nx' κ').trans (k1 h' nx' κ'), k2⟩
theorem p_le {t t2 : TypeId} {k : Nat} (hx : XOk x X) (hy : XOk y Y) (ho : o.op = .binOp .leq t X Y t2) : PureOk P o (oLe k x y) := by
  have hp : PureOk P o (fun en h nx κ => x en (asK k fun a => y en (asK k fun b => cmLe a b (kB κ h nx)))) :=
    p_cmp (k := k) (g := fun a b => decide (a ≤ b)) hx hy ho (fun en h nx κ => by simp only [cmLe_eq, kB_eq]) fun a b w => by simp [binOp, Op.intCmp]
  intro en h nx κ e
  obtain ⟨v, hv, hr⟩ := hx en
  obtain ⟨v2, hv2, hr2⟩ := hy en
  have hbr : ∀ h nx κ, oLe k x y en h nx κ = br (isLL v v2) (lnK k v fun A => lnK k v2 fun B => ltmK B A fun Y => fnat (Nat.xor LO Y) fun Y => lbK Y fun v => κ v h nx) (asK k (fun a => asK k (fun b => cmLe a b (kB κ h nx)) v2) v) := by
    intro h nx κ
    simp only [oLe, hv, hv2]
  cases hl : isLL v v2 with
  | true =>
    have hs : ∀ h' nx' (κ' : K), oLe k x y en h' nx' κ' = lnK k v (fun A => lnK k v2 fun B => ltmK B A fun Y => fnat (Nat.xor LO Y) fun Y => lbK Y fun v => κ' v h' nx') := fun h' nx' κ' => by
      rw [hbr, hl]; rfl
    rw [hs] at e
    obtain ⟨A, a1, e, _, _, a4⟩ := lnK_true e
    obtain ⟨B, b1, e, _, _, b4⟩ := lnK_true e
    unfold ltmK at e
    rw [fnat_eq, fnat_eq] at e
    obtain ⟨v', c1, _, c3⟩ := lbK_true e
    refine ⟨v', fun h' nx' κ' => ?_, fun θ ac w hE => ?_⟩
    · rw [hs, a1, b1]
      unfold ltmK
      rw [fnat_eq, fnat_eq, c1]
    · obtain ⟨la, ua⟩ := a4 θ _ (hr θ ac hE)
      obtain ⟨lb, ub⟩ := b4 θ _ (hr2 θ ac hE)
      refine ⟨_, c3 (lim_not lb.all64 la.all64) θ, bin_run ho ua ub (eqGuard_int _ _ _ _ _ _ _ _) ?_⟩
      rw [ltm_not θ.lane_lt lb.all64 la.all64]
      by_cases h : ln θ.lane B < ln θ.lane A
      · rw [if_pos h]; simp [binOp, Op.intCmp]; omega
      · rw [if_neg h]; simp [binOp, Op.intCmp]; omega
  | false =>
    have hsame : ∀ h nx κ, oLe k x y en h nx κ = x en (asK k fun a => y en (asK k fun b => cmLe a b (kB κ h nx))) := by
      intro h nx κ
      simp only [hbr, hl, hv, hv2]
      rfl
    rw [hsame] at e
    obtain ⟨v', k1, k2⟩ := hp en h nx κ e
    exact ⟨v', fun h' nx' κ' => (hsame h' nx' κ').trans (k1 h' nx' κ'), k2⟩
theorem p_bin {op : BinOp} {t t2 : TypeId} {k : Nat} (hx : XOk x X) (hy : XOk y Y) (ho : o.op = .binOp op t X Y t2) : PureOk P o (dBin op k x y) := by
  cases op
  case add => exact p_ad hx hy ho
  case sub => exact p_ar hx hy ho fun a b κ _ => ⟨_, fun κ' => arSub_eq k a b κ', fun w => by simp [binOp, Op.intArith]⟩
  case mul => exact p_la hx hy ho (fun a b κ _ => ⟨_, fun κ' => arMul_eq k a b κ', fun w => by simp [binOp, Op.intArith]⟩) (laMul_ok k)
  case quo => exact p_ar hx hy ho fun a b κ e => ⟨_, fun κ' => arQuo_eq k a b κ' (isZ_true e).1, fun w => by simp [binOp, Op.intDiv, (isZ_true e).1]⟩
  case rem => exact p_rem hx hy ho
  case and => exact p_la hx hy ho (fun a b κ e => ⟨_, fun κ' => arAnd_eq k a b κ', fun w => by simp [binOp, Op.intBits, bitsI]⟩) (laAnd_ok k)
  case or => exact p_la hx hy ho (fun a b κ e => ⟨_, fun κ' => arOr_eq k a b κ', fun w => by simp [binOp, Op.intBits, bitsI]⟩) (laOr_ok k)
  case xor => exact p_la hx hy ho (fun a b κ e => ⟨_, fun κ' => arXor_eq k a b κ', fun w => by simp [binOp, Op.intBits, bitsI]⟩) (laXor_ok k)
  case andNot => exact p_ar hx hy ho fun a b κ e => ⟨_, fun κ' => arAnn_eq k a b κ', fun w => by simp [binOp, Op.intBits, bitsI]⟩
  case shl => exact p_shl hx hy ho
  case shr => exact p_shr hx hy ho
  case eql => exact p_eq (neg := false) hx hy ho
  case neq => exact p_eq (neg := true) hx hy ho
  case lss => exact p_lt hx hy ho
  case leq => exact p_le hx hy ho
  case gtr => exact p_gt hx hy ho
  case geq => exact p_ge hx hy ho

/-! ### Two texts, two bools -/
theorem p_str {op : BinOp} {t t2 : TypeId} {g : List Nat → List Nat → Bool} (hx : XOk x X) (hy : XOk y Y) (ho : o.op = .binOp op t X Y t2)
    (hg : ∀ a b w, (∀ x ∈ a, x < 256) → (∀ x ∈ b, x < 256) → (binOp op t (.string (bytesOf a)) (.string (bytesOf b))).run P w = .ok (.bool (g a b)) w) : PureOk P o (oSS g x y) := by
  intro en h nx κ e
  obtain ⟨v, hv, hr⟩ := hx en
  obtain ⟨v2, hv2, hr2⟩ := hy en
  simp only [oSS, hv, hv2] at e
  obtain ⟨a, rfl, e1⟩ := asS_true e
  obtain ⟨b, rfl, e2⟩ := asS_true e1
  refine ⟨.b (g a b), fun h' nx' κ' => ?_, fun θ ac w hE => ⟨_, vr_b θ _, ?_⟩⟩
  · simp only [oSS, hv, hv2]
    exact kB_eq _ _ _ _
  · exact bin_run ho (hr θ ac hE).s.1 (hr2 θ ac hE).s.1 (by cases op <;> rfl) (hg a b w (hr θ ac hE).s.2 (hr2 θ ac hE).s.2)
theorem p_cat {t t2 : TypeId} (hx : XOk x X) (hy : XOk y Y) (ho : o.op = .binOp .add t X Y t2) : PureOk P o (oCat x y) := by
  intro en h nx κ e
  obtain ⟨v, hv, hr⟩ := hx en
  obtain ⟨v2, hv2, hr2⟩ := hy en
  simp only [oCat, hv, hv2] at e
  obtain ⟨a, rfl, e1⟩ := asS_true e
  obtain ⟨b, rfl, e2⟩ := asS_true e1
  obtain ⟨hl, e3⟩ := br_t e2
  refine ⟨.s (a ++ b), fun h' nx' κ' => ?_, fun θ ac w hE => ⟨_, ⟨?_, rfl⟩, ?_⟩⟩
  · simp only [oCat, hv, hv2]
    show br (Nat.blt (Nat.add (lenN Nat a) (lenN Nat b)) 9223372036854775808) (appK Nat a b fun l => κ' (.s l) h' nx') false = _
    rw [hl]
    exact appK_eq _ _ _
  · intro z hz
    rcases List.mem_append.1 hz with hz | hz
    · exact (hr θ ac hE).s.2 z hz
    · exact (hr2 θ ac hE).s.2 z hz
  · refine bin_run ho (hr θ ac hE).s.1 (hr2 θ ac hE).s.1 rfl ?_
    have hl' : a.length + b.length < 9223372036854775808 := by
      rw [lenN_eq, lenN_eq] at hl
      simpa [Nat.blt_eq] using hl
    have h63 : ¬ ((((bytesOf a).size + (bytesOf b).size : Nat) : Int) > IntKind.i64.max) := by
      rw [bytes_size, bytes_size]
      have : IntKind.i64.max = 9223372036854775807 := by decide
      omega
    simp only [binOp, Op.stringOp, if_neg h63, Sem.run_pure, toV, bytes_append]
theorem by_ok {θ : Th} {v : AV} (h : byOk v) : Ok θ v ∧ ∃ n : Nat, n < 256 ∧ toV θ v = .int .u8 (n : Int) ∧ byV θ v = UInt8.ofNat n := by
  rcases h with ⟨n, rfl, hn⟩ | ⟨N, rfl, hN⟩
  · exact ⟨trivial, n, hn, rfl, rfl⟩
  · exact ⟨.inl ⟨by decide, hN⟩, _, hN _ θ.lane_lt, rfl, rfl⟩
theorem tx_toList (θ : Th) (l : List AV) : (txV θ l).toList = l.map (byV θ) := by
  rw [Go.ByteArray.toList_eq]; simp [txV]
theorem asT_true : ∀ {a b : List AV} {κ : Bool → R}, asT a b κ = true → ∃ r, (∀ κ', asT a b κ' = κ' r) ∧ κ r = true ∧
    ∀ θ, (∀ v ∈ a, byOk v) → (∀ v ∈ b, byOk v) → (txV θ a == txV θ b) = r ∧ (txV θ b == txV θ a) = r
  | [], [], κ, e => ⟨true, fun _ => rfl, e, fun θ _ _ => ⟨by rw [beq_toListBytes]; simp, by rw [beq_toListBytes]; simp⟩⟩
  | [], _ :: _, κ, e => by cases e
  | _ :: _, [], κ, e => by cases e
  | x :: a, y :: b, κ, e => by
    have step : ∀ κ', asT (x :: a) (y :: b) κ' = laEq 4 x y fun q => br q (asT a b κ') (κ' false) := fun _ => rfl
    rw [step] at e
    obtain ⟨q, q1, e1, q3⟩ := laEq_true e
    have hq : ∀ θ, byOk x → byOk y → q = (byV θ x == byV θ y) ∧ q = (byV θ y == byV θ x) := by
      intro θ hx hy
      obtain ⟨ox, n, hn, tx, bx⟩ := by_ok (θ := θ) hx
      obtain ⟨oy, m, hm, ty, by_⟩ := by_ok (θ := θ) hy
      obtain ⟨n', m', e1, e2, e3⟩ := q3 θ _ _ ⟨ox, rfl⟩ ⟨oy, rfl⟩
      rw [tx] at e1; rw [ty] at e2
      injection e1 with _ e1; injection e2 with _ e2
      have e1 : n = n' := by omega
      have e2 : m = m' := by omega
      subst e1 e2
      rw [bx, by_, e3]
      constructor
      · rw [Bool.eq_iff_iff, beq_iff_eq, beq_iff_eq, ofNat_inj hn hm]
      · rw [Bool.eq_iff_iff, beq_iff_eq, beq_iff_eq, ofNat_inj hm hn]; exact eq_comm
    cases q with
    | false =>
      refine ⟨false, fun κ' => by rw [step, q1]; rfl, e1, fun θ ha hb => ?_⟩
      obtain ⟨h1, h2⟩ := hq θ (ha x (by simp)) (hb y (by simp))
      rw [beq_toListBytes, beq_toListBytes, tx_toList, tx_toList]
      simp only [List.map_cons, List.cons_beq_cons, ← h1, ← h2, Bool.false_and, and_self]
    | true =>
      obtain ⟨r, k1, k2, k3⟩ := asT_true (show asT a b κ = true from e1)
      refine ⟨r, fun κ' => by rw [step, q1]; exact k1 κ', k2, fun θ ha hb => ?_⟩
      obtain ⟨h1, h2⟩ := hq θ (ha x (by simp)) (hb y (by simp))
      obtain ⟨j1, j2⟩ := k3 θ (fun v hv => ha v (List.mem_cons_of_mem _ hv)) (fun v hv => hb v (List.mem_cons_of_mem _ hv))
      rw [beq_toListBytes, tx_toList, tx_toList] at j1 j2
      rw [beq_toListBytes, beq_toListBytes, tx_toList, tx_toList]
      simp only [List.map_cons, List.cons_beq_cons, ← h1, ← h2, Bool.true_and]
      exact ⟨j1, j2⟩
theorem asSQ_true {x y : AV} {κ : Bool → R} (e : asSQ x y κ = true) : ∃ r, (∀ κ', asSQ x y κ' = κ' r) ∧ κ r = true ∧ one x = true ∧ one y = true ∧
    ∀ θ u v, VR θ x u → VR θ y v → ∃ a b, u = .string a ∧ v = .string b ∧ (a == b) = r ∧ (b == a) = r := by
  unfold asSQ at e
  split at e
  · rename_i a
    split at e
    · rename_i b
      refine ⟨eqL a b, fun _ => rfl, e, rfl, rfl, fun θ u v hu hv => ⟨_, _, hu.s.1, hv.s.1, ?_, ?_⟩⟩
      · rw [beq_toListBytes, str_eq hu.s.2 hv.s.2]
      · rw [beq_toListBytes, str_eq hv.s.2 hu.s.2, eqL_eq, eqL_eq]
        exact decide_eq_decide.2 ⟨Eq.symm, Eq.symm⟩
    · rename_i n k r m
      obtain ⟨b1, e1⟩ := br_t e
      obtain ⟨b2, e2⟩ := br_t e1
      have b1' := Nat.eq_of_beq_eq_true b1
      subst b1'
      have b2' : a = [r] := by rw [eqL_eq] at b2; simpa using b2
      subst b2'
      refine ⟨false, fun κ' => ?_, e2, rfl, rfl, fun θ u v hu hv => ?_⟩
      · show br (Nat.beq 8 8) (br (eqL [r] [r]) (κ' false) false) false = _
        rw [b1, b2]; rfl
      · obtain ⟨_, s, k1, _, _, k2, k3⟩ := xi_str hv.1
        exact ⟨_, s, hu.s.1, hv.2.trans k1, k3, k2⟩
    · cases e
  · rename_i n k r m
    split at e
    · rename_i b
      obtain ⟨b1, e1⟩ := br_t e
      obtain ⟨b2, e2⟩ := br_t e1
      have b1' := Nat.eq_of_beq_eq_true b1
      subst b1'
      have b2' : b = [r] := by rw [eqL_eq] at b2; simpa using b2
      subst b2'
      refine ⟨false, fun κ' => ?_, e2, rfl, rfl, fun θ u v hu hv => ?_⟩
      · show br (Nat.beq 8 8) (br (eqL [r] [r]) (κ' false) false) false = _
        rw [b1, b2]; rfl
      · obtain ⟨_, s, k1, _, _, k2, k3⟩ := xi_str hu.1
        exact ⟨s, _, hu.2.trans k1, hv.s.1, k2, k3⟩
    · cases e
  · rename_i a
    split at e
    · rename_i b
      obtain ⟨r, k1, k2, k3⟩ := asT_true e
      exact ⟨r, k1, k2, rfl, rfl, fun θ u v hu hv => ⟨_, _, hu.2, hv.2, (k3 θ hu.1 hv.1).1, (k3 θ hu.1 hv.1).2⟩⟩
    · cases e
  · cases e
theorem p_sq {op : BinOp} {t t2 : TypeId} {neg : Bool} (hx : XOk x X) (hy : XOk y Y) (ho : o.op = .binOp op t X Y t2)
    (hg : ∀ a b w, (binOp op t (.string a) (.string b)).run P w = .ok (.bool (eqB neg (not' (a == b)))) w) : PureOk P o (oSQ neg x y) := by
  intro en h nx κ e
  obtain ⟨v, hv, hr⟩ := hx en
  obtain ⟨v2, hv2, hr2⟩ := hy en
  simp only [oSQ, hv, hv2] at e
  obtain ⟨r, k1, _, _, _, k2⟩ := asSQ_true e
  refine ⟨.b (eqB neg (not' r)), fun h' nx' κ' => ?_, fun θ ac w hE => ⟨_, vr_b θ _, ?_⟩⟩
  · simp only [oSQ, hv, hv2, k1]
  · obtain ⟨a, b, h1, h2, h3, _⟩ := k2 θ _ _ (hr θ ac hE) (hr2 θ ac hE)
    rw [← h3]
    exact bin_run ho h1 h2 (by cases op <;> rfl) (hg a b w)
theorem p_bs {op : BinOp} {t t2 : TypeId} (hx : XOk x X) (hy : XOk y Y) (ho : o.op = .binOp op t X Y t2) : PureOk P o (dBs op x y) := by
  have hbad : PureOk P o oBad := fun en h nx κ e => by cases e
  cases op
  case add => exact p_cat hx hy ho
  case eql => exact p_sq (neg := false) hx hy ho fun a b w => by rw [beq_toListBytes]; simp only [binOp, Op.stringOp, Sem.run_pure]; cases (a.toList == b.toList) <;> rfl
  case neq => exact p_sq (neg := true) hx hy ho fun a b w => by rw [beq_toListBytes]; simp only [binOp, Op.stringOp, Sem.run_pure, bne]; cases (a.toList == b.toList) <;> rfl
  case lss => exact p_str hx hy ho fun a b w ha hb => by simp [binOp, Op.stringOp, str_lt ha hb, sLt]
  case leq => exact p_str hx hy ho fun a b w ha hb => by simp [binOp, Op.stringOp, str_lt ha hb, str_eq ha hb, sLe, or'_eq]
  case gtr => exact p_str hx hy ho fun a b w ha hb => by simp [binOp, Op.stringOp, str_lt ha hb, str_eq ha hb, sGt, not'_eq, or'_eq]
  case geq => exact p_str hx hy ho fun a b w ha hb => by simp [binOp, Op.stringOp, str_lt ha hb, sGe, not'_eq]
  all_goals exact hbad
theorem run_equal_bool {t : TypeId} {w : World} (hu : P.underlying t = some .bool) (m n : Bool) : (Op.equal t (.bool m) (.bool n)).run P w = .ok (m == n) w := by
  have h : ∀ d : Nat, (Op.equalIn (d + 1) t (.bool m) (.bool n)).run P w = .ok (m == n) w := fun d => by simp [Op.equalIn, run_underlying hu]
  exact h 9999
theorem p_bb {neg : Bool} {t t2 : TypeId} (hx : XOk x X) (hy : XOk y Y) (hu : P.underlying t = some .bool) (ho : o.op = .binOp (if neg then .neq else .eql) t X Y t2) : PureOk P o (oBB neg x y) := by
  intro en h nx κ e
  obtain ⟨v, hv, hr⟩ := hx en
  obtain ⟨v2, hv2, hr2⟩ := hy en
  simp only [oBB, hv, hv2] at e
  obtain ⟨a, rfl, e1⟩ := asB_true e
  obtain ⟨b, rfl, e2⟩ := asB_true e1
  refine ⟨.b (if neg then !(a == b) else a == b), fun h' nx' κ' => ?_, fun θ ac w hE => ⟨_, vr_b θ _, ?_⟩⟩
  · simp only [oBB, hv, hv2]
    show kB κ' h' nx' (eqB neg (not' (eqB a b))) = _
    rw [kB_eq, negc_eq, eqB_eq]
  · refine bin_run ho (hr θ ac hE).b (hr2 θ ac hE).b (by cases neg <;> rfl) ?_
    cases neg <;> simp [binOp, run_equal_bool hu]

/-! ### One operand -/
theorem p_nt {t : TypeId} (hx : XOk x X) (ho : o.op = .unOp .not t X) : PureOk P o (oNt x) := by
  intro en h nx κ e
  obtain ⟨v, hv, hr⟩ := hx en
  simp only [oNt, hv] at e
  obtain ⟨a, rfl, e1⟩ := asB_true e
  refine ⟨.b !a, fun h' nx' κ' => ?_, fun θ ac w hE => ⟨_, vr_b θ _, ?_⟩⟩
  · simp only [oNt, hv]
    show kB κ' h' nx' (not' a) = _
    rw [kB_eq, not'_eq]
  · simp [execOp, ho, (hr θ ac hE).b, Op.unary]
theorem p_ng {t : TypeId} (hx : XOk x X) (ho : o.op = .unOp .neg t X) : PureOk P o (oNg x) := by
  intro en h nx κ e
  obtain ⟨v, hv, hr⟩ := hx en
  simp only [oNg, hv] at e
  obtain ⟨k, n, rfl, e1⟩ := asI_true e
  refine ⟨.i k ((kindOf k).wrap (0 - n)), fun h' nx' κ' => ?_, fun θ ac w hE => ⟨_, vr_i θ _ _, ?_⟩⟩
  · simp only [oNg, hv]
    show wrap k (Int.sub 0 n) (fun r => κ' (.i k r) h' nx') = _
    rw [wrap_eq]; rfl
  · simp [execOp, ho, (hr θ ac hE).i, Op.unary, Op.intArith]
theorem ones_eq (k : Nat) : ones k = (if (kindOf k).signed then -1 else (kindOf k).max) := by
  rcases k with _ | _ | _ | _ | _ | _ | _ | k <;> rfl
theorem khi_ones {k : Nat} (h4 : 4 ≤ k) (h8 : k < 8) : (kindOf k).signed = false ∧ (kindOf k).max = ((khi k - 1 : Nat) : Int) := by
  rcases k with _ | _ | _ | _ | _ | _ | _ | _ | k <;> first | omega | (refine ⟨rfl, ?_⟩; decide)
theorem p_cm {t : TypeId} (hx : XOk x X) (ho : o.op = .unOp .xor t X) : PureOk P o (oCm x) := by
  intro en h nx κ e
  obtain ⟨v, hv, hr⟩ := hx en
  by_cases hl : ∃ k A, v = .l k A
  · obtain ⟨k, A, rfl⟩ := hl
    simp only [oCm, hv] at e
    obtain ⟨b1, e⟩ := br_t e
    obtain ⟨b2, e⟩ := br_t e
    rw [fnat_eq] at e
    have b1' := Nat.le_of_ble_eq_true b1
    have b2' : k < 8 := by simpa [Nat.blt_eq] using b2
    have hM : ∀ {i : Nat}, i < 256 → ln i (lMask k) = khi k - 1 := fun {i} hi => ln_LO (Nat.lt_of_le_of_lt (Nat.sub_le _ _) (Nat.lt_of_le_of_lt (khi_le64 k) (by decide))) hi
    have hlt : khi k - 1 < khi k := by
      obtain ⟨b, hb, _⟩ := khi_two k
      have : 0 < 2 ^ b := Nat.pow_pos (by decide)
      omega
    refine ⟨.l k (Nat.xor (lMask k) A), fun h' nx' κ' => ?_, fun θ ac w hE => ?_⟩
    · simp only [oCm, hv, b1, b2, br_tt, fnat_eq]
    · obtain ⟨la, ua⟩ := (hr θ ac hE).l b2'
      have hlane : ∀ {i : Nat}, i < 256 → ln i (Nat.xor (lMask k) A) = (khi k - 1) ^^^ ln i A := fun {i} hi => by
        rw [show Nat.xor (lMask k) A = lMask k ^^^ A from rfl, ln_xor, hM hi]
      have hlim : Lim (khi k) (Nat.xor (lMask k) A) := by
        intro i hi
        obtain ⟨q, hq, _⟩ := khi_pow k
        have h1 := la i hi
        rw [hlane hi]
        rw [hq] at h1 hlt ⊢
        exact Nat.xor_lt_two_pow hlt h1
      refine ⟨_, vr_l θ b2' hlim, ?_⟩
      rw [hlane θ.lane_lt]
      have hb := bits_xor (k := k) hlt (la _ θ.lane_lt)
      obtain ⟨s1, s2⟩ := khi_ones b1' b2'
      simp only [bitsI] at hb
      simp only [execOp, ho, ua, Op.unary, Op.intBits, s1, s2, Bool.false_eq_true, if_false, Sem.run_bind, Sem.run_pure, Result.andThen]
      exact congrArg (fun x => Result.ok (Next.value (Value.int (kindOf k) x)) w) hb
  have hsame : ∀ h nx κ, oCm x en h nx κ = asI (fun k n => arXor k (ones k) n fun r => κ (.i k r) h nx) v := by
    intro h nx κ
    simp only [oCm, hv]
    cases v <;> first | rfl | exact absurd ⟨_, _, rfl⟩ hl
  rw [hsame] at e
  obtain ⟨k, n, rfl, e1⟩ := asI_true e
  refine ⟨.i k (bitsI .xor (kindOf k) (if (kindOf k).signed then -1 else (kindOf k).max) n), fun h' nx' κ' => ?_, fun θ ac w hE => ⟨_, vr_i θ _ _, ?_⟩⟩
  · rw [hsame]
    show arXor k _ n (fun r => κ' (.i k r) h' nx') = _
    rw [ones_eq, arXor_eq]
  · simp [execOp, ho, (hr θ ac hE).i, Op.unary, Op.intBits, bitsI]
theorem p_cvi {s d : TypeId} {k k0 : Nat} {k1 : IntKind} (hx : XOk x X) (hs : P.underlying s = some (.int k1)) (hd : P.underlying d = some (.int (kindOf k))) (ho : o.op = .convert s d X) : PureOk P o (oCvi k x) := by
  intro en h nx κ e
  obtain ⟨v, hv, hr⟩ := hx en
  by_cases hl : ∃ k' A, v = .l k' A
  · obtain ⟨k', A, rfl⟩ := hl
    simp only [oCvi, hv] at e
    obtain ⟨b1, e⟩ := br_t e
    obtain ⟨b2, e⟩ := br_t e
    obtain ⟨M, k1', k2, k3, k4⟩ := laCut_true e
    have b1' : k' < 8 := by simpa [Nat.blt_eq] using b1
    have b2' : k < 8 := by simpa [Nat.blt_eq] using b2
    refine ⟨.l k M, fun h' nx' κ' => ?_, fun θ ac w hE => ⟨_, vr_l θ b2' k3, ?_⟩⟩
    · simp only [oCvi, hv, b1, b2, br_tt]
      exact k1' _
    · obtain ⟨la, ua⟩ := (hr θ ac hE).l b1'
      have := k4 θ.lane θ.lane_lt
      simp [execOp, ho, ua, convert, run_underlying hs, run_underlying hd, Conv.intToInt, this]
  by_cases hxi : ∃ n k' r m, v = .xi n k' r m
  · obtain ⟨n, k', r, m, rfl⟩ := hxi
    simp only [oCvi, hv] at e
    rcases br_true e with ⟨b14, e⟩ | ⟨b14, e⟩
    · obtain ⟨b1, e1⟩ := br_t e
      have b1' := Nat.eq_of_beq_eq_true b1
      have b14' := Nat.eq_of_beq_eq_true b14
      subst b1' b14'
      refine ⟨.xi n 13 0 1, fun h' nx' κ' => by simp only [oCvi, hv]; rfl, fun θ ac w hE => ?_⟩
      obtain ⟨hok, hX⟩ := hr θ ac hE
      obtain ⟨h2, w', w1, w2, w3⟩ := xo_num (by omega) hok
      refine ⟨_, ⟨xo_ok (by omega) w' w1 w2 (by omega), rfl⟩, ?_⟩
      have hX : ac.eval X = .int .u8 (w' : Int) := by rw [hX, w3, ← w1]; rfl
      have hw : (kindOf 3).wrap (w' : Int) = (w' : Int) := wrap_nat (k := 3) (m := w') (by simp only [khi]; omega)
      have hs3 : toV θ (.xi n 13 0 1) = .int (kindOf 3) (w' : Int) := by
        show (Value.int .i64 (xnat (θ.ext n) + ((0 : Nat) : Int))) = _
        rw [w1]; simp [kindOf]
      rw [hs3]
      simp [execOp, ho, hX, convert, run_underlying hs, run_underlying hd, Conv.intToInt, hw]
    obtain ⟨b0, e⟩ := br_t e
    obtain ⟨b1, e1⟩ := br_t e
    have b1' := Nat.eq_of_beq_eq_true b1
    subst b1'
    refine ⟨.xi n 3 r m, fun h' nx' κ' => by simp only [oCvi, hv, b14, b0]; rfl, fun θ ac w hE => ?_⟩
    obtain ⟨hok, hX⟩ := hr θ ac hE
    obtain ⟨w', w0, w1, w2, w3⟩ := xi_num (by simpa [Nat.blt_eq] using b0) hok
    refine ⟨.int (kindOf 3) (xnat (θ.ext n)), ⟨xi_ok (by omega) w' w1 w2 w3, rfl⟩, ?_⟩
    have hX : ac.eval X = .int (kindOf k') (w' : Int) := by rw [hX, w0]
    have hw : (kindOf 3).wrap (w' : Int) = (w' : Int) := wrap_nat (k := 3) (m := w') (by simp only [khi]; omega)
    simp [execOp, ho, hX, convert, run_underlying hs, run_underlying hd, Conv.intToInt, hw, w1]
  · have hsame : ∀ h nx κ, oCvi k x en h nx κ = asI (fun _ n => wrap k n fun r => κ (.i k r) h nx) v := by
      intro h nx κ
      simp only [oCvi, hv]
      cases v <;> first | rfl | exact absurd ⟨_, _, _, _, rfl⟩ hxi | exact absurd ⟨_, _, rfl⟩ hl
    rw [hsame] at e
    obtain ⟨j, n, rfl, e1⟩ := asI_true e
    refine ⟨.i k ((kindOf k).wrap n), fun h' nx' κ' => ?_, fun θ ac w hE => ⟨_, vr_i θ _ _, ?_⟩⟩
    · rw [hsame]
      show wrap k n (fun r => κ' (.i k r) h' nx') = _
      rw [wrap_eq]
    · simp [execOp, ho, (hr θ ac hE).i, convert, run_underlying hs, run_underlying hd, Conv.intToInt]
theorem p_mki {t : TypeId} {d : TypeDesc} (hx : XOk x X) (hu : P.underlying t = some d) (hd : ∀ ms, d ≠ .interface ms) (ho : o.op = .makeInterface t X) : PureOk P o (oMki t x) := by
  intro en h nx κ e
  obtain ⟨v, hv, hr⟩ := hx en
  refine ⟨.ifc t v, fun h' nx' κ' => by simp only [oMki, hv], fun θ a w hE => ⟨.iface t (a.eval X), ⟨(hr θ a hE).1, by rw [(hr θ a hE).2]; rfl⟩, ?_⟩⟩
  simp only [execOp, ho, Instr.makeInterface, Sem.run_bind, run_underlying hu, Result.andThen]
  cases d <;> first | rfl | exact absurd rfl (hd _)
theorem p_mkf {f : FuncId} {xs : XsF} {cs : Array Operand} (hx : XsOk xs cs.toList) (ho : o.op = .makeFunc (.func f) #[] cs) : PureOk P o (oMkf f xs) := by
  intro en h nx κ e
  obtain ⟨vs, hv, _, hr⟩ := hx en
  refine ⟨.fn f vs, fun h' nx' κ' => by simp only [oMkf, hv], fun θ a w hE => ⟨.func (.func f) #[] (cs.map a.eval), ⟨(hr θ a hE).1, ?_⟩, ?_⟩⟩
  · have := (hr θ a hE).2
    have h2 : cs.map a.eval = (toVs θ vs).toArray := by rw [← this]; apply Array.ext'; simp
    rw [h2]; rfl
  · simp [execOp, ho, Instr.makeFunc]
theorem p_ext {n : Nat} (hx : XOk x X) (ho : o.op = .extract X n) : PureOk P o (oExt x n) := by
  intro en h nx κ e
  obtain ⟨v, hv, hr⟩ := hx en
  simp only [oExt, hv] at e
  obtain ⟨l, rfl, e1⟩ := asTu_true e
  rw [nthK_eq] at e1
  cases hl : l[n]? with
  | none => rw [hl] at e1; cases e1
  | some r =>
    refine ⟨r, fun h' nx' κ' => ?_, fun θ ac w hE => ⟨toV θ r, ?_, ?_⟩⟩
    · simp only [oExt, hv]
      show nthK AV _ l n = _
      rw [nthK_eq, hl]
    · exact ⟨Oks_iff.1 (hr θ ac hE).tu.2 r (List.mem_of_getElem? hl), rfl⟩
    · simp [execOp, ho, (hr θ ac hE).tu.1, Instr.extract, toVs_get, hl]
theorem p_fa {s : TypeId} {n k off : Nat} {fs : Array Field} {fd : Field} (hx : XOk x X) (hu : P.underlying s = some (.struct fs)) (hf : fs[n]? = some fd) (hk : sizeT P fd.type = some k) (hk0 : k ≠ 0) (hoff : fd.offset = off)
    (ho : o.op = .fieldAddr s X n) : PureOk P o (oFa x off) := by
  intro en h nx κ e
  obtain ⟨v, hv, hr⟩ := hx en
  simp only [oFa, hv] at e
  obtain ⟨b, i, rfl, e1⟩ := asP_true e
  refine ⟨.p b (i + off), fun h' nx' κ' => ?_, fun θ ac w hE => ⟨_, ⟨(hr θ ac hE).1, rfl⟩, ?_⟩⟩
  · simp only [oFa, hv]
    exact fnat_eq (i + off) fun j => κ' (.p b j) h' nx'
  · have hx' := (hr θ ac hE).p.1
    simp [execOp, ho, hx', Instr.fieldAt, run_underlying hu, hf, Instr.sureAddr, fieldPlace, run_size hk, hk0, Addr.add_lit, hoff, toV, Nat.add_assoc]
theorem p_fld {s : TypeId} {n k off : Nat} {fs : Array Field} {fd : Field} (hx : XOk x X) (hu : P.underlying s = some (.struct fs)) (hf : fs[n]? = some fd) (hk : sizeT P fd.type = some k) (hg : aggT P fd.type = some true) (hoff : fd.offset = off)
    (ho : o.op = .field s X n) : PureOk P o (oFld x off k) := by
  intro en h nx κ e
  obtain ⟨v, hv, hr⟩ := hx en
  simp only [oFld, hv] at e
  obtain ⟨l, rfl, e1⟩ := asAg_true e
  simp only [dropL_eq, takeK_eq, List.length_drop] at e1
  split at e1
  · rename_i hn
    refine ⟨.ag ((l.drop off).take k), fun h' nx' κ' => ?_, fun θ ac w hE => ⟨_, ⟨⟨Oks_take _ (Oks_drop _ (hr θ ac hE).ag.2.1), all_take _ (all_drop _ (hr θ ac hE).ag.2.2)⟩, rfl⟩, ?_⟩⟩
    · simp only [oFld, hv]
      show takeK AV k (dropL AV off l) _ = _
      simp only [dropL_eq, takeK_eq, List.length_drop]
      rw [if_pos hn]
    · obtain ⟨d, hd, hag⟩ := aggT_some (w := w) hg
      have hp : (part fd.type (toVs θ l).toArray fd.offset).run P w = .ok (.agg (toVs θ ((l.drop off).take k)).toArray) w := by
        simp only [part, Sem.run_bind, hag, Result.andThen, if_true, run_size hk, Sem.run_pure]
        congr 2
        apply Array.ext'
        simp [hoff, toVs_map, List.extract_eq_take_drop, List.map_take, List.map_drop]
      simp [execOp, ho, (hr θ ac hE).ag.1, Instr.field, run_underlying hu, hf, asAgg, hp, toV]
  · cases e1
theorem p_fl1 {s : TypeId} {n off : Nat} {fs : Array Field} {fd : Field} (hx : XOk x X) (hu : P.underlying s = some (.struct fs)) (hf : fs[n]? = some fd) (hg : aggT P fd.type = some false) (hoff : fd.offset = off)
    (ho : o.op = .field s X n) : PureOk P o (oFl1 x off) := by
  intro en h nx κ e
  obtain ⟨v, hv, hr⟩ := hx en
  simp only [oFl1, hv] at e
  obtain ⟨l, rfl, e1⟩ := asAg_true e
  rw [nthK_eq] at e1
  cases hl : l[off]? with
  | none => rw [hl] at e1; cases e1
  | some r =>
    refine ⟨r, fun h' nx' κ' => ?_, fun θ ac w hE => ⟨toV θ r, ?_, ?_⟩⟩
    · simp only [oFl1, hv]
      show nthK AV _ l off = _
      rw [nthK_eq, hl]
    · exact ⟨Oks_iff.1 (hr θ ac hE).ag.2.1 r (List.mem_of_getElem? hl), rfl⟩
    · obtain ⟨d, hd, hag⟩ := aggT_some (w := w) hg
      have hp : (part fd.type (toVs θ l).toArray fd.offset).run P w = .ok (toV θ r) w := by
        simp only [part, Sem.run_bind, hag, Result.andThen]
        simp [hoff, toVs_get, hl]
      simp [execOp, ho, (hr θ ac hE).ag.1, Instr.field, run_underlying hu, hf, asAgg, hp]
theorem p_ias {t e' : TypeId} {size : Nat} (hx : XOk x X) (hy : XOk y Y) (hu : P.underlying t = some (.slice e')) (hs : sizeT P e' = some size) (ho : o.op = .indexAddr t X Y) : PureOk P o (oIas x y size) := by
  intro en h nx κ e
  obtain ⟨v, hv, hr⟩ := hx en
  obtain ⟨v2, hv2, hr2⟩ := hy en
  simp only [oIas, hv, hv2] at e
  obtain ⟨b, off, len, cap, rfl, e1⟩ := asSl_true e
  obtain ⟨j, i, rfl, e2⟩ := asN_true e1
  obtain ⟨hl, e3⟩ := br_t e2
  have hl' : i < len := by simpa [Nat.blt_eq] using hl
  refine ⟨.p b (off + i * size), fun h' nx' κ' => ?_, fun θ ac w hE => ⟨_, ⟨(hr θ ac hE).1, rfl⟩, ?_⟩⟩
  · simp only [oIas, hv, hv2]
    show br (Nat.blt i len) (fnat _ _) false = _
    rw [hl]
    exact fnat_eq (off + i * size) fun j => κ' (.p b j) h' nx'
  · obtain ⟨_, c, hx'⟩ := (hr θ ac hE).sl
    have hy' := (hr2 θ ac hE).i
    simp [execOp, ho, hx', hy', Instr.indexAt, asIntOf, run_underlying hu, run_size hs, Addr.add_lit, hl', toV, Nat.add_assoc]
theorem p_iaa {t e' : TypeId} {size len : Nat} (hx : XOk x X) (hy : XOk y Y) (hu : P.underlying t = some (.array len e')) (hs : sizeT P e' = some size) (ho : o.op = .indexAddr t X Y) : PureOk P o (oIaa x y len size) := by
  intro en h nx κ e
  obtain ⟨v, hv, hr⟩ := hx en
  obtain ⟨v2, hv2, hr2⟩ := hy en
  simp only [oIaa, hv, hv2] at e
  obtain ⟨b, off, rfl, e1⟩ := asP_true e
  by_cases hl : ∃ k N, v2 = .l k N
  · obtain ⟨k, N, rfl⟩ := hl
    obtain ⟨b1, e⟩ := br_t (show qK b off len size k N (fun v => κ v h nx) = true from e1)
    obtain ⟨b2, e⟩ := br_t e
    obtain ⟨b3, e⟩ := br_t e
    obtain ⟨b4, e⟩ := br_t e
    have b1' := Nat.eq_of_beq_eq_true b1
    have b2' := Nat.eq_of_beq_eq_true b2
    have b3' : k < 8 := by simpa [Nat.blt_eq] using b3
    subst b1' b2'
    refine ⟨.q b off N, fun h' nx' κ' => ?_, fun θ ac w hE => ?_⟩
    · simp only [oIaa, hv, hv2]
      refine (asP_pi _ b off).trans ?_
      unfold qK
      rw [b1, b2, b3, b4, br_tt, br_tt, br_tt, br_tt]
    · obtain ⟨la, ua⟩ := (hr2 θ ac hE).l b3'
      have h16 : Lim 16 N :=
         lt16 la.all64 b4
      have hx' := (hr θ ac hE).p
      have hl16 := h16 θ.lane θ.lane_lt
      refine ⟨_, ⟨⟨hx'.2, h16⟩, rfl⟩, ?_⟩
      simp [execOp, ho, hx'.1, ua, Instr.indexAt, Instr.sureAddr, asIntOf, run_underlying hu, run_size hs, Addr.add_lit, hl16, toV, Nat.add_assoc]
  have hsame : ∀ h nx κ, oIaa x y len size en h nx κ = asN (fun i => br (Nat.blt i len) (fnat (Nat.add off (Nat.mul i size)) fun j => κ (.p b j) h nx) false) v2 := by
    intro h nx κ
    simp only [oIaa, hv, hv2]
    cases v2 <;> first | rfl | exact absurd ⟨_, _, rfl⟩ hl
  have e1 : asN (fun i => br (Nat.blt i len) (fnat (Nat.add off (Nat.mul i size)) fun j => κ (.p b j) h nx) false) v2 = true := by
    rw [← hsame]; simp only [oIaa, hv, hv2]; exact e1
  obtain ⟨j, i, rfl, e2⟩ := asN_true e1
  obtain ⟨hl, e3⟩ := br_t e2
  have hl' : i < len := by simpa [Nat.blt_eq] using hl
  refine ⟨.p b (off + i * size), fun h' nx' κ' => ?_, fun θ ac w hE => ⟨_, ⟨(hr θ ac hE).1, rfl⟩, ?_⟩⟩
  · rw [hsame]
    show br (Nat.blt i len) (fnat _ _) false = _
    rw [hl]
    exact fnat_eq (off + i * size) fun j => κ' (.p b j) h' nx'
  · have hx' := (hr θ ac hE).p.1
    have hy' := (hr2 θ ac hE).i
    simp [execOp, ho, hx', hy', Instr.indexAt, Instr.sureAddr, asIntOf, run_underlying hu, run_size hs, Addr.add_lit, hl', toV, Nat.add_assoc]
theorem p_ixs {t : TypeId} (hx : XOk x X) (hy : XOk y Y) (hu : P.underlying t = some .string) (ho : o.op = .index t X Y) : PureOk P o (oIxs x y) := by
  intro en h nx κ e
  obtain ⟨v, hv, hr⟩ := hx en
  obtain ⟨v2, hv2, hr2⟩ := hy en
  simp only [oIxs, hv, hv2] at e
  obtain ⟨l, rfl, e1⟩ := asS_true e
  obtain ⟨j, i, rfl, e2⟩ := asN_true e1
  rw [nthK_eq] at e2
  cases hl : l[i]? with
  | none => rw [hl] at e2; cases e2
  | some c =>
    refine ⟨.i 4 (.ofNat c), fun h' nx' κ' => ?_, fun θ ac w hE => ⟨_, vr_i θ _ _, ?_⟩⟩
    · simp only [oIxs, hv, hv2]
      show nthK Nat _ l i = _
      rw [nthK_eq, hl]
    · obtain ⟨hx', hb⟩ := (hr θ ac hE).s
      have hy' := (hr2 θ ac hE).i
      have hc : c < 256 := hb c (List.mem_of_getElem? hl)
      have hget : (bytesOf l)[i]? = some (UInt8.ofNat c) := by
        have hlt : i < l.length := (List.getElem?_eq_some_iff.1 hl).1
        have hs : i < (bytesOf l).size := by rw [bytes_size]; exact hlt
        rw [ByteArray.getElem?_lt' _ _ hs]
        have : (bytesOf l)[i] = (l.map UInt8.ofNat).toArray[i]'(by simpa using hlt) := rfl
        rw [this]
        simp [(List.getElem?_eq_some_iff.1 hl).2]
      have hdat : (bytesOf l).data[i]? = some (UInt8.ofNat c) := by simp [bytesOf, hl]
      simp [execOp, ho, hx', hy', Instr.index, asIntOf, run_underlying hu, hget, hdat, Nat.mod_eq_of_lt hc]
      rfl
end ops
end Go.AM
