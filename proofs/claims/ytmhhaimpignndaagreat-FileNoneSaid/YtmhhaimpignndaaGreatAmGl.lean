/-
  AM, 8a: numbers in lanes. Conditions: none.
-/
import Derived.Test.YtmhhaimpignndaaGreatAmG
namespace Go.AM
open Go

theorem br_tt (a b : R) : br true a b = a := rfl
theorem br_ff (a b : R) : br false a b = b := rfl
theorem asP_pi (κ : Nat → Nat → R) (o i : Nat) : asP κ (.p o i) = κ o i := rfl
theorem khi_le64 (k : Nat) : khi k ≤ 2 ^ 64 := by
  rcases k with _ | _ | _ | _ | _ | _ | _ | k <;> simp [khi]
theorem khi_two (k : Nat) : ∃ b, khi k = 2 ^ b ∧ b ≤ 64 := by
  obtain ⟨n, h, _⟩ := khi_pow k
  refine ⟨n, h, ?_⟩
  have := khi_le64 k
  rw [h] at this
  exact (Nat.pow_le_pow_iff_right (by decide)).1 this
theorem Lim.all64 {k N : Nat} (h : Lim (khi k) N) : Lim (2 ^ 64) N := h.mono (khi_le64 k)
theorem VR.l {θ : Th} {k N : Nat} {u : Value} (h : VR θ (.l k N) u) (hk : k < 8) : Lim (khi k) N ∧ u = .int (kindOf k) (ln θ.lane N : Nat) := by
  obtain ⟨h1, h2⟩ := h
  rcases (show (k < 8 ∧ Lim (khi k) N) ∨ (k = 9 ∧ Lim 2 N) from h1) with ⟨_, h3⟩ | ⟨h3, _⟩
  · refine ⟨h3, h2.trans ?_⟩
    show lV k _ = _
    rw [lV, if_neg (by omega)]
  · omega
theorem vr_l (θ : Th) {k N : Nat} (hk : k < 8) (h : Lim (khi k) N) : VR θ (.l k N) (.int (kindOf k) (ln θ.lane N : Nat)) :=
  ⟨.inl ⟨hk, h⟩, by show _ = lV k _; rw [lV, if_neg (by omega)]⟩
theorem isL_iff {v : AV} : isL v = true ↔ ∃ k N, v = .l k N := by
  constructor
  · intro h
    cases v <;> first | exact ⟨_, _, rfl⟩ | cases h
  · rintro ⟨k, N, rfl⟩; rfl
theorem lnK_true {k : Nat} {v : AV} {κ : Nat → R} (e : lnK k v κ = true) : ∃ N, (∀ κ', lnK k v κ' = κ' N) ∧ κ N = true ∧ (isL v = true → k < 8) ∧ (∀ n, v = .i k n → ∃ m : Nat, n = (m : Int) ∧ m < khi k ∧ N = LO * m) ∧
    ∀ θ u, VR θ v u → Lim (khi k) N ∧ u = .int (kindOf k) (ln θ.lane N : Nat) := by
  unfold lnK at e
  split at e
  · rename_i k' N
    obtain ⟨h1, e1⟩ := br_t e
    obtain ⟨h2, e2⟩ := br_t e1
    have h1' := Nat.eq_of_beq_eq_true h1
    subst h1'
    have h2' : k' < 8 := by simpa [Nat.blt_eq] using h2
    refine ⟨N, fun κ' => ?_, e2, fun _ => h2', fun n hn => (by cases hn), fun θ u hu => hu.l h2'⟩
    show br (Nat.beq k' k') (br (Nat.blt k' 8) (κ' N) false) false = _
    rw [h1, h2]; rfl
  · rename_i k' n
    obtain ⟨h1, e1⟩ := br_t e
    have h1' := Nat.eq_of_beq_eq_true h1
    subst h1'
    cases n with
    | negSucc n => cases e1
    | ofNat n =>
      obtain ⟨h2, e2⟩ := br_t e1
      have h2' : n < khi k' := by simpa [Nat.blt_eq] using h2
      rw [fnat_eq, mul_is] at e2
      refine ⟨LO * n, fun κ' => ?_, e2, (fun h => by cases h), fun m hm => ?_, fun θ u hu => ?_⟩
      · have : lnK k' (.i k' (.ofNat n)) κ' = br (Nat.beq k' k') (br (Nat.blt n (khi k')) (fnat (Nat.mul LO n) κ') false) false := rfl
        rw [this, h1, h2, br_tt, br_tt, fnat_eq, mul_is]
      · injection hm with _ hm
        exact ⟨n, hm.symm, h2', rfl⟩
      · have h128 : n < 2 ^ 128 := Nat.lt_of_lt_of_le h2' (Nat.le_trans (khi_le64 k') (by decide))
        exact ⟨fun i hi => by rw [ln_LO h128 hi]; exact h2', by rw [hu.i, ln_LO h128 θ.lane_lt]; rfl⟩
  · cases e
/-- what is done in all lanes -/
def LaOk (op : BinOp) (k : Nat) (g : LaF) : Prop := ∀ A B κ, g k A B κ = true → ∃ N, (∀ κ', g k A B κ' = κ' N) ∧ κ N = true ∧
  (Lim (khi k) A → Lim (khi k) B → Lim (khi k) N ∧ ∀ (P : Program) (t : TypeId) j w, j < 256 → (binOp op t (.int (kindOf k) (ln j A : Nat)) (.int (kindOf k) (ln j B : Nat))).run P w = .ok (.int (kindOf k) (ln j N : Nat)) w)
theorem wrap_lo {k : Nat} (hk : 4 ≤ k) (m : Nat) : (kindOf k).wrap (m : Int) = ((m % khi k : Nat) : Int) := by
  rcases k with _ | _ | _ | _ | _ | _ | _ | k <;> first | omega | (simp only [khi, kindOf, IntKind.wrap, IntKind.bits, IntKind.signed]; simp)
theorem laCut_true {k N : Nat} {κ : Nat → R} (e : laCut k N κ = true) : ∃ M, (∀ κ', laCut k N κ' = κ' M) ∧ κ M = true ∧ Lim (khi k) M ∧ ∀ j, j < 256 → (kindOf k).wrap (ln j N : Nat) = ((ln j M : Nat) : Int) := by
  unfold laCut at e
  rw [fnat_eq] at e
  obtain ⟨h1, e1⟩ := br_t e
  obtain ⟨b, hb, hb64⟩ := khi_two k
  have hl : ∀ j, j < 256 → ln j (Nat.land N (lMask k)) = ln j N % khi k := by
    intro j hj
    have := ln_mask (N := N) (j := j) (b := b) (by omega) hj
    rw [← hb] at this
    exact this
  have hpos : 0 < khi k := by rw [hb]; exact Nat.pow_pos (by decide)
  refine ⟨Nat.land N (lMask k), fun κ' => ?_, e1, fun j hj => by rw [hl j hj]; exact Nat.mod_lt _ hpos, fun j hj => ?_⟩
  · unfold laCut
    rw [fnat_eq, h1]; rfl
  · rw [or'_eq, Bool.or_eq_true] at h1
    rcases h1 with h1 | h1
    · rw [hl j hj, wrap_lo (Nat.le_of_ble_eq_true h1)]
    · have h1 := Nat.eq_of_beq_eq_true h1
      have h2 : ln j N < khi k := by
        have := hl j hj
        rw [h1] at this
        rw [this]; exact Nat.mod_lt _ hpos
      rw [hl j hj, Nat.mod_eq_of_lt h2]
      exact wrap_nat h2
theorem run_and {P : Program} {t : TypeId} {w : World} (k : Nat) (a b : Int) : (binOp .and t (.int (kindOf k) a) (.int (kindOf k) b)).run P w = .ok (.int (kindOf k) (bitsI .and (kindOf k) a b)) w := by simp [binOp, Op.intBits, bitsI]
theorem laAnd_ok (k : Nat) : LaOk .and k laAnd := by
  intro A B κ e
  unfold laAnd at e
  rw [fnat_eq] at e
  refine ⟨_, fun κ' => fnat_eq _ _, e, fun ha hb => ⟨fun i hi => ?_, fun P t j w hj => ?_⟩⟩
  · rw [land_is, ln_and]; exact Nat.lt_of_le_of_lt Nat.and_le_left (ha i hi)
  · rw [land_is, ln_and]
    refine (run_and k _ _).trans ?_
    exact congrArg (fun x => Result.ok (Value.int (kindOf k) x) w) (bits_and (ha j hj) (hb j hj))
theorem run_or {P : Program} {t : TypeId} {w : World} (k : Nat) (a b : Int) : (binOp .or t (.int (kindOf k) a) (.int (kindOf k) b)).run P w = .ok (.int (kindOf k) (bitsI .or (kindOf k) a b)) w := by simp [binOp, Op.intBits, bitsI]
theorem laOr_ok (k : Nat) : LaOk .or k laOr := by
  intro A B κ e
  unfold laOr at e
  rw [fnat_eq] at e
  refine ⟨_, fun κ' => fnat_eq _ _, e, fun ha hb => ⟨fun i hi => ?_, fun P t j w hj => ?_⟩⟩
  · rw [lor_is, ln_or]
    obtain ⟨q, hq, _⟩ := khi_pow k
    have h1 := ha i hi
    have h2 := hb i hi
    rw [hq] at h1 h2 ⊢
    exact Nat.or_lt_two_pow h1 h2
  · rw [lor_is, ln_or]
    refine (run_or k _ _).trans ?_
    exact congrArg (fun x => Result.ok (Value.int (kindOf k) x) w) (bits_or (ha j hj) (hb j hj))
theorem run_xor {P : Program} {t : TypeId} {w : World} (k : Nat) (a b : Int) : (binOp .xor t (.int (kindOf k) a) (.int (kindOf k) b)).run P w = .ok (.int (kindOf k) (bitsI .xor (kindOf k) a b)) w := by simp [binOp, Op.intBits, bitsI]
theorem laXor_ok (k : Nat) : LaOk .xor k laXor := by
  intro A B κ e
  unfold laXor at e
  rw [fnat_eq] at e
  refine ⟨_, fun κ' => fnat_eq _ _, e, fun ha hb => ⟨fun i hi => ?_, fun P t j w hj => ?_⟩⟩
  · rw [xor_is, ln_xor]
    obtain ⟨q, hq, _⟩ := khi_pow k
    have h1 := ha i hi
    have h2 := hb i hi
    rw [hq] at h1 h2 ⊢
    exact Nat.xor_lt_two_pow h1 h2
  · rw [xor_is, ln_xor]
    refine (run_xor k _ _).trans ?_
    exact congrArg (fun x => Result.ok (Value.int (kindOf k) x) w) (bits_xor (ha j hj) (hb j hj))
/-- the same number in all lanes -/
theorem laC {B c : Nat} (h : Nat.beq (Nat.mul LO c) B = true) (hc : c < 2 ^ 128) {j : Nat} (hj : j < 256) : ln j B = c := by
  rw [← Nat.eq_of_beq_eq_true h]
  exact ln_LO hc hj
theorem runI_add {P : Program} {t : TypeId} {w : World} (k : Nat) (a b : Int) : (binOp .add t (.int (kindOf k) a) (.int (kindOf k) b)).run P w = .ok (.int (kindOf k) ((kindOf k).wrap (a + b))) w := by simp [binOp, Op.intArith]
theorem laAdd_ok (k : Nat) : LaOk .add k laAdd := by
  intro A B κ e
  unfold laAdd at e
  rw [fnat_eq] at e
  obtain ⟨M, k1, k2, k3, k4⟩ := laCut_true e
  refine ⟨M, fun κ' => ?_, k2, fun ha hb => ⟨k3, fun P t j w hj => ?_⟩⟩
  · unfold laAdd
    rw [fnat_eq]; exact k1 κ'
  · have hm : ln j (Nat.add A B) = ln j A + ln j B := by
      refine ln_add fun i hi => ?_
      have h3 : ln i A < 2 ^ 64 := ha.all64 i (by omega)
      have h4 : ln i B < 2 ^ 64 := hb.all64 i (by omega)
      omega
    have := k4 j hj
    rw [hm] at this
    refine (runI_add k _ _).trans ?_
    refine congrArg (fun x => Result.ok (Value.int (kindOf k) x) w) ?_
    rw [← this]
    congr 1
theorem run_mul {P : Program} {t : TypeId} {w : World} (k : Nat) (a b : Int) : (binOp .mul t (.int (kindOf k) a) (.int (kindOf k) b)).run P w = .ok (.int (kindOf k) ((kindOf k).wrap (a * b))) w := by simp [binOp, Op.intArith]
theorem run_rem {P : Program} {t : TypeId} {w : World} (k : Nat) (a : Int) {b : Int} (h : b ≠ 0) : (binOp .rem t (.int (kindOf k) a) (.int (kindOf k) b)).run P w = .ok (.int (kindOf k) (a.tmod b)) w := by simp [binOp, Op.intDiv, h]
theorem laMul_ok (k : Nat) : LaOk .mul k laMul := by
  intro A B κ e
  unfold laMul at e
  rw [fnat_eq] at e
  obtain ⟨h1, e1⟩ := br_t e
  rw [fnat_eq] at e1
  obtain ⟨M, k1, k2, k3, k4⟩ := laCut_true e1
  have hc : B % 18446744073709551616 < 2 ^ 64 := Nat.mod_lt _ (by decide)
  refine ⟨M, fun κ' => ?_, k2, fun ha hb => ⟨k3, fun P t j w hj => ?_⟩⟩
  · unfold laMul
    rw [fnat_eq, h1, br_tt, fnat_eq]; exact k1 κ'
  · rw [laC h1 (Nat.lt_trans hc (by decide)) hj]
    have hm : ln j (Nat.mul A (Nat.mod B 18446744073709551616)) = ln j A * (B % 18446744073709551616) := by
      refine ln_mul fun i hi => ?_
      have h3 : ln i A < 2 ^ 64 := ha.all64 i (by omega)
      exact Nat.lt_of_lt_of_le (Nat.mul_lt_mul'' h3 hc) (by decide)
    have := k4 j hj
    rw [hm] at this
    refine (run_mul k _ _).trans ?_
    refine congrArg (fun x => Result.ok (Value.int (kindOf k) x) w) ?_
    rw [← this]
    congr 1
theorem laRem_ok (k : Nat) : LaOk .rem k laRem := by
  intro A B κ e
  unfold laRem at e
  rw [fnat_eq] at e
  obtain ⟨h1, e1⟩ := br_t e
  obtain ⟨h2, e2⟩ := br_t e1
  rw [fnat_eq] at e2
  have hc : B % 18446744073709551616 < 2 ^ 64 := Nat.mod_lt _ (by decide)
  have h2' := Nat.eq_of_beq_eq_true h2
  refine ⟨_, fun κ' => ?_, e2, fun ha hb => ?_⟩
  · unfold laRem
    rw [fnat_eq, h1, br_tt, h2, br_tt, fnat_eq]
  · generalize hcc : Nat.mod B 18446744073709551616 = c at h1 h2' ⊢
    have hc : c < 2 ^ 64 := by rw [← hcc]; exact hc
    have hlog : Nat.log2 c < 64 := by
      rcases Nat.eq_zero_or_pos c with h0 | h0
      · subst h0; decide
      · exact (Nat.log2_lt (by omega)).2 hc
    have hl : ∀ j, j < 256 → ln j (Nat.land A (Nat.mul LO (Nat.sub c 1))) = ln j A % c := by
      intro j hj
      have := ln_mask (N := A) (j := j) (b := Nat.log2 c) (by omega) hj
      have h2'' : 2 ^ Nat.log2 c = c := h2'
      rw [h2''] at this
      exact this
    have hc0 : 0 < c := by rw [← h2']; exact Nat.pow_pos (by decide)
    refine ⟨fun i hi => ?_, fun P t j w hj => ?_⟩
    · rw [hl i hi]
      exact Nat.lt_of_le_of_lt (Nat.mod_le _ _) (ha i hi)
    · rw [laC h1 (Nat.lt_trans hc (by decide)) hj, hl j hj]
      have hne : ((c : Nat) : Int) ≠ 0 := by omega
      exact run_rem k _ hne
/-- a test in lanes -/
theorem lbK_true {Y : Nat} {κ : AV → R} (e : lbK Y κ = true) : ∃ v, (∀ κ', lbK Y κ' = κ' v) ∧ κ v = true ∧ (Lim 2 Y → ∀ θ, VR θ v (.bool (ln θ.lane Y != 0))) := by
  unfold lbK at e
  rcases br_true e with ⟨h1, e1⟩ | ⟨h1, e1⟩
  · refine ⟨_, fun κ' => ?_, e1, fun _ θ => ?_⟩
    · unfold lbK; rw [h1]; rfl
    · have := Nat.eq_of_beq_eq_true h1
      subst this
      rw [ln_nought]; exact vr_b θ false
  · rcases br_true e1 with ⟨h2, e2⟩ | ⟨h2, e2⟩
    · refine ⟨_, fun κ' => ?_, e2, fun _ θ => ?_⟩
      · unfold lbK; rw [h1, h2]; rfl
      · have := @Nat.eq_of_beq_eq_true Y LO h2
        rw [this, ln_ones θ.lane_lt]; exact vr_b θ true
    · refine ⟨_, fun κ' => ?_, e2, fun hl θ => ⟨.inr ⟨rfl, hl⟩, rfl⟩⟩
      unfold lbK; rw [h1, h2]; rfl
theorem lim_ltm {A B : Nat} (ha : Lim (2 ^ 64) A) (hb : Lim (2 ^ 64) B) : Lim 2 (ltm A B) := by
  intro i hi
  rw [ln_ltm hi ha hb]
  split <;> decide
theorem ltm_not {A B j : Nat} (hj : j < 256) (ha : Lim (2 ^ 64) A) (hb : Lim (2 ^ 64) B) : ln j (Nat.xor LO (ltm A B)) = if ln j A < ln j B then 0 else 1 := by
  rw [xor_is, ln_xor, ln_ones hj, ln_ltm hj ha hb]
  split <;> rfl
theorem lim_not {A B : Nat} (ha : Lim (2 ^ 64) A) (hb : Lim (2 ^ 64) B) : Lim 2 (Nat.xor LO (ltm A B)) := by
  intro i hi
  rw [ltm_not hi ha hb]
  split <;> decide
theorem lim_nought : Lim (2 ^ 64) 0 := fun i _ => by rw [ln_nought]; decide
theorem lim_xor {b A B : Nat} (ha : Lim (2 ^ b) A) (hb : Lim (2 ^ b) B) : Lim (2 ^ b) (A ^^^ B) := fun i hi => by rw [ln_xor]; exact Nat.xor_lt_two_pow (ha i hi) (hb i hi)
theorem laEq_true {c : Nat} {x y : AV} {κ : Bool → R} (e : laEq c x y κ = true) : ∃ r, (∀ κ', laEq c x y κ' = κ' r) ∧ κ r = true ∧
    (∀ θ u v, VR θ x u → VR θ y v → ∃ a b : Nat, u = .int (kindOf c) a ∧ v = .int (kindOf c) b ∧ r = (a == b)) := by
  unfold laEq at e
  obtain ⟨A, a1, e1, _, _, a4⟩ := lnK_true e
  obtain ⟨B, b1, e2, _, _, b4⟩ := lnK_true e1
  rw [fnat_eq] at e2
  rcases br_true e2 with ⟨h1, e3⟩ | ⟨h1, e3⟩
  · refine ⟨true, fun κ' => ?_, e3, fun θ u v hu hv => ⟨_, _, (a4 θ u hu).2, (b4 θ v hv).2, ?_⟩⟩
    · unfold laEq; rw [a1, b1, fnat_eq, h1]; rfl
    · have h0 : A ^^^ B = 0 := Nat.eq_of_beq_eq_true h1
      have : A = B := by
        have h3 : (A ^^^ B) ^^^ B = 0 ^^^ B := by rw [h0]
        rwa [Nat.xor_assoc, Nat.xor_self, Nat.xor_zero, Nat.zero_xor] at h3
      rw [this]; simp
  · obtain ⟨h2, e4⟩ := br_t e3
    refine ⟨false, fun κ' => ?_, e4, fun θ u v hu hv => ⟨_, _, (a4 θ u hu).2, (b4 θ v hv).2, ?_⟩⟩
    · unfold laEq; rw [a1, b1, fnat_eq, h1]
      show br _ _ _ = _
      rw [h2]; rfl
    · have h2' : ltm 0 (A ^^^ B) = LO := Nat.eq_of_beq_eq_true h2
      have hl := ln_ltm θ.lane_lt lim_nought (lim_xor (b := 64) (a4 θ u hu).1.all64 (b4 θ v hv).1.all64)
      rw [h2', ln_ones θ.lane_lt, ln_nought, ln_xor] at hl
      by_cases hab : ln θ.lane A = ln θ.lane B
      · rw [hab, Nat.xor_self] at hl; simp at hl
      · simp [hab]
theorem lt16 {N : Nat} (hN : Lim (2 ^ 64) N) (h : Nat.beq (ltm N (Nat.mul LO 16)) LO = true) : Lim 16 N := by
  have hB : ∀ i, i < 256 → ln i (Nat.mul LO 16) = 16 := fun i hi => by rw [mul_is]; exact ln_LO (by decide) hi
  have hO : ∀ i, i < 256 → ln i LO = 1 := fun i hi => ln_ones hi
  generalize Nat.mul LO 16 = B at h hB
  generalize LO = O at h hO
  have h := Nat.eq_of_beq_eq_true h
  have hL : Lim (2 ^ 64) B := fun i hi => by rw [hB i hi]; decide
  intro i hi
  have h1 := ln_ltm hi hN hL
  rw [h, hO i hi, hB i hi] at h1
  split at h1
  · assumption
  · omega
end Go.AM
