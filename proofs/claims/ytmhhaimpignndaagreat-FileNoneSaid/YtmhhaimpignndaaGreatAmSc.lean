/-
  AM, 32: the loop that adds what is kept to what is used, done at once: it does what the loop does. Conditions: none.
-/
import Derived.Test.YtmhhaimpignndaaGreatAmSb
namespace Go.AM
open Go

/-- a number of kind int that is no less than nought -/
noncomputable def asU (κ : Nat → R) (v : AV) : R := asK 3 (fun n => @Int.rec (fun _ => R) κ (fun _ => false) n) v
theorem asU_true {κ : Nat → R} {v : AV} (e : asU κ v = true) : ∃ n, v = .i 3 (.ofNat n) ∧ κ n = true := by
  obtain ⟨n, rfl, e1⟩ := asK_true e
  cases n with
  | ofNat n => exact ⟨n, rfl, e1⟩
  | negSucc n => cases e1
/-- the object has nothing that shows its cells as they were -/
noncomputable def noSh (o : Nat) (h : H) (κ : R) : R := get o h fun a => match a with
  | .sm _ => κ
  | .ce _ _ _ _ _ _ _ sh => (match sh with | [] => κ | _ => false)
  | _ => false
noncomputable def kUp (U : AV) (ok fk m i : Nat) (p : Bool) (x : Nat) (en : Env) (κ : Env → R) : R :=
  br p (fnat (Nat.pred i) fun i0 => fnat (Nat.add fk (Nat.mul i0 1)) fun q => setsK (kQ U ok m i0 q i x) en κ) (κ en)
noncomputable def kGo (U : AV) (ok fk m ou fu : Nat) (l : List AV) : Nat → Bool → Nat → Env → H → Nat → (Env → H → Nat → R) → R :=
  @List.rec AV (fun _ => Nat → Bool → Nat → Env → H → Nat → (Env → H → Nat → R) → R)
    (fun i p xl en h nx κ => kUp U ok fk m i p xl en fun en => setK AV (.b false) 3 93 en fun en => κ en h nx)
    (fun v _ ih i p xl en h nx κ => asU (fun x => br (or' (Nat.beq x 0) (not' (Nat.blt i m))) (fnat (Nat.succ i) fun j => ih j true x en h nx κ)
      (kUp U ok fk m i p xl en fun en => noSh ou h (rd1 ou (Nat.add fu (Nat.mul i 1)) h (asK 3 fun y => arAdd 3 y (.ofNat 1) fun z => wrK ou (Nat.add fu (Nat.mul i 1)) [.i 3 z] h fun h =>
        fnat (Nat.succ i) fun j => fnat (Nat.add fk (Nat.mul i 1)) fun q => fnat (Nat.add fu (Nat.mul i 1)) fun q' => setsK (kA U ok m i q j x ou q' y z) en fun en => ih j false 0 en h nx κ)))) v) l
/-- .. stretch by stretch -/
noncomputable def kGoC (U : AV) (ok fk m ou fu : Nat) (l : List Ck) : Nat → Bool → Nat → Env → H → Nat → (Env → H → Nat → R) → R :=
  @List.rec Ck (fun _ => Nat → Bool → Nat → Env → H → Nat → (Env → H → Nat → R) → R)
    (fun i p xl en h nx κ => kUp U ok fk m i p xl en fun en => setK AV (.b false) 3 93 en fun en => κ en h nx)
    (fun c _ ih i p xl en h nx κ => @Ck.rec (fun _ => R) (fun n => @Nat.rec (fun _ => R) (ih i p xl en h nx κ) (fun n _ => fnat (Nat.add i (Nat.succ n)) fun j => ih j true 0 en h nx κ) n)
      (fun v => asU (fun x => br (or' (Nat.beq x 0) (not' (Nat.blt i m))) (fnat (Nat.succ i) fun j => ih j true x en h nx κ)
      (kUp U ok fk m i p xl en fun en => noSh ou h (rd1 ou (Nat.add fu (Nat.mul i 1)) h (asK 3 fun y => arAdd 3 y (.ofNat 1) fun z => wrK ou (Nat.add fu (Nat.mul i 1)) [.i 3 z] h fun h =>
        fnat (Nat.succ i) fun j => fnat (Nat.add fk (Nat.mul i 1)) fun q => fnat (Nat.add fu (Nat.mul i 1)) fun q' => setsK (kA U ok m i q j x ou q' y z) en fun en => ih j false 0 en h nx κ)))) v) c) l
theorem asU_i (n : Nat) (κ : Nat → R) : asU κ (.i 3 (.ofNat n)) = κ n := by unfold asU; rw [asK_i]
theorem kGo_cons (U : AV) (ok fk m ou fu : Nat) (v : AV) (l : List AV) (i : Nat) (p : Bool) (xl : Nat) (en : Env) (h : H) (nx : Nat) (κ : Env → H → Nat → R) : kGo U ok fk m ou fu (v :: l) i p xl en h nx κ =
    asU (fun x => br (or' (Nat.beq x 0) (not' (Nat.blt i m))) (fnat (Nat.succ i) fun j => kGo U ok fk m ou fu l j true x en h nx κ)
      (kUp U ok fk m i p xl en fun en => noSh ou h (rd1 ou (Nat.add fu (Nat.mul i 1)) h (asK 3 fun y => arAdd 3 y (.ofNat 1) fun z => wrK ou (Nat.add fu (Nat.mul i 1)) [.i 3 z] h fun h =>
        fnat (Nat.succ i) fun j => fnat (Nat.add fk (Nat.mul i 1)) fun q => fnat (Nat.add fu (Nat.mul i 1)) fun q' => setsK (kA U ok m i q j x ou q' y z) en fun en => kGo U ok fk m ou fu l j false 0 en h nx κ)))) v := rfl
theorem kGo_nought (U : AV) (ok fk m ou fu : Nat) (l : List AV) (i : Nat) (p : Bool) (xl : Nat) (en : Env) (h : H) (nx : Nat) (κ : Env → H → Nat → R) : kGo U ok fk m ou fu (.i 3 (.ofNat 0) :: l) i p xl en h nx κ =
    kGo U ok fk m ou fu l (i + 1) true 0 en h nx κ := by
  rw [kGo_cons, asU_i, show or' (Nat.beq 0 0) (not' (Nat.blt i m)) = true from rfl, brT, fnat_eq]
theorem kGo_noughts {U : AV} {ok fk m ou fu : Nat} {l : List AV} {h : H} {nx : Nat} {κ : Env → H → Nat → R} : ∀ (n i : Nat) (p : Bool) (xl : Nat) (en : Env),
    kGo U ok fk m ou fu (List.replicate (n + 1) (.i 3 (.ofNat 0)) ++ l) i p xl en h nx κ = kGo U ok fk m ou fu l (i + (n + 1)) true 0 en h nx κ
  | 0, i, p, xl, en => by rw [List.replicate_succ, List.cons_append, kGo_nought]; rfl
  | n + 1, i, p, xl, en => by
    rw [List.replicate_succ, List.cons_append, kGo_nought, kGo_noughts n, show i + 1 + (n + 1) = i + (n + 1 + 1) by omega]
theorem kGoC_eq {U : AV} {ok fk m ou fu : Nat} : ∀ (l : List Ck) (i : Nat) (p : Bool) (xl : Nat) (en : Env) (h : H) (nx : Nat) (κ : Env → H → Nat → R), kGoC U ok fk m ou fu l i p xl en h nx κ = kGo U ok fk m ou fu (expand l) i p xl en h nx κ
  | [], _, _, _, _, _, _, _ => rfl
  | .z 0 :: l, i, p, xl, en, h, nx, κ => by
    show kGoC U ok fk m ou fu l i p xl en h nx κ = _
    rw [kGoC_eq l]; rfl
  | .z (n + 1) :: l, i, p, xl, en, h, nx, κ => by
    show fnat (Nat.add i (Nat.succ n)) (fun j => kGoC U ok fk m ou fu l j true 0 en h nx κ) = _
    rw [fnat_eq, kGoC_eq l, expand, kGo_noughts]; rfl
  | .v v :: l, i, p, xl, en, h, nx, κ => by
    have e : kGoC U ok fk m ou fu (.v v :: l) i p xl en h nx κ = asU (fun x => br (or' (Nat.beq x 0) (not' (Nat.blt i m))) (fnat (Nat.succ i) fun j => kGoC U ok fk m ou fu l j true x en h nx κ)
      (kUp U ok fk m i p xl en fun en => noSh ou h (rd1 ou (Nat.add fu (Nat.mul i 1)) h (asK 3 fun y => arAdd 3 y (.ofNat 1) fun z => wrK ou (Nat.add fu (Nat.mul i 1)) [.i 3 z] h fun h =>
        fnat (Nat.succ i) fun j => fnat (Nat.add fk (Nat.mul i 1)) fun q => fnat (Nat.add fu (Nat.mul i 1)) fun q' => setsK (kA U ok m i q j x ou q' y z) en fun en => kGoC U ok fk m ou fu l j false 0 en h nx κ)))) v := rfl
    rw [e]
    simp only [kGoC_eq l, expand, kGo_cons]
noncomputable def keptS : SegF := fun en h nx κ => xT 91 en (asU fun n' => xT 92 en (asU fun i0 => br (Nat.beq i0 0) (br (Nat.beq n' 0) (setK AV (.b false) 3 93 en fun en => κ en h nx)
  (xT 90 en (asSl fun ok fk n _ => xT 21 en fun U => asSl (fun ou fu m _ => br (Nat.beq n' n) (br (Nat.blt n 9223372036854775808) (br (Nat.blt ok 32768) (br (Nat.blt ou 32768) (br (Nat.beq ok ou) false
    (rdC ok fk n h fun l => kGoC U ok fk m ou fu l 0 false 0 en h nx κ)) false) false) false) false) U))) false))
theorem wrK_true {o off : Nat} {vs : List AV} {h : H} {κ : H → R} (e : wrK o off vs h κ = true) {e2 : noSh o h true = true} : ∃ h', κ h' = true ∧ (∀ κ', wrK o off vs h κ' = κ' h') ∧ ∀ o', o < 32768 → o' < 32768 → o' ≠ o → obj h' o' = obj h o' := by
  obtain ⟨a, ha, e1⟩ := get_true e
  obtain ⟨b, hb, e3⟩ := get_true e2
  have : b = a := by rw [ha] at hb; injection hb with hb; exact hb.symm
  subst this
  have other : ∀ (x : AO) o', o < 32768 → o' < 32768 → o' ≠ o → obj (setO h o x) o' = obj h o' := fun x o' h1 h2 h3 => getL_setL_ne (some x) 5 h h1 h2 h3
  cases b with
  | sm l =>
    simp only [putLK_eq, put_eq] at e1
    split at e1
    · rename_i hn
      refine ⟨_, e1, fun κ' => ?_, other _⟩
      unfold wrK
      rw [get_is ha]
      simp only [putLK_eq, put_eq]
      rw [if_pos hn]
    · cases e1
  | ce N es z zl d t top sh =>
    obtain ⟨htop, e4⟩ := br_t e1
    obtain ⟨hle, e5⟩ := br_t e4
    cases sh with
    | cons x r => cases e3
    | nil =>
      rw [setsT_eq, put_eq, killK_eq] at e5
      refine ⟨_, e5, fun κ' => ?_, other _⟩
      unfold wrK
      rw [get_is ha]
      show br top (br _ _ _) _ = _
      rw [htop, brT]
      rw [show Nat.ble (Nat.add off (lenN AV vs)) N = true from hle, brT, setsT_eq, put_eq, killK_eq]
  | _ => cases e1
theorem rd1_true {o off : Nat} {h : H} {κ : AV → R} (e : rd1 o off h κ = true) : ∃ v, (∀ κ', rd1 o off h κ' = κ' v) ∧ κ v = true := by
  obtain ⟨a, ha, e1⟩ := get_true e
  cases a with
  | sm l =>
    have e1 : nthK AV κ l off = true := e1
    rw [nthK_eq] at e1
    cases hl : l[off]? with
    | none => rw [hl] at e1; cases e1
    | some v =>
      rw [hl] at e1
      refine ⟨v, fun κ' => ?_, e1⟩
      unfold rd1
      rw [get_is ha]
      show nthK AV κ' l off = _
      rw [nthK_eq, hl]
  | ce N es z zl d t top sh =>
    obtain ⟨hlt, e2⟩ := br_t e1
    rw [cellK_eq] at e2
    cases hl : cellO z zl d t off with
    | none => rw [hl] at e2; cases e2
    | some v =>
      rw [hl] at e2
      refine ⟨v, fun κ' => ?_, e2⟩
      unfold rd1
      rw [get_is ha]
      show br (Nat.blt off N) (cellK z zl d t κ' off) false = _
      rw [hlt, brT, cellK_eq, hl]
  | _ => cases e1
theorem arAdd_true {a b : Int} {κ : Int → R} (e : arAdd 3 a b κ = true) : ∃ z, (∀ κ', arAdd 3 a b κ' = κ' z) ∧ κ z = true := by
  rw [arAdd_eq] at e
  exact ⟨_, fun κ' => arAdd_eq 3 a b κ', e⟩
theorem noSh_true {o : Nat} {h : H} {κ : R} (e : noSh o h κ = true) : κ = true ∧ noSh o h true = true := by
  obtain ⟨a, ha, e1⟩ := get_true e
  unfold noSh
  rw [get_is ha]
  cases a with
  | sm l => exact ⟨e1, rfl⟩
  | ce N es z zl d t top sh =>
    cases sh with
    | nil => exact ⟨e1, rfl⟩
    | cons x r => cases e1
  | _ => cases e1
section
variable {en : Env} {ok fk n ou fu m i x : Nat} {ck cu : Option Nat}
theorem KIn.quiet {p : Nat} (hk : KIn en ok fk n ou fu m i ck cu) {U : AV} {j : Nat} : KIn (esL (kQ U ok m i p j x) en) ok fk n ou fu m j ck cu := by
  have h90 : eg 90 en = _ := hk.h90
  have h91 : eg 91 en = _ := hk.h91
  have h21 : eg 21 en = _ := hk.h21
  constructor <;> simp only [kQ, esL, eg_es, Nat.reduceLT, Nat.reduceEqDiff, if_true, if_false, reduceIte, h90, h91, h21]
theorem KIn.add {p q : Nat} {y z : Int} (hk : KIn en ok fk n ou fu m i ck cu) {U : AV} {j : Nat} : KIn (esL (kA U ok m i p j x ou q y z) en) ok fk n ou fu m j ck cu := by
  have h90 : eg 90 en = _ := hk.h90
  have h91 : eg 91 en = _ := hk.h91
  have h21 : eg 21 en = _ := hk.h21
  constructor <;> simp only [kA, esL, eg_es, Nat.reduceLT, Nat.reduceEqDiff, if_true, if_false, reduceIte, h90, h91, h21]
theorem kQ_lt {U : AV} {p j : Nat} : ∀ r ∈ kQ U ok m i p j x, r.1 < 512 := by
  intro r hr
  simp only [kQ, List.mem_cons, List.not_mem_nil, or_false] at hr
  rcases hr with rfl | rfl | rfl | rfl | rfl | rfl | rfl | rfl | rfl | rfl | rfl | rfl | rfl | rfl | rfl | rfl <;> simp
theorem kQ_over {U : AV} {p j i' p' j' x' : Nat} : esL (kQ U ok m i' p' j' x') (esL (kQ U ok m i p j x) en) = esL (kQ U ok m i' p' j' x') en := by
  refine esL_over kQ_lt kQ_lt (fun r hr => ?_) en
  simp only [kQ, List.mem_cons, List.not_mem_nil, or_false] at hr
  rcases hr with rfl | rfl | rfl | rfl | rfl | rfl | rfl | rfl | rfl | rfl | rfl | rfl | rfl | rfl | rfl | rfl <;> simp [kQ]
/-- as the machine has it -/
noncomputable def kEn (U : AV) (ok fk m i : Nat) (p : Bool) (x : Nat) (en : Env) : Env := match p with
  | true => esL (kQ U ok m (Nat.pred i) (fk + Nat.pred i * 1) i x) en
  | false => en
theorem kUp_eq (U : AV) (p : Bool) (κ : Env → R) : kUp U ok fk m i p x en κ = κ (kEn U ok fk m i p x en) := by
  unfold kUp
  cases p with
  | false => rfl
  | true => rw [brT, fnat_eq, fnat_eq, setsK_eq]; rfl
theorem kGo_ok (F : L (Option AFn) 4) (Lp : L (Option ALp) 5) (k : List T) (fr : Fr) (cs : List AFr) (κ : ASt → R) (h1 : ok < 32768) (h2 : ou < 32768) (h3 : ok ≠ ou) (hn : n < 9223372036854775808) :
    ∀ (l : List AV) (i : Nat) (p : Bool) (x : Nat) (en : Env) (h : H) (nx : Nat), KIn (kEn (.sl ou fu m cu) ok fk m i p x en) ok fk n ou fu m i ck cu → i + l.length = n → (∀ j v, l[j]? = some v → objC h ok (fk + (i + j) * 1) = some v) →
      kGo (.sl ou fu m cu) ok fk m ou fu l i p x en h nx (fun en h nx => κ (.mk en k fr cs h nx)) = true → ∃ N, run (.mk F Lp false) (N + 1) (.mk (kEn (.sl ou fu m cu) ok fk m i p x en) (.lp kpB :: .blk 2 :: k) fr cs h nx) κ = true := by
  intro l
  induction l with
  | nil =>
    intro i p x en h nx hk hl hc e
    have hin : i = n := by simpa using hl
    have e : kUp (.sl ou fu m cu) ok fk m i p x en (fun en => setK AV (.b false) 3 93 en fun en => κ (.mk en k fr cs h nx)) = true := e
    rw [kUp_eq, setK_eq] at e
    refine ⟨1, ?_⟩
    rw [kept_run2]
    have h4 : Nat.blt i n = false := by
      cases hb : Nat.blt i n with
      | false => rfl
      | true => simp [Nat.blt_eq] at hb; omega
    have h91 : eg 91 (kEn (.sl ou fu m cu) ok fk m i p x en) = _ := hk.h91
    have h92 : eg 92 (kEn (.sl ou fu m cu) ok fk m i p x en) = _ := hk.h92
    simp only [kS1, sOp, sNil, oLt, xT_eq, dT_eq, eg_es, Nat.reduceLT, if_true, reduceIte, h91, h92, asK_i, asB_b, asBL_b, ltV_ii, geV_ii, eqV_ii, ldV_p, cmLt_nat, kB_eq, h4, brF]
    exact e
  | cons v l ih =>
    intro i p x en h nx hk hl hc e
    simp only [List.length_cons] at hl
    have hi : i < n := by omega
    have hv := hc 0 v rfl
    rw [Nat.add_zero] at hv
    have hc' : ∀ j v', l[j]? = some v' → objC h ok (fk + (i + 1 + j) * 1) = some v' := fun j v' hj => by
      have := hc (j + 1) v' (by simpa using hj)
      rw [show i + 1 + j = i + (j + 1) by omega]; exact this
    have e : asU (fun y => br (or' (Nat.beq y 0) (not' (Nat.blt i m))) (fnat (Nat.succ i) fun j => kGo (.sl ou fu m cu) ok fk m ou fu l j true y en h nx (fun en h nx => κ (.mk en k fr cs h nx)))
      (kUp (.sl ou fu m cu) ok fk m i p x en fun en => noSh ou h (rd1 ou (Nat.add fu (Nat.mul i 1)) h (asK 3 fun w => arAdd 3 w (.ofNat 1) fun z => wrK ou (Nat.add fu (Nat.mul i 1)) [.i 3 z] h fun h =>
        fnat (Nat.succ i) fun j => fnat (Nat.add fk (Nat.mul i 1)) fun q => fnat (Nat.add fu (Nat.mul i 1)) fun q' => setsK (kA (.sl ou fu m cu) ok m i q j y ou q' w z) en fun en => kGo (.sl ou fu m cu) ok fk m ou fu l j false 0 en h nx (fun en h nx => κ (.mk en k fr cs h nx)))))) v = true := e
    obtain ⟨y, rfl, e1⟩ := asU_true e
    rcases br_true e1 with ⟨g1, g2⟩ | ⟨g1, g2⟩
    · rw [fnat_eq] at g2
      have hq : Nat.blt i m = false ∨ y = 0 := by
        cases hb : Nat.blt i m with
        | false => exact .inl rfl
        | true =>
          rw [hb] at g1
          cases hy : Nat.beq y 0 with
          | true => exact .inr (Nat.eq_of_beq_eq_true hy)
          | false => rw [hy] at g1; cases g1
      have henv : esL (kQ (.sl ou fu m cu) ok m i (fk + i * 1) (i + 1) y) (kEn (.sl ou fu m cu) ok fk m i p x en) = kEn (.sl ou fu m cu) ok fk m (i + 1) true y en := by
        cases p with
        | false => rfl
        | true => exact kQ_over
      have hk' := hk.quiet (U := .sl ou fu m cu) (p := fk + i * 1) (j := i + 1) (x := y)
      rw [henv] at hk'
      obtain ⟨N, hN⟩ := ih (i + 1) true y en h nx hk' (by omega) hc' g2
      refine ⟨6 + (N + 1), ?_⟩
      rw [show 6 + (N + 1) + 1 = 7 + (N + 1) by omega, run_add, kept_run, k_quiet hk hi hn hv hq, henv]
      exact hN
    · rw [kUp_eq] at g2
      obtain ⟨g3, g4⟩ := noSh_true g2
      have hm : Nat.blt i m = true := by
        cases hb : Nat.blt i m with
        | true => rfl
        | false =>
          rw [hb] at g1
          cases hy : Nat.beq y 0 <;> rw [hy] at g1 <;> cases g1
      have hy : Nat.beq y 0 = false := by
        cases hy : Nat.beq y 0 with
        | false => rfl
        | true => rw [hy] at g1; cases g1
      obtain ⟨w, hw, g5⟩ := rd1_true g3
      obtain ⟨w', rfl, g6⟩ := asK_true g5
      obtain ⟨z, hz, g7⟩ := arAdd_true g6
      obtain ⟨h', g8, g9, g10⟩ := wrK_true (e2 := g4) g7
      rw [fnat_eq, fnat_eq, fnat_eq, setsK_eq] at g8
      have hk' : KIn (kEn (.sl ou fu m cu) ok fk m (i + 1) false 0 (esL (kA (.sl ou fu m cu) ok m i (fk + i * 1) (i + 1) y ou (fu + i * 1) w' z) (kEn (.sl ou fu m cu) ok fk m i p x en))) ok fk n ou fu m (i + 1) ck cu := hk.add
      obtain ⟨N, hN⟩ := ih (i + 1) false 0 _ h' nx hk' (by omega) (fun j v' hj => by
        have := hc' j v' hj
        unfold objC at this ⊢
        rw [g10 ok h2 h1 h3]; exact this) g8
      refine ⟨6 + (N + 1), ?_⟩
      rw [show 6 + (N + 1) + 1 = 7 + (N + 1) by omega, run_add, kept_run, k_add hk hi hn hv hm hy hw hz g9]
      exact hN
end
theorem kept_ok : SplOk keptS keptC := by
  intro F Lp en k fr cs h nx κ e
  have e : xT 91 en (asU fun n' => xT 92 en (asU fun i0 => br (Nat.beq i0 0) (br (Nat.beq n' 0) (setK AV (.b false) 3 93 en fun en => κ (.mk en k fr cs h nx))
    (xT 90 en (asSl fun ok fk n _ => xT 21 en fun U => asSl (fun ou fu m _ => br (Nat.beq n' n) (br (Nat.blt n 9223372036854775808) (br (Nat.blt ok 32768) (br (Nat.blt ou 32768) (br (Nat.beq ok ou) false
    (rdC ok fk n h fun l => kGoC U ok fk m ou fu l 0 false 0 en h nx (fun en h nx => κ (.mk en k fr cs h nx)))) false) false) false) false) U))) false)) = true := e
  rw [xT_eq] at e
  obtain ⟨n', h91, e1⟩ := asU_true e
  rw [xT_eq] at e1
  obtain ⟨i0, h92, e2⟩ := asU_true e1
  obtain ⟨b1, e3⟩ := br_t e2
  have b1 := Nat.eq_of_beq_eq_true b1
  subst b1
  rcases br_true e3 with ⟨b2, e4⟩ | ⟨b2, e4⟩
  · have b2 := Nat.eq_of_beq_eq_true b2
    subst b2
    rw [setK_eq] at e4
    refine ⟨2, ?_⟩
    rw [kept_run1, kept_run2]
    have h91 : eg 91 en = _ := h91
    have h92 : eg 92 en = _ := h92
    have h4 : Nat.blt 0 0 = false := rfl
    simp only [kS1, sOp, sNil, oLt, xT_eq, dT_eq, eg_es, Nat.reduceLT, if_true, reduceIte, h91, h92, asK_i, asB_b, asBL_b, ltV_ii, geV_ii, eqV_ii, ldV_p, cmLt_nat, kB_eq, h4, brF]
    exact e4
  · rw [xT_eq] at e4
    obtain ⟨ok, fk, n, ck, h90, e5⟩ := asSl_true e4
    rw [xT_eq] at e5
    obtain ⟨ou, fu, m, cu, h21, e6⟩ := asSl_true e5
    obtain ⟨b3, e7⟩ := br_t e6
    obtain ⟨b4, e8⟩ := br_t e7
    obtain ⟨b5, e9⟩ := br_t e8
    obtain ⟨b6, e10⟩ := br_t e9
    obtain ⟨b7, e11⟩ := br_f e10
    have b3 := Nat.eq_of_beq_eq_true b3
    subst b3
    have b7 : ok ≠ ou := fun h => by subst h; rw [Nat.beq_refl] at b7; cases b7
    obtain ⟨cl, k1, k2, k3⟩ := rdC_cells e11
    rw [kGoC_eq] at k2
    obtain ⟨l, hl⟩ : ∃ l, l = expand cl := ⟨_, rfl⟩
    rw [← hl] at k1 k2 k3
    rw [h21] at k2
    obtain ⟨N, hN⟩ := kGo_ok (ck := ck) (cu := cu) (n := n') F Lp k fr cs κ (by simpa [Nat.blt_eq] using b5) (by simpa [Nat.blt_eq] using b6) b7 (by simpa [Nat.blt_eq] using b4) l 0 false 0 en h nx ⟨h90, h91, h92, h21⟩ (by omega)
      (fun j v hj => by rw [Nat.zero_add, Nat.mul_one]; exact k3 j v hj) k2
    exact ⟨N + 1, by rw [kept_run1]; exact hN⟩
end Go.AM
