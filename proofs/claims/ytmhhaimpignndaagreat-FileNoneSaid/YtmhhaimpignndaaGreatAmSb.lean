/-
  AM, 31: the loop that adds what is kept to what is used, done at once. Conditions: none.
-/
import Derived.Test.YtmhhaimpignndaaGreatAmSa
namespace Go.AM
open Go

noncomputable def kS1 : SegF := sOp (dT 93) (oLt 3 (xT 92) (xT 91)) sNil
noncomputable def kS2 : SegF := sOp (dT 94) (oMv (xT 92)) <| sOp (dT 95) (oIas (xT 90) (xT 92) 1) <| sOp (dT 96) (oLd1 (xT 95)) <| sOp (dT 22) (oMv (xT 94)) <| sOp (dT 23) (oMv (xT 96)) <| sNil
noncomputable def kS3 : SegF := sOp (dT 97) (oMv (xT 22)) <| sOp (dT 98) (oMv (xT 21)) <| sOp (dT 99) (oLenl (xT 98)) <| sOp (dT 100) (oLt 3 (xT 97) (xT 99)) <| sOp (dT 101) (oMv (xT 100)) <| sOpG (gG (xT 101) true) (dT 102) (oMv (xT 23)) <|
  sOpG (gG (xT 101) true) (dT 103) (oEq true 3 (xT 102) (xC (.i 3 (.ofNat 0)))) <| sOp (dT 104) (oPick (xT 101) (xT 103) (xC (.b false))) <| sNil
noncomputable def kS4 : SegF := sOp (dT 105) (oMv (xT 21)) <| sOp (dT 106) (oMv (xT 22)) <| sOp (dT 107) (oIas (xT 105) (xT 106) 1) <| sOp (dT 108) (oLd1 (xT 107)) <| sOp (dT 109) (oLa arAdd laAdd 3 (xT 108) (xC (.i 3 (.ofNat 1)))) <|
  sOp (dT 110) (oIas (xT 105) (xT 106) 1) <| sOp dN (oSt (xT 110) (xT 109) 1) <| sNil
noncomputable def kS5 : SegF := sOp (dT 111) (oLa arAdd laAdd 3 (xT 92) (xC (.i 3 (.ofNat 1)))) <| sOp (dT 92) (oMv (xT 111)) <| sNil
noncomputable def kpB : C := .seq (.rg (.fin kS1)) (.seq (.cond (xT 93) .skip (.exit 2)) (.seq (.blk 3 (.seq (.rg (.fin kS2)) (.seq (.rg (.fin kS3)) (.cond (xT 104) (.rg (.fin kS4)) .skip)))) (.rg (.fin kS5))))
noncomputable def keptC : C := .blk 2 (.loop kpB)
/-- one round; κx: where the loop is left -/
noncomputable def kRound (en : Env) (h : H) (nx : Nat) (κ κx : Env → H → Nat → R) : R :=
  kS1 en h nx fun en h nx => xT 93 en (asBL fun c => br c (kS2 en h nx fun en h nx => kS3 en h nx fun en h nx => xT 104 en (asBL fun c => br c (kS4 en h nx fun en h nx => kS5 en h nx κ) (kS5 en h nx κ))) (κx en h nx))
theorem kept_run (F : L (Option AFn) 4) (Lp : L (Option ALp) 5) (en : Env) (k : List T) (fr : Fr) (cs : List AFr) (h : H) (nx : Nat) (κ : ASt → R) :
    run (.mk F Lp false) 7 (.mk en (.lp kpB :: .blk 2 :: k) fr cs h nx) κ =
      kRound en h nx (fun en h nx => κ (.mk en (.lp kpB :: .blk 2 :: k) fr cs h nx)) (fun en h nx => run (.mk F Lp false) 5 (.mk en k fr cs h nx) κ) := rfl
theorem kept_run1 (F : L (Option AFn) 4) (Lp : L (Option ALp) 5) (n : Nat) (en : Env) (k : List T) (fr : Fr) (cs : List AFr) (h : H) (nx : Nat) (κ : ASt → R) :
    run (.mk F Lp false) (n + 1) (.mk en (.c keptC :: k) fr cs h nx) κ = run (.mk F Lp false) (n + 1) (.mk en (.lp kpB :: .blk 2 :: k) fr cs h nx) κ := rfl
theorem kept_run2 (F : L (Option AFn) 4) (Lp : L (Option ALp) 5) (en : Env) (k : List T) (fr : Fr) (cs : List AFr) (h : H) (nx : Nat) (κ : ASt → R) :
    run (.mk F Lp false) 2 (.mk en (.lp kpB :: .blk 2 :: k) fr cs h nx) κ =
      kS1 en h nx fun en h nx => xT 93 en (asBL fun c => br c (κ (.mk en (.c (.seq (.blk 3 (.seq (.rg (.fin kS2)) (.seq (.rg (.fin kS3)) (.cond (xT 104) (.rg (.fin kS4)) .skip)))) (.rg (.fin kS5))) :: .lp kpB :: .blk 2 :: k) fr cs h nx)) (κ (.mk en k fr cs h nx))) := rfl
noncomputable def kSel (c : Bool) (v : AV) : AV := match c with | true => v | false => undef
/-- what a round sets, where nothing is added -/
noncomputable def kQ (U : AV) (ok m i p j x : Nat) : List (Nat × AV) :=
  [(93, .b true), (94, .i 3 (.ofNat i)), (95, .p ok p), (96, .i 3 (.ofNat x)), (22, .i 3 (.ofNat i)), (23, .i 3 (.ofNat x)), (97, .i 3 (.ofNat i)), (98, U), (99, .i 3 (.ofNat m)), (100, .b (Nat.blt i m)), (101, .b (Nat.blt i m)),
   (102, kSel (Nat.blt i m) (.i 3 (.ofNat x))), (103, kSel (Nat.blt i m) (.b (not' (Nat.beq x 0)))), (104, .b false), (111, .i 3 (.ofNat j)), (92, .i 3 (.ofNat j))]
/-- .. where one is added: y is z then, at place q of object ou -/
noncomputable def kA (U : AV) (ok m i p j x ou q : Nat) (y z : Int) : List (Nat × AV) :=
  [(93, .b true), (94, .i 3 (.ofNat i)), (95, .p ok p), (96, .i 3 (.ofNat x)), (22, .i 3 (.ofNat i)), (23, .i 3 (.ofNat x)), (97, .i 3 (.ofNat i)), (98, U), (99, .i 3 (.ofNat m)), (100, .b true), (101, .b true),
   (102, .i 3 (.ofNat x)), (103, .b true), (104, .b true), (105, U), (106, .i 3 (.ofNat i)), (107, .p ou q), (108, .i 3 y), (109, .i 3 z), (110, .p ou q), (111, .i 3 (.ofNat j)), (92, .i 3 (.ofNat j))]
section
variable {en : Env} {h : H} {nx ok fk n ou fu m i x : Nat} {ck cu : Option Nat} {κ κx : Env → H → Nat → R}
/-- how the loop stands at a round's beginning -/
structure KIn (en : Env) (ok fk n ou fu m i : Nat) (ck cu : Option Nat) : Prop where
  h90 : eg 90 en = .sl ok fk n ck
  h91 : eg 91 en = .i 3 (.ofNat n)
  h92 : eg 92 en = .i 3 (.ofNat i)
  h21 : eg 21 en = .sl ou fu m cu
theorem cmEq_nat (a b : Nat) (κ : Bool → R) : cmEq (.ofNat a) (.ofNat b) κ = κ (Nat.beq a b) := rfl
theorem arAdd_nat {a b : Nat} (h : Nat.blt (a + b) 9223372036854775808 = true) (κ : Int → R) : arAdd 3 (.ofNat a) (.ofNat b) κ = κ (.ofNat (a + b)) := by
  show wrN 3 (a + b) κ = _
  unfold wrN
  rw [fnat_eq]
  show br (Nat.blt (a + b) 9223372036854775808) _ _ = _
  rw [h]; rfl
theorem k_quiet (hk : KIn en ok fk n ou fu m i ck cu) (hi : i < n) (hn : n < 9223372036854775808) (hc : objC h ok (fk + i * 1) = some (.i 3 (.ofNat x))) (hq : Nat.blt i m = false ∨ x = 0) :
    kRound en h nx κ κx = κ (esL (kQ (.sl ou fu m cu) ok m i (fk + i * 1) (i + 1) x) en) h nx := by
  have h1 : Nat.blt i n = true := by simpa [Nat.blt_eq] using hi
  have h2 : Nat.blt (i + 1) 9223372036854775808 = true := by simp [Nat.blt_eq]; omega
  have h90 : eg 90 en = _ := hk.h90
  have h91 : eg 91 en = _ := hk.h91
  have h92 : eg 92 en = _ := hk.h92
  have h21 : eg 21 en = _ := hk.h21
  have hr : ∀ κ, rd1 ok (fk.add (i.mul 1)) h κ = κ (.i 3 (.ofNat x)) := rd1_eq hc
  simp only [kRound, kS1, kS2, kS3, kS5, sOp, sOpG, sNil, oLt, oMv, oIas, oLd1, oLenl, oEq, oPick, oLa, laV_ii, gG, xT_eq, dT_eq, xC, eg_es, Nat.reduceLT, Nat.reduceEqDiff, if_true, if_false, reduceIte,
    h90, h91, h92, h21, asK_i, asN_i, asB_b, asBL_b, ltV_ii, geV_ii, eqV_ii, ldV_p, asP_p, asSl_sl, cmLt_nat, cmEq_nat, kB_eq, h1, brT, fnat_eq, hr, arAdd_nat h2]
  have b1 : eqB false true = false := rfl
  have b2 : eqB true true = true := rfl
  rcases hq with hm | rfl
  · simp only [hm, b1, brF, kQ, esL, kSel]
    rfl
  · have b3 : Nat.beq 0 0 = true := rfl
    have b4 : eqB true (not' true) = false := rfl
    have b5 : not' true = false := rfl
    cases hm : Nat.blt i m with
    | false =>
      simp only [b1, brF, kQ, esL, kSel, hm]
      rfl
    | true =>
      simp only [b2, brT, b3, b4, brF, kQ, esL, kSel, hm]
      rfl
theorem k_add {y z : Int} {h' : H} (hk : KIn en ok fk n ou fu m i ck cu) (hi : i < n) (hn : n < 9223372036854775808) (hc : objC h ok (fk + i * 1) = some (.i 3 (.ofNat x))) (hm : Nat.blt i m = true) (hx : Nat.beq x 0 = false)
    (hy : ∀ κ, rd1 ou (fu.add (i.mul 1)) h κ = κ (.i 3 y)) (hz : ∀ κ, arAdd 3 y (.ofNat 1) κ = κ z) (hw : ∀ κ, wrK ou (fu.add (i.mul 1)) [.i 3 z] h κ = κ h') :
    kRound en h nx κ κx = κ (esL (kA (.sl ou fu m cu) ok m i (fk + i * 1) (i + 1) x ou (fu + i * 1) y z) en) h' nx := by
  have h1 : Nat.blt i n = true := by simpa [Nat.blt_eq] using hi
  have h2 : Nat.blt (i + 1) 9223372036854775808 = true := by simp [Nat.blt_eq]; omega
  have h90 : eg 90 en = _ := hk.h90
  have h91 : eg 91 en = _ := hk.h91
  have h92 : eg 92 en = _ := hk.h92
  have h21 : eg 21 en = _ := hk.h21
  have hr : ∀ κ, rd1 ok (fk.add (i.mul 1)) h κ = κ (.i 3 (.ofNat x)) := rd1_eq hc
  have b2 : eqB true true = true := rfl
  have b4 : eqB true (not' false) = true := rfl
  have b6 : ∀ (v : AV) (κ : List AV → R), (∃ k n, v = .i k n) → cellsK κ v = κ [v] := by rintro v κ ⟨k, n, rfl⟩; rfl
  have b7 : ∀ v : AV, Nat.beq (lenN AV [v]) 1 = true := fun _ => rfl
  simp only [kRound, kS1, kS2, kS3, sOp, sOpG, sNil, oLt, oMv, oIas, oLd1, oLenl, oEq, oPick, gG, xT_eq, dT_eq, xC, eg_es, Nat.reduceLT, Nat.reduceEqDiff, if_true, if_false, reduceIte,
    h90, h91, h92, h21, asK_i, asN_i, asB_b, asBL_b, ltV_ii, geV_ii, eqV_ii, ldV_p, asP_p, asSl_sl, cmLt_nat, cmEq_nat, kB_eq, h1, brT, fnat_eq, hr, hm, b2, hx, b4]
  simp (config := { maxSteps := 2000000 }) only [kS4, kS5, sOp, sNil, oMv, oIas, oLd1, oLa, laV_ii, oSt, dN, xT_eq, dT_eq, xC, eg_es, Nat.reduceLT, Nat.reduceEqDiff, if_true, if_false, reduceIte,
    h90, h91, h92, h21, asK_i, asN_i, asP_p, asSl_sl, brT, fnat_eq, arAdd_nat h2, hm, hy, hz, b6 (.i 3 z) _ ⟨_, _, rfl⟩, b7, hw, kA, esL, ldV_p]
  rfl
theorem k_end (hk : KIn en ok fk n ou fu m n ck cu) : kRound en h nx κ κx = κx (es 93 (.b false) en) h nx := by
  have h1 : Nat.blt n n = false := by
    cases h : Nat.blt n n with
    | false => rfl
    | true => simp [Nat.blt_eq] at h
  have h91 : eg 91 en = _ := hk.h91
  have h92 : eg 92 en = _ := hk.h92
  simp only [kRound, kS1, sOp, sNil, oLt, xT_eq, dT_eq, eg_es, Nat.reduceLT, if_true, reduceIte, h91, h92, asK_i, asB_b, asBL_b, ltV_ii, geV_ii, eqV_ii, ldV_p, cmLt_nat, kB_eq, h1, brF]
end
end Go.AM
