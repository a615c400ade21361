/-
  AM, 33: how many sectors are free behind one another, done at once. Conditions: none.
-/
import Derived.Test.YtniakcilpolneaaGreatDoorAmSa
namespace Go.AM
open Go

noncomputable def fS1 : SegF := sOp (dT 6) (oMv (xT 1)) <| sOp (dT 7) (oMv (xT 5)) <| sOp (dT 8) (oAd 3 (xT 6) (xT 7)) <| sOp (dT 9) (oLt 3 (xT 8) (xC (.i 3 (.ofNat 65536)))) <| sOp (dT 10) (oMv (xT 9)) <|
  sOpG (gG (xT 10) true) (dT 11) (oMv (xT 1)) <| sOpG (gG (xT 10) true) (dT 12) (oMv (xT 5)) <| sOpG (gG (xT 10) true) (dT 13) (oAd 3 (xT 11) (xT 12)) <| sOpG (gG (xT 10) true) (dT 14) (oMv (xT 0)) <|
  sOpG (gG (xT 10) true) (dT 15) (oNc (xT 14)) <| sOpG (gG (xT 10) true) (dT 16) (oFa (xT 15) 8) <| sOpG (gG (xT 10) true) (dT 17) (oLd1 (xT 16)) <| sOpG (gG (xT 10) true) (dT 18) (oLenl (xT 17)) <|
  sOpG (gG (xT 10) true) (dT 19) (oGe 3 (xT 13) (xT 18)) <| sOpG (gG (xT 10) true) (dT 20) (oMv (xT 19)) <| sOpG (gG (xT 20) false) (dT 21) (oMv (xT 0)) <| sOpG (gG (xT 20) false) (dT 22) (oNc (xT 21)) <|
  sOpG (gG (xT 20) false) (dT 23) (oFa (xT 22) 8) <| sOpG (gG (xT 20) false) (dT 24) (oLd1 (xT 23)) <| sOpG (gG (xT 20) false) (dT 25) (oMv (xT 1)) <| sOpG (gG (xT 20) false) (dT 26) (oMv (xT 5)) <|
  sOpG (gG (xT 20) false) (dT 27) (oAd 3 (xT 25) (xT 26)) <| sOpG (gG (xT 20) false) (dT 28) (oIas (xT 24) (xT 27) 1) <| sOpG (gG (xT 20) false) (dT 29) (oLd1 (xT 28)) <|
  sOpG (gG (xT 20) false) (dT 30) (oEq false 3 (xT 29) (xC (.i 3 (.ofNat 0)))) <| sOpG (gG (xT 10) true) (dT 31) (oPick (xT 20) (xC (.b true)) (xT 30)) <| sOp (dT 32) (oPick (xT 10) (xT 31) (xC (.b false))) <| sNil
noncomputable def fS2 : SegF := sOp (dT 33) (oMv (xT 5)) <| sOp (dT 34) (oAd 3 (xT 33) (xC (.i 3 (.ofNat 1)))) <| sOp (dT 5) (oMv (xT 34)) <| sNil
noncomputable def fpB : C := .seq (.seq (.rg (.fin fS1)) (.cond (xT 32) .skip (.exit 0))) (.blk 1 (.rg (.fin fS2)))
noncomputable def freeC : C := .blk 0 (.loop fpB)
section
variable (F : L (Option AFn) 4) (Lp : L (Option ALp) 5) (en : Env) (k : List T) (fr : Fr) (cs : List AFr) (h : H) (nx : Nat) (κ : ASt → R)
noncomputable def fRound (en : Env) (h : H) (nx : Nat) (κ κx : Env → H → Nat → R) : R := fS1 en h nx fun en h nx => xT 32 en (asBL fun c => br c (fS2 en h nx κ) (κx en h nx))
theorem free_run : run (.mk F Lp false) 4 (.mk en (.lp fpB :: .blk 0 :: k) fr cs h nx) κ =
    fRound en h nx (fun en h nx => κ (.mk en (.lp fpB :: .blk 0 :: k) fr cs h nx)) (fun en h nx => run (.mk F Lp false) 2 (.mk en k fr cs h nx) κ) := rfl
theorem free_run1 (n : Nat) : run (.mk F Lp false) (n + 1) (.mk en (.c freeC :: k) fr cs h nx) κ = run (.mk F Lp false) (n + 1) (.mk en (.lp fpB :: .blk 0 :: k) fr cs h nx) κ := rfl
theorem free_run2 : run (.mk F Lp false) 2 (.mk en (.lp fpB :: .blk 0 :: k) fr cs h nx) κ =
    fS1 en h nx fun en h nx => xT 32 en (asBL fun c => br c (κ (.mk en (.c (.blk 1 (.rg (.fin fS2))) :: .lp fpB :: .blk 0 :: k) fr cs h nx)) (κ (.mk en k fr cs h nx))) := rfl
end
/-- what a round sets that goes on: s is pl + n, ge: does it lie behind the row's end -/
noncomputable def fQ (U : AV) (o off off8 pl m ou n s q j : Nat) (ge : Bool) : List (Nat × AV) :=
  [(6, .i 3 (.ofNat pl)), (7, .i 3 (.ofNat n)), (8, .i 3 (.ofNat s)), (9, .b true), (10, .b true), (11, .i 3 (.ofNat pl)), (12, .i 3 (.ofNat n)), (13, .i 3 (.ofNat s)), (14, .p o off), (15, .p o off), (16, .p o off8), (17, U), (18, .i 3 (.ofNat m)),
   (19, .b ge), (20, .b ge), (21, kSel (not' ge) (.p o off)), (22, kSel (not' ge) (.p o off)), (23, kSel (not' ge) (.p o off8)), (24, kSel (not' ge) U), (25, kSel (not' ge) (.i 3 (.ofNat pl))), (26, kSel (not' ge) (.i 3 (.ofNat n))),
   (27, kSel (not' ge) (.i 3 (.ofNat s))), (28, kSel (not' ge) (.p ou q)), (29, kSel (not' ge) (.i 3 (.ofNat 0))), (30, kSel (not' ge) (.b true)), (31, .b true), (32, .b true), (33, .i 3 (.ofNat n)), (34, .i 3 (.ofNat j)), (5, .i 3 (.ofNat j))]
/-- .. that ends at a sector that is used -/
noncomputable def fXa (U : AV) (o off off8 pl m ou n s q x : Nat) : List (Nat × AV) :=
  [(6, .i 3 (.ofNat pl)), (7, .i 3 (.ofNat n)), (8, .i 3 (.ofNat s)), (9, .b true), (10, .b true), (11, .i 3 (.ofNat pl)), (12, .i 3 (.ofNat n)), (13, .i 3 (.ofNat s)), (14, .p o off), (15, .p o off), (16, .p o off8), (17, U), (18, .i 3 (.ofNat m)),
   (19, .b false), (20, .b false), (21, .p o off), (22, .p o off), (23, .p o off8), (24, U), (25, .i 3 (.ofNat pl)), (26, .i 3 (.ofNat n)),
   (27, .i 3 (.ofNat s)), (28, .p ou q), (29, .i 3 (.ofNat x)), (30, .b false), (31, .b false), (32, .b false)]
/-- .. that ends where no sector is any more -/
noncomputable def fXb (pl n s : Nat) : List (Nat × AV) :=
  [(6, .i 3 (.ofNat pl)), (7, .i 3 (.ofNat n)), (8, .i 3 (.ofNat s)), (9, .b false), (10, .b false), (11, undef), (12, undef), (13, undef), (14, undef), (15, undef), (16, undef), (17, undef), (18, undef), (19, undef), (20, undef),
   (21, undef), (22, undef), (23, undef), (24, undef), (25, undef), (26, undef), (27, undef), (28, undef), (29, undef), (30, undef), (31, undef), (32, .b false)]
section
variable {en : Env} {h : H} {nx o off pl ou fu m n : Nat} {cu : Option Nat} {κ κx : Env → H → Nat → R}
structure FIn (en : Env) (o off pl n : Nat) : Prop where
  h0 : eg 0 en = .p o off
  h1 : eg 1 en = .i 3 (.ofNat pl)
  h5 : eg 5 en = .i 3 (.ofNat n)
noncomputable def fQ27 (U : AV) (o off off8 pl m ou n s q : Nat) (ge : Bool) : List (Nat × AV) :=
  [(6, .i 3 (.ofNat pl)), (7, .i 3 (.ofNat n)), (8, .i 3 (.ofNat s)), (9, .b true), (10, .b true), (11, .i 3 (.ofNat pl)), (12, .i 3 (.ofNat n)), (13, .i 3 (.ofNat s)), (14, .p o off), (15, .p o off), (16, .p o off8), (17, U), (18, .i 3 (.ofNat m)),
   (19, .b ge), (20, .b ge), (21, kSel (not' ge) (.p o off)), (22, kSel (not' ge) (.p o off)), (23, kSel (not' ge) (.p o off8)), (24, kSel (not' ge) U), (25, kSel (not' ge) (.i 3 (.ofNat pl))), (26, kSel (not' ge) (.i 3 (.ofNat n))),
   (27, kSel (not' ge) (.i 3 (.ofNat s))), (28, kSel (not' ge) (.p ou q)), (29, kSel (not' ge) (.i 3 (.ofNat 0))), (30, kSel (not' ge) (.b true)), (31, .b true), (32, .b true)]
theorem cmLe_nat (a b : Nat) (κ : Bool → R) : cmLe (.ofNat a) (.ofNat b) κ = κ (Nat.ble a b) := rfl
/-- a stretch that sets temporaries alone -/
def SegTo (h : H) (nx : Nat) (s : SegF) (en en' : Env) : Prop := ∀ κ : Env → H → Nat → R, s en h nx κ = κ en' h nx
theorem SegTo.nil {h : H} {nx : Nat} {en : Env} : SegTo h nx sNil en en := fun _ => rfl
theorem SegTo.op {h : H} {nx t : Nat} {en en' : Env} {f : OpF} {r : SegF} {v : AV} (_ : t < 512) (hf : ∀ κ : K, f en h nx κ = κ v h nx) (hr : SegTo h nx r (es t v en) en') : SegTo h nx (sOp (dT t) f r) en en' := by
  intro κ
  show f en h nx (fun v h nx => dT t v en fun en => r en h nx κ) = _
  rw [hf, dT_eq]; exact hr κ
theorem gG_b {g : Nat} {want c : Bool} {en : Env} (hg : eg g en = .b c) (A B : R) : gG (xT g) want en A B = br (eqB c want) A B := by
  show xT g en (fun v => match v with | .b c => br (eqB c want) A B | .tu _ => B | _ => false) = _
  rw [xT_eq, hg]
theorem SegTo.yes {h : H} {nx t g : Nat} {want c : Bool} {en en' : Env} {f : OpF} {r : SegF} {v : AV} (_ : t < 512) (hg : eg g en = .b c) (hc : eqB c want = true) (hf : ∀ κ : K, f en h nx κ = κ v h nx) (hr : SegTo h nx r (es t v en) en') :
    SegTo h nx (sOpG (gG (xT g) want) (dT t) f r) en en' := by
  intro κ
  show gG (xT g) want en (f en h nx fun v h nx => dT t v en fun en => r en h nx κ) (dT t undef en fun en => r en h nx κ) = _
  rw [gG_b hg, hc, brT, hf, dT_eq]; exact hr κ
theorem SegTo.no {h : H} {nx t g : Nat} {want c : Bool} {en en' : Env} {f : OpF} {r : SegF} (_ : t < 512) (hg : eg g en = .b c) (hc : eqB c want = false) (hr : SegTo h nx r (es t undef en) en') : SegTo h nx (sOpG (gG (xT g) want) (dT t) f r) en en' := by
  intro κ
  show gG (xT g) want en (f en h nx fun v h nx => dT t v en fun en => r en h nx κ) (dT t undef en fun en => r en h nx κ) = _
  rw [gG_b hg, hc, brF, dT_eq]; exact hr κ
theorem SegTo.un {h : H} {nx t g : Nat} {want : Bool} {en en' : Env} {f : OpF} {r : SegF} (_ : t < 512) (hg : eg g en = undef) (hr : SegTo h nx r (es t undef en) en') : SegTo h nx (sOpG (gG (xT g) want) (dT t) f r) en en' := by
  intro κ
  show xT g en (fun v => match v with | .b c => br (eqB c want) (f en h nx fun v h nx => dT t v en fun en => r en h nx κ) (dT t undef en fun en => r en h nx κ) | .tu _ => (dT t undef en fun en => r en h nx κ) | _ => false) = _
  rw [xT_eq, hg]
  show dT t undef en (fun en => r en h nx κ) = _
  rw [dT_eq]; exact hr κ
theorem f_q1 (hf : FIn en o off pl n) (hu : ∀ κ, rd1 o (off.add 8) h κ = κ (.sl ou fu m cu)) (hs : pl + n < 65536) (hge : Nat.ble m (pl + n) = true) :
    SegTo h nx fS1 en (esL (fQ27 (.sl ou fu m cu) o off (off + 8) pl m ou n (pl + n) (fu + (pl + n) * 1) true) en) := by
  have h0 : eg 0 en = _ := hf.h0
  have h1 : eg 1 en = _ := hf.h1
  have h5 : eg 5 en = _ := hf.h5
  have a0 : Nat.blt (pl + n) 9223372036854775808 = true := by simp [Nat.blt_eq]; omega
  have a1 : True := trivial
  have a2 : True := trivial
  have a3 : Nat.blt (pl + n) 65536 = true := by simp [Nat.blt_eq]; omega
  have c1 : Nat.ble m (pl + n) = true := hge
  have c2 : True := trivial
  have c3 : True := trivial
  have b4 : True := trivial
  refine .op (v := (.i 3 (.ofNat pl))) (by decide) (fun κ => by simp only [oMv, xT_eq, xC, eg_es, Nat.reduceLT, Nat.reduceEqDiff, if_true, if_false, reduceIte, h0, h1, h5, asK_i, asN_i, asB_b, asBL_b, ltV_ii, geV_ii, eqV_ii, ldV_p, asP_p, asSl_sl, cmLt_nat, cmLe_nat, cmEq_nat, kB_eq, brT, brF, fnat_eq, hu, a1, a2, a3, c1, c2, c3, b4]) ?_
  refine .op (v := (.i 3 (.ofNat n))) (by decide) (fun κ => by simp only [oMv, xT_eq, xC, eg_es, Nat.reduceLT, Nat.reduceEqDiff, if_true, if_false, reduceIte, h0, h1, h5, asK_i, asN_i, asB_b, asBL_b, ltV_ii, geV_ii, eqV_ii, ldV_p, asP_p, asSl_sl, cmLt_nat, cmLe_nat, cmEq_nat, kB_eq, brT, brF, fnat_eq, hu, a1, a2, a3, c1, c2, c3, b4]) ?_
  refine .op (v := (.i 3 (.ofNat (pl + n)))) (by decide) (fun κ => by simp only [oAd, adV_ii, arAdd_nat a0, xT_eq, xC, eg_es, Nat.reduceLT, Nat.reduceEqDiff, if_true, if_false, reduceIte, h0, h1, h5, asK_i, asN_i, asB_b, asBL_b, ltV_ii, geV_ii, eqV_ii, ldV_p, asP_p, asSl_sl, cmLt_nat, cmLe_nat, cmEq_nat, kB_eq, brT, brF, fnat_eq, hu, a1, a2, a3, c1, c2, c3, b4]) ?_
  refine .op (v := (.b true)) (by decide) (fun κ => by simp only [oLt, xT_eq, xC, eg_es, Nat.reduceLT, Nat.reduceEqDiff, if_true, if_false, reduceIte, h0, h1, h5, asK_i, asN_i, asB_b, asBL_b, ltV_ii, geV_ii, eqV_ii, ldV_p, asP_p, asSl_sl, cmLt_nat, cmLe_nat, cmEq_nat, kB_eq, brT, brF, fnat_eq, hu, a1, a2, a3, c1, c2, c3, b4]) ?_
  refine .op (v := (.b true)) (by decide) (fun κ => by simp only [oMv, xT_eq, xC, eg_es, Nat.reduceLT, Nat.reduceEqDiff, if_true, if_false, reduceIte, h0, h1, h5, asK_i, asN_i, asB_b, asBL_b, ltV_ii, geV_ii, eqV_ii, ldV_p, asP_p, asSl_sl, cmLt_nat, cmLe_nat, cmEq_nat, kB_eq, brT, brF, fnat_eq, hu, a1, a2, a3, c1, c2, c3, b4]) ?_
  refine .yes (v := (.i 3 (.ofNat pl))) (c := true) (by decide) (by simp only [eg_es, Nat.reduceLT, Nat.reduceEqDiff, if_true, if_false, reduceIte]) rfl (fun κ => by simp only [oMv, xT_eq, xC, eg_es, Nat.reduceLT, Nat.reduceEqDiff, if_true, if_false, reduceIte, h0, h1, h5, asK_i, asN_i, asB_b, asBL_b, ltV_ii, geV_ii, eqV_ii, ldV_p, asP_p, asSl_sl, cmLt_nat, cmLe_nat, cmEq_nat, kB_eq, brT, brF, fnat_eq, hu, a1, a2, a3, c1, c2, c3, b4]) ?_
  refine .yes (v := (.i 3 (.ofNat n))) (c := true) (by decide) (by simp only [eg_es, Nat.reduceLT, Nat.reduceEqDiff, if_true, if_false, reduceIte]) rfl (fun κ => by simp only [oMv, xT_eq, xC, eg_es, Nat.reduceLT, Nat.reduceEqDiff, if_true, if_false, reduceIte, h0, h1, h5, asK_i, asN_i, asB_b, asBL_b, ltV_ii, geV_ii, eqV_ii, ldV_p, asP_p, asSl_sl, cmLt_nat, cmLe_nat, cmEq_nat, kB_eq, brT, brF, fnat_eq, hu, a1, a2, a3, c1, c2, c3, b4]) ?_
  refine .yes (v := (.i 3 (.ofNat (pl + n)))) (c := true) (by decide) (by simp only [eg_es, Nat.reduceLT, Nat.reduceEqDiff, if_true, if_false, reduceIte]) rfl (fun κ => by simp only [oAd, adV_ii, arAdd_nat a0, xT_eq, xC, eg_es, Nat.reduceLT, Nat.reduceEqDiff, if_true, if_false, reduceIte, h0, h1, h5, asK_i, asN_i, asB_b, asBL_b, ltV_ii, geV_ii, eqV_ii, ldV_p, asP_p, asSl_sl, cmLt_nat, cmLe_nat, cmEq_nat, kB_eq, brT, brF, fnat_eq, hu, a1, a2, a3, c1, c2, c3, b4]) ?_
  refine .yes (v := (.p o off)) (c := true) (by decide) (by simp only [eg_es, Nat.reduceLT, Nat.reduceEqDiff, if_true, if_false, reduceIte]) rfl (fun κ => by simp only [oMv, xT_eq, xC, eg_es, Nat.reduceLT, Nat.reduceEqDiff, if_true, if_false, reduceIte, h0, h1, h5, asK_i, asN_i, asB_b, asBL_b, ltV_ii, geV_ii, eqV_ii, ldV_p, asP_p, asSl_sl, cmLt_nat, cmLe_nat, cmEq_nat, kB_eq, brT, brF, fnat_eq, hu, a1, a2, a3, c1, c2, c3, b4]) ?_
  refine .yes (v := (.p o off)) (c := true) (by decide) (by simp only [eg_es, Nat.reduceLT, Nat.reduceEqDiff, if_true, if_false, reduceIte]) rfl (fun κ => by simp only [oNc, xT_eq, xC, eg_es, Nat.reduceLT, Nat.reduceEqDiff, if_true, if_false, reduceIte, h0, h1, h5, asK_i, asN_i, asB_b, asBL_b, ltV_ii, geV_ii, eqV_ii, ldV_p, asP_p, asSl_sl, cmLt_nat, cmLe_nat, cmEq_nat, kB_eq, brT, brF, fnat_eq, hu, a1, a2, a3, c1, c2, c3, b4]) ?_
  refine .yes (v := (.p o (off + 8))) (c := true) (by decide) (by simp only [eg_es, Nat.reduceLT, Nat.reduceEqDiff, if_true, if_false, reduceIte]) rfl (fun κ => by simp only [oFa, xT_eq, xC, eg_es, Nat.reduceLT, Nat.reduceEqDiff, if_true, if_false, reduceIte, h0, h1, h5, asK_i, asN_i, asB_b, asBL_b, ltV_ii, geV_ii, eqV_ii, ldV_p, asP_p, asSl_sl, cmLt_nat, cmLe_nat, cmEq_nat, kB_eq, brT, brF, fnat_eq, hu, a1, a2, a3, c1, c2, c3, b4]) ?_
  refine .yes (v := (.sl ou fu m cu)) (c := true) (by decide) (by simp only [eg_es, Nat.reduceLT, Nat.reduceEqDiff, if_true, if_false, reduceIte]) rfl (fun κ => by simp only [oLd1, xT_eq, xC, eg_es, Nat.reduceLT, Nat.reduceEqDiff, if_true, if_false, reduceIte, h0, h1, h5, asK_i, asN_i, asB_b, asBL_b, ltV_ii, geV_ii, eqV_ii, ldV_p, asP_p, asSl_sl, cmLt_nat, cmLe_nat, cmEq_nat, kB_eq, brT, brF, fnat_eq, hu, a1, a2, a3, c1, c2, c3, b4]) ?_
  refine .yes (v := (.i 3 (.ofNat m))) (c := true) (by decide) (by simp only [eg_es, Nat.reduceLT, Nat.reduceEqDiff, if_true, if_false, reduceIte]) rfl (fun κ => by simp only [oLenl, xT_eq, xC, eg_es, Nat.reduceLT, Nat.reduceEqDiff, if_true, if_false, reduceIte, h0, h1, h5, asK_i, asN_i, asB_b, asBL_b, ltV_ii, geV_ii, eqV_ii, ldV_p, asP_p, asSl_sl, cmLt_nat, cmLe_nat, cmEq_nat, kB_eq, brT, brF, fnat_eq, hu, a1, a2, a3, c1, c2, c3, b4]) ?_
  refine .yes (v := (.b true)) (c := true) (by decide) (by simp only [eg_es, Nat.reduceLT, Nat.reduceEqDiff, if_true, if_false, reduceIte]) rfl (fun κ => by simp only [oGe, xT_eq, xC, eg_es, Nat.reduceLT, Nat.reduceEqDiff, if_true, if_false, reduceIte, h0, h1, h5, asK_i, asN_i, asB_b, asBL_b, ltV_ii, geV_ii, eqV_ii, ldV_p, asP_p, asSl_sl, cmLt_nat, cmLe_nat, cmEq_nat, kB_eq, brT, brF, fnat_eq, hu, a1, a2, a3, c1, c2, c3, b4]) ?_
  refine .yes (v := (.b true)) (c := true) (by decide) (by simp only [eg_es, Nat.reduceLT, Nat.reduceEqDiff, if_true, if_false, reduceIte]) rfl (fun κ => by simp only [oMv, xT_eq, xC, eg_es, Nat.reduceLT, Nat.reduceEqDiff, if_true, if_false, reduceIte, h0, h1, h5, asK_i, asN_i, asB_b, asBL_b, ltV_ii, geV_ii, eqV_ii, ldV_p, asP_p, asSl_sl, cmLt_nat, cmLe_nat, cmEq_nat, kB_eq, brT, brF, fnat_eq, hu, a1, a2, a3, c1, c2, c3, b4]) ?_
  refine .no (c := true) (by decide) (by simp only [eg_es, Nat.reduceLT, Nat.reduceEqDiff, if_true, if_false, reduceIte]) rfl ?_
  refine .no (c := true) (by decide) (by simp only [eg_es, Nat.reduceLT, Nat.reduceEqDiff, if_true, if_false, reduceIte]) rfl ?_
  refine .no (c := true) (by decide) (by simp only [eg_es, Nat.reduceLT, Nat.reduceEqDiff, if_true, if_false, reduceIte]) rfl ?_
  refine .no (c := true) (by decide) (by simp only [eg_es, Nat.reduceLT, Nat.reduceEqDiff, if_true, if_false, reduceIte]) rfl ?_
  refine .no (c := true) (by decide) (by simp only [eg_es, Nat.reduceLT, Nat.reduceEqDiff, if_true, if_false, reduceIte]) rfl ?_
  refine .no (c := true) (by decide) (by simp only [eg_es, Nat.reduceLT, Nat.reduceEqDiff, if_true, if_false, reduceIte]) rfl ?_
  refine .no (c := true) (by decide) (by simp only [eg_es, Nat.reduceLT, Nat.reduceEqDiff, if_true, if_false, reduceIte]) rfl ?_
  refine .no (c := true) (by decide) (by simp only [eg_es, Nat.reduceLT, Nat.reduceEqDiff, if_true, if_false, reduceIte]) rfl ?_
  refine .no (c := true) (by decide) (by simp only [eg_es, Nat.reduceLT, Nat.reduceEqDiff, if_true, if_false, reduceIte]) rfl ?_
  refine .no (c := true) (by decide) (by simp only [eg_es, Nat.reduceLT, Nat.reduceEqDiff, if_true, if_false, reduceIte]) rfl ?_
  refine .yes (v := (.b true)) (c := true) (by decide) (by simp only [eg_es, Nat.reduceLT, Nat.reduceEqDiff, if_true, if_false, reduceIte]) rfl (fun κ => by simp only [oPick, xT_eq, xC, eg_es, Nat.reduceLT, Nat.reduceEqDiff, if_true, if_false, reduceIte, h0, h1, h5, asK_i, asN_i, asB_b, asBL_b, ltV_ii, geV_ii, eqV_ii, ldV_p, asP_p, asSl_sl, cmLt_nat, cmLe_nat, cmEq_nat, kB_eq, brT, brF, fnat_eq, hu, a1, a2, a3, c1, c2, c3, b4]) ?_
  refine .op (v := (.b true)) (by decide) (fun κ => by simp only [oPick, xT_eq, xC, eg_es, Nat.reduceLT, Nat.reduceEqDiff, if_true, if_false, reduceIte, h0, h1, h5, asK_i, asN_i, asB_b, asBL_b, ltV_ii, geV_ii, eqV_ii, ldV_p, asP_p, asSl_sl, cmLt_nat, cmLe_nat, cmEq_nat, kB_eq, brT, brF, fnat_eq, hu, a1, a2, a3, c1, c2, c3, b4]) ?_
  exact .nil
theorem f_q2 (hf : FIn en o off pl n) (hu : ∀ κ, rd1 o (off.add 8) h κ = κ (.sl ou fu m cu)) (hs : pl + n < 65536) (hge : Nat.ble m (pl + n) = false) (hc : objC h ou (fu + (pl + n) * 1) = some (.i 3 (.ofNat 0))) :
    SegTo h nx fS1 en (esL (fQ27 (.sl ou fu m cu) o off (off + 8) pl m ou n (pl + n) (fu + (pl + n) * 1) false) en) := by
  have h0 : eg 0 en = _ := hf.h0
  have h1 : eg 1 en = _ := hf.h1
  have h5 : eg 5 en = _ := hf.h5
  have a0 : Nat.blt (pl + n) 9223372036854775808 = true := by simp [Nat.blt_eq]; omega
  have a1 : True := trivial
  have a2 : True := trivial
  have a3 : Nat.blt (pl + n) 65536 = true := by simp [Nat.blt_eq]; omega
  have c1 : Nat.ble m (pl + n) = false := hge
  have c2 : Nat.blt (pl + n) m = true := by
    have : ¬ (m ≤ pl + n) := fun h => by rw [Nat.ble_eq_true_of_le h] at hge; cases hge
    simp [Nat.blt_eq]; omega
  have c3 : eqB false (not' (Nat.beq 0 0)) = true := rfl
  have b4 : True := trivial
  have hr : ∀ κ, rd1 ou (fu.add ((pl + n).mul 1)) h κ = κ (.i 3 (.ofNat 0)) := rd1_eq hc
  refine .op (v := (.i 3 (.ofNat pl))) (by decide) (fun κ => by simp only [oMv, xT_eq, xC, eg_es, Nat.reduceLT, Nat.reduceEqDiff, if_true, if_false, reduceIte, h0, h1, h5, asK_i, asN_i, asB_b, asBL_b, ltV_ii, geV_ii, eqV_ii, ldV_p, asP_p, asSl_sl, cmLt_nat, cmLe_nat, cmEq_nat, kB_eq, brT, brF, fnat_eq, hu, a1, a2, a3, c1, c2, c3, b4]) ?_
  refine .op (v := (.i 3 (.ofNat n))) (by decide) (fun κ => by simp only [oMv, xT_eq, xC, eg_es, Nat.reduceLT, Nat.reduceEqDiff, if_true, if_false, reduceIte, h0, h1, h5, asK_i, asN_i, asB_b, asBL_b, ltV_ii, geV_ii, eqV_ii, ldV_p, asP_p, asSl_sl, cmLt_nat, cmLe_nat, cmEq_nat, kB_eq, brT, brF, fnat_eq, hu, a1, a2, a3, c1, c2, c3, b4]) ?_
  refine .op (v := (.i 3 (.ofNat (pl + n)))) (by decide) (fun κ => by simp only [oAd, adV_ii, arAdd_nat a0, xT_eq, xC, eg_es, Nat.reduceLT, Nat.reduceEqDiff, if_true, if_false, reduceIte, h0, h1, h5, asK_i, asN_i, asB_b, asBL_b, ltV_ii, geV_ii, eqV_ii, ldV_p, asP_p, asSl_sl, cmLt_nat, cmLe_nat, cmEq_nat, kB_eq, brT, brF, fnat_eq, hu, a1, a2, a3, c1, c2, c3, b4]) ?_
  refine .op (v := (.b true)) (by decide) (fun κ => by simp only [oLt, xT_eq, xC, eg_es, Nat.reduceLT, Nat.reduceEqDiff, if_true, if_false, reduceIte, h0, h1, h5, asK_i, asN_i, asB_b, asBL_b, ltV_ii, geV_ii, eqV_ii, ldV_p, asP_p, asSl_sl, cmLt_nat, cmLe_nat, cmEq_nat, kB_eq, brT, brF, fnat_eq, hu, a1, a2, a3, c1, c2, c3, b4]) ?_
  refine .op (v := (.b true)) (by decide) (fun κ => by simp only [oMv, xT_eq, xC, eg_es, Nat.reduceLT, Nat.reduceEqDiff, if_true, if_false, reduceIte, h0, h1, h5, asK_i, asN_i, asB_b, asBL_b, ltV_ii, geV_ii, eqV_ii, ldV_p, asP_p, asSl_sl, cmLt_nat, cmLe_nat, cmEq_nat, kB_eq, brT, brF, fnat_eq, hu, a1, a2, a3, c1, c2, c3, b4]) ?_
  refine .yes (v := (.i 3 (.ofNat pl))) (c := true) (by decide) (by simp only [eg_es, Nat.reduceLT, Nat.reduceEqDiff, if_true, if_false, reduceIte]) rfl (fun κ => by simp only [oMv, xT_eq, xC, eg_es, Nat.reduceLT, Nat.reduceEqDiff, if_true, if_false, reduceIte, h0, h1, h5, asK_i, asN_i, asB_b, asBL_b, ltV_ii, geV_ii, eqV_ii, ldV_p, asP_p, asSl_sl, cmLt_nat, cmLe_nat, cmEq_nat, kB_eq, brT, brF, fnat_eq, hu, a1, a2, a3, c1, c2, c3, b4]) ?_
  refine .yes (v := (.i 3 (.ofNat n))) (c := true) (by decide) (by simp only [eg_es, Nat.reduceLT, Nat.reduceEqDiff, if_true, if_false, reduceIte]) rfl (fun κ => by simp only [oMv, xT_eq, xC, eg_es, Nat.reduceLT, Nat.reduceEqDiff, if_true, if_false, reduceIte, h0, h1, h5, asK_i, asN_i, asB_b, asBL_b, ltV_ii, geV_ii, eqV_ii, ldV_p, asP_p, asSl_sl, cmLt_nat, cmLe_nat, cmEq_nat, kB_eq, brT, brF, fnat_eq, hu, a1, a2, a3, c1, c2, c3, b4]) ?_
  refine .yes (v := (.i 3 (.ofNat (pl + n)))) (c := true) (by decide) (by simp only [eg_es, Nat.reduceLT, Nat.reduceEqDiff, if_true, if_false, reduceIte]) rfl (fun κ => by simp only [oAd, adV_ii, arAdd_nat a0, xT_eq, xC, eg_es, Nat.reduceLT, Nat.reduceEqDiff, if_true, if_false, reduceIte, h0, h1, h5, asK_i, asN_i, asB_b, asBL_b, ltV_ii, geV_ii, eqV_ii, ldV_p, asP_p, asSl_sl, cmLt_nat, cmLe_nat, cmEq_nat, kB_eq, brT, brF, fnat_eq, hu, a1, a2, a3, c1, c2, c3, b4]) ?_
  refine .yes (v := (.p o off)) (c := true) (by decide) (by simp only [eg_es, Nat.reduceLT, Nat.reduceEqDiff, if_true, if_false, reduceIte]) rfl (fun κ => by simp only [oMv, xT_eq, xC, eg_es, Nat.reduceLT, Nat.reduceEqDiff, if_true, if_false, reduceIte, h0, h1, h5, asK_i, asN_i, asB_b, asBL_b, ltV_ii, geV_ii, eqV_ii, ldV_p, asP_p, asSl_sl, cmLt_nat, cmLe_nat, cmEq_nat, kB_eq, brT, brF, fnat_eq, hu, a1, a2, a3, c1, c2, c3, b4]) ?_
  refine .yes (v := (.p o off)) (c := true) (by decide) (by simp only [eg_es, Nat.reduceLT, Nat.reduceEqDiff, if_true, if_false, reduceIte]) rfl (fun κ => by simp only [oNc, xT_eq, xC, eg_es, Nat.reduceLT, Nat.reduceEqDiff, if_true, if_false, reduceIte, h0, h1, h5, asK_i, asN_i, asB_b, asBL_b, ltV_ii, geV_ii, eqV_ii, ldV_p, asP_p, asSl_sl, cmLt_nat, cmLe_nat, cmEq_nat, kB_eq, brT, brF, fnat_eq, hu, a1, a2, a3, c1, c2, c3, b4]) ?_
  refine .yes (v := (.p o (off + 8))) (c := true) (by decide) (by simp only [eg_es, Nat.reduceLT, Nat.reduceEqDiff, if_true, if_false, reduceIte]) rfl (fun κ => by simp only [oFa, xT_eq, xC, eg_es, Nat.reduceLT, Nat.reduceEqDiff, if_true, if_false, reduceIte, h0, h1, h5, asK_i, asN_i, asB_b, asBL_b, ltV_ii, geV_ii, eqV_ii, ldV_p, asP_p, asSl_sl, cmLt_nat, cmLe_nat, cmEq_nat, kB_eq, brT, brF, fnat_eq, hu, a1, a2, a3, c1, c2, c3, b4]) ?_
  refine .yes (v := (.sl ou fu m cu)) (c := true) (by decide) (by simp only [eg_es, Nat.reduceLT, Nat.reduceEqDiff, if_true, if_false, reduceIte]) rfl (fun κ => by simp only [oLd1, xT_eq, xC, eg_es, Nat.reduceLT, Nat.reduceEqDiff, if_true, if_false, reduceIte, h0, h1, h5, asK_i, asN_i, asB_b, asBL_b, ltV_ii, geV_ii, eqV_ii, ldV_p, asP_p, asSl_sl, cmLt_nat, cmLe_nat, cmEq_nat, kB_eq, brT, brF, fnat_eq, hu, a1, a2, a3, c1, c2, c3, b4]) ?_
  refine .yes (v := (.i 3 (.ofNat m))) (c := true) (by decide) (by simp only [eg_es, Nat.reduceLT, Nat.reduceEqDiff, if_true, if_false, reduceIte]) rfl (fun κ => by simp only [oLenl, xT_eq, xC, eg_es, Nat.reduceLT, Nat.reduceEqDiff, if_true, if_false, reduceIte, h0, h1, h5, asK_i, asN_i, asB_b, asBL_b, ltV_ii, geV_ii, eqV_ii, ldV_p, asP_p, asSl_sl, cmLt_nat, cmLe_nat, cmEq_nat, kB_eq, brT, brF, fnat_eq, hu, a1, a2, a3, c1, c2, c3, b4]) ?_
  refine .yes (v := (.b false)) (c := true) (by decide) (by simp only [eg_es, Nat.reduceLT, Nat.reduceEqDiff, if_true, if_false, reduceIte]) rfl (fun κ => by simp only [oGe, xT_eq, xC, eg_es, Nat.reduceLT, Nat.reduceEqDiff, if_true, if_false, reduceIte, h0, h1, h5, asK_i, asN_i, asB_b, asBL_b, ltV_ii, geV_ii, eqV_ii, ldV_p, asP_p, asSl_sl, cmLt_nat, cmLe_nat, cmEq_nat, kB_eq, brT, brF, fnat_eq, hu, a1, a2, a3, c1, c2, c3, b4]) ?_
  refine .yes (v := (.b false)) (c := true) (by decide) (by simp only [eg_es, Nat.reduceLT, Nat.reduceEqDiff, if_true, if_false, reduceIte]) rfl (fun κ => by simp only [oMv, xT_eq, xC, eg_es, Nat.reduceLT, Nat.reduceEqDiff, if_true, if_false, reduceIte, h0, h1, h5, asK_i, asN_i, asB_b, asBL_b, ltV_ii, geV_ii, eqV_ii, ldV_p, asP_p, asSl_sl, cmLt_nat, cmLe_nat, cmEq_nat, kB_eq, brT, brF, fnat_eq, hu, a1, a2, a3, c1, c2, c3, b4]) ?_
  refine .yes (v := (.p o off)) (c := false) (by decide) (by simp only [eg_es, Nat.reduceLT, Nat.reduceEqDiff, if_true, if_false, reduceIte]) rfl (fun κ => by simp only [oMv, xT_eq, xC, eg_es, Nat.reduceLT, Nat.reduceEqDiff, if_true, if_false, reduceIte, h0, h1, h5, asK_i, asN_i, asB_b, asBL_b, ltV_ii, geV_ii, eqV_ii, ldV_p, asP_p, asSl_sl, cmLt_nat, cmLe_nat, cmEq_nat, kB_eq, brT, brF, fnat_eq, hu, a1, a2, a3, c1, c2, c3, b4]) ?_
  refine .yes (v := (.p o off)) (c := false) (by decide) (by simp only [eg_es, Nat.reduceLT, Nat.reduceEqDiff, if_true, if_false, reduceIte]) rfl (fun κ => by simp only [oNc, xT_eq, xC, eg_es, Nat.reduceLT, Nat.reduceEqDiff, if_true, if_false, reduceIte, h0, h1, h5, asK_i, asN_i, asB_b, asBL_b, ltV_ii, geV_ii, eqV_ii, ldV_p, asP_p, asSl_sl, cmLt_nat, cmLe_nat, cmEq_nat, kB_eq, brT, brF, fnat_eq, hu, a1, a2, a3, c1, c2, c3, b4]) ?_
  refine .yes (v := (.p o (off + 8))) (c := false) (by decide) (by simp only [eg_es, Nat.reduceLT, Nat.reduceEqDiff, if_true, if_false, reduceIte]) rfl (fun κ => by simp only [oFa, xT_eq, xC, eg_es, Nat.reduceLT, Nat.reduceEqDiff, if_true, if_false, reduceIte, h0, h1, h5, asK_i, asN_i, asB_b, asBL_b, ltV_ii, geV_ii, eqV_ii, ldV_p, asP_p, asSl_sl, cmLt_nat, cmLe_nat, cmEq_nat, kB_eq, brT, brF, fnat_eq, hu, a1, a2, a3, c1, c2, c3, b4]) ?_
  refine .yes (v := (.sl ou fu m cu)) (c := false) (by decide) (by simp only [eg_es, Nat.reduceLT, Nat.reduceEqDiff, if_true, if_false, reduceIte]) rfl (fun κ => by simp only [oLd1, xT_eq, xC, eg_es, Nat.reduceLT, Nat.reduceEqDiff, if_true, if_false, reduceIte, h0, h1, h5, asK_i, asN_i, asB_b, asBL_b, ltV_ii, geV_ii, eqV_ii, ldV_p, asP_p, asSl_sl, cmLt_nat, cmLe_nat, cmEq_nat, kB_eq, brT, brF, fnat_eq, hu, a1, a2, a3, c1, c2, c3, b4]) ?_
  refine .yes (v := (.i 3 (.ofNat pl))) (c := false) (by decide) (by simp only [eg_es, Nat.reduceLT, Nat.reduceEqDiff, if_true, if_false, reduceIte]) rfl (fun κ => by simp only [oMv, xT_eq, xC, eg_es, Nat.reduceLT, Nat.reduceEqDiff, if_true, if_false, reduceIte, h0, h1, h5, asK_i, asN_i, asB_b, asBL_b, ltV_ii, geV_ii, eqV_ii, ldV_p, asP_p, asSl_sl, cmLt_nat, cmLe_nat, cmEq_nat, kB_eq, brT, brF, fnat_eq, hu, a1, a2, a3, c1, c2, c3, b4]) ?_
  refine .yes (v := (.i 3 (.ofNat n))) (c := false) (by decide) (by simp only [eg_es, Nat.reduceLT, Nat.reduceEqDiff, if_true, if_false, reduceIte]) rfl (fun κ => by simp only [oMv, xT_eq, xC, eg_es, Nat.reduceLT, Nat.reduceEqDiff, if_true, if_false, reduceIte, h0, h1, h5, asK_i, asN_i, asB_b, asBL_b, ltV_ii, geV_ii, eqV_ii, ldV_p, asP_p, asSl_sl, cmLt_nat, cmLe_nat, cmEq_nat, kB_eq, brT, brF, fnat_eq, hu, a1, a2, a3, c1, c2, c3, b4]) ?_
  refine .yes (v := (.i 3 (.ofNat (pl + n)))) (c := false) (by decide) (by simp only [eg_es, Nat.reduceLT, Nat.reduceEqDiff, if_true, if_false, reduceIte]) rfl (fun κ => by simp only [oAd, adV_ii, arAdd_nat a0, xT_eq, xC, eg_es, Nat.reduceLT, Nat.reduceEqDiff, if_true, if_false, reduceIte, h0, h1, h5, asK_i, asN_i, asB_b, asBL_b, ltV_ii, geV_ii, eqV_ii, ldV_p, asP_p, asSl_sl, cmLt_nat, cmLe_nat, cmEq_nat, kB_eq, brT, brF, fnat_eq, hu, a1, a2, a3, c1, c2, c3, b4]) ?_
  refine .yes (v := (.p ou (fu.add ((pl + n).mul 1)))) (c := false) (by decide) (by simp only [eg_es, Nat.reduceLT, Nat.reduceEqDiff, if_true, if_false, reduceIte]) rfl (fun κ => by simp only [oIas, xT_eq, xC, eg_es, Nat.reduceLT, Nat.reduceEqDiff, if_true, if_false, reduceIte, h0, h1, h5, asK_i, asN_i, asB_b, asBL_b, ltV_ii, geV_ii, eqV_ii, ldV_p, asP_p, asSl_sl, cmLt_nat, cmLe_nat, cmEq_nat, kB_eq, brT, brF, fnat_eq, hu, a1, a2, a3, c1, c2, c3, b4]) ?_
  refine .yes (v := (.i 3 (.ofNat 0))) (c := false) (by decide) (by simp only [eg_es, Nat.reduceLT, Nat.reduceEqDiff, if_true, if_false, reduceIte]) rfl (fun κ => by simp only [oLd1, hr, xT_eq, xC, eg_es, Nat.reduceLT, Nat.reduceEqDiff, if_true, if_false, reduceIte, h0, h1, h5, asK_i, asN_i, asB_b, asBL_b, ltV_ii, geV_ii, eqV_ii, ldV_p, asP_p, asSl_sl, cmLt_nat, cmLe_nat, cmEq_nat, kB_eq, brT, brF, fnat_eq, hu, a1, a2, a3, c1, c2, c3, b4]) ?_
  refine .yes (v := (.b true)) (c := false) (by decide) (by simp only [eg_es, Nat.reduceLT, Nat.reduceEqDiff, if_true, if_false, reduceIte]) rfl (fun κ => by simp only [oEq, xT_eq, xC, eg_es, Nat.reduceLT, Nat.reduceEqDiff, if_true, if_false, reduceIte, h0, h1, h5, asK_i, asN_i, asB_b, asBL_b, ltV_ii, geV_ii, eqV_ii, ldV_p, asP_p, asSl_sl, cmLt_nat, cmLe_nat, cmEq_nat, kB_eq, brT, brF, fnat_eq, hu, a1, a2, a3, c1, c2, c3, b4]) ?_
  refine .yes (v := (.b true)) (c := true) (by decide) (by simp only [eg_es, Nat.reduceLT, Nat.reduceEqDiff, if_true, if_false, reduceIte]) rfl (fun κ => by simp only [oPick, xT_eq, xC, eg_es, Nat.reduceLT, Nat.reduceEqDiff, if_true, if_false, reduceIte, h0, h1, h5, asK_i, asN_i, asB_b, asBL_b, ltV_ii, geV_ii, eqV_ii, ldV_p, asP_p, asSl_sl, cmLt_nat, cmLe_nat, cmEq_nat, kB_eq, brT, brF, fnat_eq, hu, a1, a2, a3, c1, c2, c3, b4]) ?_
  refine .op (v := (.b true)) (by decide) (fun κ => by simp only [oPick, xT_eq, xC, eg_es, Nat.reduceLT, Nat.reduceEqDiff, if_true, if_false, reduceIte, h0, h1, h5, asK_i, asN_i, asB_b, asBL_b, ltV_ii, geV_ii, eqV_ii, ldV_p, asP_p, asSl_sl, cmLt_nat, cmLe_nat, cmEq_nat, kB_eq, brT, brF, fnat_eq, hu, a1, a2, a3, c1, c2, c3, b4]) ?_
  exact .nil
theorem f_endA {x : Nat} (hf : FIn en o off pl n) (hu : ∀ κ, rd1 o (off.add 8) h κ = κ (.sl ou fu m cu)) (hs : pl + n < 65536) (hge : Nat.ble m (pl + n) = false) (hc : objC h ou (fu + (pl + n) * 1) = some (.i 3 (.ofNat x))) (hx : Nat.beq x 0 = false) :
    SegTo h nx fS1 en (esL (fXa (.sl ou fu m cu) o off (off + 8) pl m ou n (pl + n) (fu + (pl + n) * 1) x) en) := by
  have h0 : eg 0 en = _ := hf.h0
  have h1 : eg 1 en = _ := hf.h1
  have h5 : eg 5 en = _ := hf.h5
  have a0 : Nat.blt (pl + n) 9223372036854775808 = true := by simp [Nat.blt_eq]; omega
  have a1 : True := trivial
  have a2 : True := trivial
  have a3 : Nat.blt (pl + n) 65536 = true := by simp [Nat.blt_eq]; omega
  have c1 : Nat.ble m (pl + n) = false := hge
  have c2 : Nat.blt (pl + n) m = true := by
    have : ¬ (m ≤ pl + n) := fun h => by rw [Nat.ble_eq_true_of_le h] at hge; cases hge
    simp [Nat.blt_eq]; omega
  have c3 : Nat.beq x 0 = false := hx
  have b4 : eqB false (not' false) = false := rfl
  have hr : ∀ κ, rd1 ou (fu.add ((pl + n).mul 1)) h κ = κ (.i 3 (.ofNat x)) := rd1_eq hc
  refine .op (v := (.i 3 (.ofNat pl))) (by decide) (fun κ => by simp only [oMv, xT_eq, xC, eg_es, Nat.reduceLT, Nat.reduceEqDiff, if_true, if_false, reduceIte, h0, h1, h5, asK_i, asN_i, asB_b, asBL_b, ltV_ii, geV_ii, eqV_ii, ldV_p, asP_p, asSl_sl, cmLt_nat, cmLe_nat, cmEq_nat, kB_eq, brT, brF, fnat_eq, hu, a1, a2, a3, c1, c2, c3, b4]) ?_
  refine .op (v := (.i 3 (.ofNat n))) (by decide) (fun κ => by simp only [oMv, xT_eq, xC, eg_es, Nat.reduceLT, Nat.reduceEqDiff, if_true, if_false, reduceIte, h0, h1, h5, asK_i, asN_i, asB_b, asBL_b, ltV_ii, geV_ii, eqV_ii, ldV_p, asP_p, asSl_sl, cmLt_nat, cmLe_nat, cmEq_nat, kB_eq, brT, brF, fnat_eq, hu, a1, a2, a3, c1, c2, c3, b4]) ?_
  refine .op (v := (.i 3 (.ofNat (pl + n)))) (by decide) (fun κ => by simp only [oAd, adV_ii, arAdd_nat a0, xT_eq, xC, eg_es, Nat.reduceLT, Nat.reduceEqDiff, if_true, if_false, reduceIte, h0, h1, h5, asK_i, asN_i, asB_b, asBL_b, ltV_ii, geV_ii, eqV_ii, ldV_p, asP_p, asSl_sl, cmLt_nat, cmLe_nat, cmEq_nat, kB_eq, brT, brF, fnat_eq, hu, a1, a2, a3, c1, c2, c3, b4]) ?_
  refine .op (v := (.b true)) (by decide) (fun κ => by simp only [oLt, xT_eq, xC, eg_es, Nat.reduceLT, Nat.reduceEqDiff, if_true, if_false, reduceIte, h0, h1, h5, asK_i, asN_i, asB_b, asBL_b, ltV_ii, geV_ii, eqV_ii, ldV_p, asP_p, asSl_sl, cmLt_nat, cmLe_nat, cmEq_nat, kB_eq, brT, brF, fnat_eq, hu, a1, a2, a3, c1, c2, c3, b4]) ?_
  refine .op (v := (.b true)) (by decide) (fun κ => by simp only [oMv, xT_eq, xC, eg_es, Nat.reduceLT, Nat.reduceEqDiff, if_true, if_false, reduceIte, h0, h1, h5, asK_i, asN_i, asB_b, asBL_b, ltV_ii, geV_ii, eqV_ii, ldV_p, asP_p, asSl_sl, cmLt_nat, cmLe_nat, cmEq_nat, kB_eq, brT, brF, fnat_eq, hu, a1, a2, a3, c1, c2, c3, b4]) ?_
  refine .yes (v := (.i 3 (.ofNat pl))) (c := true) (by decide) (by simp only [eg_es, Nat.reduceLT, Nat.reduceEqDiff, if_true, if_false, reduceIte]) rfl (fun κ => by simp only [oMv, xT_eq, xC, eg_es, Nat.reduceLT, Nat.reduceEqDiff, if_true, if_false, reduceIte, h0, h1, h5, asK_i, asN_i, asB_b, asBL_b, ltV_ii, geV_ii, eqV_ii, ldV_p, asP_p, asSl_sl, cmLt_nat, cmLe_nat, cmEq_nat, kB_eq, brT, brF, fnat_eq, hu, a1, a2, a3, c1, c2, c3, b4]) ?_
  refine .yes (v := (.i 3 (.ofNat n))) (c := true) (by decide) (by simp only [eg_es, Nat.reduceLT, Nat.reduceEqDiff, if_true, if_false, reduceIte]) rfl (fun κ => by simp only [oMv, xT_eq, xC, eg_es, Nat.reduceLT, Nat.reduceEqDiff, if_true, if_false, reduceIte, h0, h1, h5, asK_i, asN_i, asB_b, asBL_b, ltV_ii, geV_ii, eqV_ii, ldV_p, asP_p, asSl_sl, cmLt_nat, cmLe_nat, cmEq_nat, kB_eq, brT, brF, fnat_eq, hu, a1, a2, a3, c1, c2, c3, b4]) ?_
  refine .yes (v := (.i 3 (.ofNat (pl + n)))) (c := true) (by decide) (by simp only [eg_es, Nat.reduceLT, Nat.reduceEqDiff, if_true, if_false, reduceIte]) rfl (fun κ => by simp only [oAd, adV_ii, arAdd_nat a0, xT_eq, xC, eg_es, Nat.reduceLT, Nat.reduceEqDiff, if_true, if_false, reduceIte, h0, h1, h5, asK_i, asN_i, asB_b, asBL_b, ltV_ii, geV_ii, eqV_ii, ldV_p, asP_p, asSl_sl, cmLt_nat, cmLe_nat, cmEq_nat, kB_eq, brT, brF, fnat_eq, hu, a1, a2, a3, c1, c2, c3, b4]) ?_
  refine .yes (v := (.p o off)) (c := true) (by decide) (by simp only [eg_es, Nat.reduceLT, Nat.reduceEqDiff, if_true, if_false, reduceIte]) rfl (fun κ => by simp only [oMv, xT_eq, xC, eg_es, Nat.reduceLT, Nat.reduceEqDiff, if_true, if_false, reduceIte, h0, h1, h5, asK_i, asN_i, asB_b, asBL_b, ltV_ii, geV_ii, eqV_ii, ldV_p, asP_p, asSl_sl, cmLt_nat, cmLe_nat, cmEq_nat, kB_eq, brT, brF, fnat_eq, hu, a1, a2, a3, c1, c2, c3, b4]) ?_
  refine .yes (v := (.p o off)) (c := true) (by decide) (by simp only [eg_es, Nat.reduceLT, Nat.reduceEqDiff, if_true, if_false, reduceIte]) rfl (fun κ => by simp only [oNc, xT_eq, xC, eg_es, Nat.reduceLT, Nat.reduceEqDiff, if_true, if_false, reduceIte, h0, h1, h5, asK_i, asN_i, asB_b, asBL_b, ltV_ii, geV_ii, eqV_ii, ldV_p, asP_p, asSl_sl, cmLt_nat, cmLe_nat, cmEq_nat, kB_eq, brT, brF, fnat_eq, hu, a1, a2, a3, c1, c2, c3, b4]) ?_
  refine .yes (v := (.p o (off + 8))) (c := true) (by decide) (by simp only [eg_es, Nat.reduceLT, Nat.reduceEqDiff, if_true, if_false, reduceIte]) rfl (fun κ => by simp only [oFa, xT_eq, xC, eg_es, Nat.reduceLT, Nat.reduceEqDiff, if_true, if_false, reduceIte, h0, h1, h5, asK_i, asN_i, asB_b, asBL_b, ltV_ii, geV_ii, eqV_ii, ldV_p, asP_p, asSl_sl, cmLt_nat, cmLe_nat, cmEq_nat, kB_eq, brT, brF, fnat_eq, hu, a1, a2, a3, c1, c2, c3, b4]) ?_
  refine .yes (v := (.sl ou fu m cu)) (c := true) (by decide) (by simp only [eg_es, Nat.reduceLT, Nat.reduceEqDiff, if_true, if_false, reduceIte]) rfl (fun κ => by simp only [oLd1, xT_eq, xC, eg_es, Nat.reduceLT, Nat.reduceEqDiff, if_true, if_false, reduceIte, h0, h1, h5, asK_i, asN_i, asB_b, asBL_b, ltV_ii, geV_ii, eqV_ii, ldV_p, asP_p, asSl_sl, cmLt_nat, cmLe_nat, cmEq_nat, kB_eq, brT, brF, fnat_eq, hu, a1, a2, a3, c1, c2, c3, b4]) ?_
  refine .yes (v := (.i 3 (.ofNat m))) (c := true) (by decide) (by simp only [eg_es, Nat.reduceLT, Nat.reduceEqDiff, if_true, if_false, reduceIte]) rfl (fun κ => by simp only [oLenl, xT_eq, xC, eg_es, Nat.reduceLT, Nat.reduceEqDiff, if_true, if_false, reduceIte, h0, h1, h5, asK_i, asN_i, asB_b, asBL_b, ltV_ii, geV_ii, eqV_ii, ldV_p, asP_p, asSl_sl, cmLt_nat, cmLe_nat, cmEq_nat, kB_eq, brT, brF, fnat_eq, hu, a1, a2, a3, c1, c2, c3, b4]) ?_
  refine .yes (v := (.b false)) (c := true) (by decide) (by simp only [eg_es, Nat.reduceLT, Nat.reduceEqDiff, if_true, if_false, reduceIte]) rfl (fun κ => by simp only [oGe, xT_eq, xC, eg_es, Nat.reduceLT, Nat.reduceEqDiff, if_true, if_false, reduceIte, h0, h1, h5, asK_i, asN_i, asB_b, asBL_b, ltV_ii, geV_ii, eqV_ii, ldV_p, asP_p, asSl_sl, cmLt_nat, cmLe_nat, cmEq_nat, kB_eq, brT, brF, fnat_eq, hu, a1, a2, a3, c1, c2, c3, b4]) ?_
  refine .yes (v := (.b false)) (c := true) (by decide) (by simp only [eg_es, Nat.reduceLT, Nat.reduceEqDiff, if_true, if_false, reduceIte]) rfl (fun κ => by simp only [oMv, xT_eq, xC, eg_es, Nat.reduceLT, Nat.reduceEqDiff, if_true, if_false, reduceIte, h0, h1, h5, asK_i, asN_i, asB_b, asBL_b, ltV_ii, geV_ii, eqV_ii, ldV_p, asP_p, asSl_sl, cmLt_nat, cmLe_nat, cmEq_nat, kB_eq, brT, brF, fnat_eq, hu, a1, a2, a3, c1, c2, c3, b4]) ?_
  refine .yes (v := (.p o off)) (c := false) (by decide) (by simp only [eg_es, Nat.reduceLT, Nat.reduceEqDiff, if_true, if_false, reduceIte]) rfl (fun κ => by simp only [oMv, xT_eq, xC, eg_es, Nat.reduceLT, Nat.reduceEqDiff, if_true, if_false, reduceIte, h0, h1, h5, asK_i, asN_i, asB_b, asBL_b, ltV_ii, geV_ii, eqV_ii, ldV_p, asP_p, asSl_sl, cmLt_nat, cmLe_nat, cmEq_nat, kB_eq, brT, brF, fnat_eq, hu, a1, a2, a3, c1, c2, c3, b4]) ?_
  refine .yes (v := (.p o off)) (c := false) (by decide) (by simp only [eg_es, Nat.reduceLT, Nat.reduceEqDiff, if_true, if_false, reduceIte]) rfl (fun κ => by simp only [oNc, xT_eq, xC, eg_es, Nat.reduceLT, Nat.reduceEqDiff, if_true, if_false, reduceIte, h0, h1, h5, asK_i, asN_i, asB_b, asBL_b, ltV_ii, geV_ii, eqV_ii, ldV_p, asP_p, asSl_sl, cmLt_nat, cmLe_nat, cmEq_nat, kB_eq, brT, brF, fnat_eq, hu, a1, a2, a3, c1, c2, c3, b4]) ?_
  refine .yes (v := (.p o (off + 8))) (c := false) (by decide) (by simp only [eg_es, Nat.reduceLT, Nat.reduceEqDiff, if_true, if_false, reduceIte]) rfl (fun κ => by simp only [oFa, xT_eq, xC, eg_es, Nat.reduceLT, Nat.reduceEqDiff, if_true, if_false, reduceIte, h0, h1, h5, asK_i, asN_i, asB_b, asBL_b, ltV_ii, geV_ii, eqV_ii, ldV_p, asP_p, asSl_sl, cmLt_nat, cmLe_nat, cmEq_nat, kB_eq, brT, brF, fnat_eq, hu, a1, a2, a3, c1, c2, c3, b4]) ?_
  refine .yes (v := (.sl ou fu m cu)) (c := false) (by decide) (by simp only [eg_es, Nat.reduceLT, Nat.reduceEqDiff, if_true, if_false, reduceIte]) rfl (fun κ => by simp only [oLd1, xT_eq, xC, eg_es, Nat.reduceLT, Nat.reduceEqDiff, if_true, if_false, reduceIte, h0, h1, h5, asK_i, asN_i, asB_b, asBL_b, ltV_ii, geV_ii, eqV_ii, ldV_p, asP_p, asSl_sl, cmLt_nat, cmLe_nat, cmEq_nat, kB_eq, brT, brF, fnat_eq, hu, a1, a2, a3, c1, c2, c3, b4]) ?_
  refine .yes (v := (.i 3 (.ofNat pl))) (c := false) (by decide) (by simp only [eg_es, Nat.reduceLT, Nat.reduceEqDiff, if_true, if_false, reduceIte]) rfl (fun κ => by simp only [oMv, xT_eq, xC, eg_es, Nat.reduceLT, Nat.reduceEqDiff, if_true, if_false, reduceIte, h0, h1, h5, asK_i, asN_i, asB_b, asBL_b, ltV_ii, geV_ii, eqV_ii, ldV_p, asP_p, asSl_sl, cmLt_nat, cmLe_nat, cmEq_nat, kB_eq, brT, brF, fnat_eq, hu, a1, a2, a3, c1, c2, c3, b4]) ?_
  refine .yes (v := (.i 3 (.ofNat n))) (c := false) (by decide) (by simp only [eg_es, Nat.reduceLT, Nat.reduceEqDiff, if_true, if_false, reduceIte]) rfl (fun κ => by simp only [oMv, xT_eq, xC, eg_es, Nat.reduceLT, Nat.reduceEqDiff, if_true, if_false, reduceIte, h0, h1, h5, asK_i, asN_i, asB_b, asBL_b, ltV_ii, geV_ii, eqV_ii, ldV_p, asP_p, asSl_sl, cmLt_nat, cmLe_nat, cmEq_nat, kB_eq, brT, brF, fnat_eq, hu, a1, a2, a3, c1, c2, c3, b4]) ?_
  refine .yes (v := (.i 3 (.ofNat (pl + n)))) (c := false) (by decide) (by simp only [eg_es, Nat.reduceLT, Nat.reduceEqDiff, if_true, if_false, reduceIte]) rfl (fun κ => by simp only [oAd, adV_ii, arAdd_nat a0, xT_eq, xC, eg_es, Nat.reduceLT, Nat.reduceEqDiff, if_true, if_false, reduceIte, h0, h1, h5, asK_i, asN_i, asB_b, asBL_b, ltV_ii, geV_ii, eqV_ii, ldV_p, asP_p, asSl_sl, cmLt_nat, cmLe_nat, cmEq_nat, kB_eq, brT, brF, fnat_eq, hu, a1, a2, a3, c1, c2, c3, b4]) ?_
  refine .yes (v := (.p ou (fu.add ((pl + n).mul 1)))) (c := false) (by decide) (by simp only [eg_es, Nat.reduceLT, Nat.reduceEqDiff, if_true, if_false, reduceIte]) rfl (fun κ => by simp only [oIas, xT_eq, xC, eg_es, Nat.reduceLT, Nat.reduceEqDiff, if_true, if_false, reduceIte, h0, h1, h5, asK_i, asN_i, asB_b, asBL_b, ltV_ii, geV_ii, eqV_ii, ldV_p, asP_p, asSl_sl, cmLt_nat, cmLe_nat, cmEq_nat, kB_eq, brT, brF, fnat_eq, hu, a1, a2, a3, c1, c2, c3, b4]) ?_
  refine .yes (v := (.i 3 (.ofNat x))) (c := false) (by decide) (by simp only [eg_es, Nat.reduceLT, Nat.reduceEqDiff, if_true, if_false, reduceIte]) rfl (fun κ => by simp only [oLd1, hr, xT_eq, xC, eg_es, Nat.reduceLT, Nat.reduceEqDiff, if_true, if_false, reduceIte, h0, h1, h5, asK_i, asN_i, asB_b, asBL_b, ltV_ii, geV_ii, eqV_ii, ldV_p, asP_p, asSl_sl, cmLt_nat, cmLe_nat, cmEq_nat, kB_eq, brT, brF, fnat_eq, hu, a1, a2, a3, c1, c2, c3, b4]) ?_
  refine .yes (v := (.b false)) (c := false) (by decide) (by simp only [eg_es, Nat.reduceLT, Nat.reduceEqDiff, if_true, if_false, reduceIte]) rfl (fun κ => by simp only [oEq, xT_eq, xC, eg_es, Nat.reduceLT, Nat.reduceEqDiff, if_true, if_false, reduceIte, h0, h1, h5, asK_i, asN_i, asB_b, asBL_b, ltV_ii, geV_ii, eqV_ii, ldV_p, asP_p, asSl_sl, cmLt_nat, cmLe_nat, cmEq_nat, kB_eq, brT, brF, fnat_eq, hu, a1, a2, a3, c1, c2, c3, b4]) ?_
  refine .yes (v := (.b false)) (c := true) (by decide) (by simp only [eg_es, Nat.reduceLT, Nat.reduceEqDiff, if_true, if_false, reduceIte]) rfl (fun κ => by simp only [oPick, xT_eq, xC, eg_es, Nat.reduceLT, Nat.reduceEqDiff, if_true, if_false, reduceIte, h0, h1, h5, asK_i, asN_i, asB_b, asBL_b, ltV_ii, geV_ii, eqV_ii, ldV_p, asP_p, asSl_sl, cmLt_nat, cmLe_nat, cmEq_nat, kB_eq, brT, brF, fnat_eq, hu, a1, a2, a3, c1, c2, c3, b4]) ?_
  refine .op (v := (.b false)) (by decide) (fun κ => by simp only [oPick, xT_eq, xC, eg_es, Nat.reduceLT, Nat.reduceEqDiff, if_true, if_false, reduceIte, h0, h1, h5, asK_i, asN_i, asB_b, asBL_b, ltV_ii, geV_ii, eqV_ii, ldV_p, asP_p, asSl_sl, cmLt_nat, cmLe_nat, cmEq_nat, kB_eq, brT, brF, fnat_eq, hu, a1, a2, a3, c1, c2, c3, b4]) ?_
  exact .nil
theorem f_endB (hf : FIn en o off pl n) (hs : pl + n = 65536) :
    SegTo h nx fS1 en (esL (fXb pl n (pl + n)) en) := by
  have h0 : eg 0 en = _ := hf.h0
  have h1 : eg 1 en = _ := hf.h1
  have h5 : eg 5 en = _ := hf.h5
  have a0 : Nat.blt (pl + n) 9223372036854775808 = true := by simp [Nat.blt_eq]; omega
  have a1 : True := trivial
  have a2 : True := trivial
  have a3 : Nat.blt (pl + n) 65536 = false := by rw [hs]; rfl
  have c1 : True := trivial
  have c2 : True := trivial
  have c3 : True := trivial
  have b4 : True := trivial
  have hu : True := trivial
  refine .op (v := (.i 3 (.ofNat pl))) (by decide) (fun κ => by simp only [oMv, xT_eq, xC, eg_es, Nat.reduceLT, Nat.reduceEqDiff, if_true, if_false, reduceIte, h0, h1, h5, asK_i, asN_i, asB_b, asBL_b, ltV_ii, geV_ii, eqV_ii, ldV_p, asP_p, asSl_sl, cmLt_nat, cmLe_nat, cmEq_nat, kB_eq, brT, brF, fnat_eq, hu, a1, a2, a3, c1, c2, c3, b4]) ?_
  refine .op (v := (.i 3 (.ofNat n))) (by decide) (fun κ => by simp only [oMv, xT_eq, xC, eg_es, Nat.reduceLT, Nat.reduceEqDiff, if_true, if_false, reduceIte, h0, h1, h5, asK_i, asN_i, asB_b, asBL_b, ltV_ii, geV_ii, eqV_ii, ldV_p, asP_p, asSl_sl, cmLt_nat, cmLe_nat, cmEq_nat, kB_eq, brT, brF, fnat_eq, hu, a1, a2, a3, c1, c2, c3, b4]) ?_
  refine .op (v := (.i 3 (.ofNat (pl + n)))) (by decide) (fun κ => by simp only [oAd, adV_ii, arAdd_nat a0, xT_eq, xC, eg_es, Nat.reduceLT, Nat.reduceEqDiff, if_true, if_false, reduceIte, h0, h1, h5, asK_i, asN_i, asB_b, asBL_b, ltV_ii, geV_ii, eqV_ii, ldV_p, asP_p, asSl_sl, cmLt_nat, cmLe_nat, cmEq_nat, kB_eq, brT, brF, fnat_eq, hu, a1, a2, a3, c1, c2, c3, b4]) ?_
  refine .op (v := (.b false)) (by decide) (fun κ => by simp only [oLt, xT_eq, xC, eg_es, Nat.reduceLT, Nat.reduceEqDiff, if_true, if_false, reduceIte, h0, h1, h5, asK_i, asN_i, asB_b, asBL_b, ltV_ii, geV_ii, eqV_ii, ldV_p, asP_p, asSl_sl, cmLt_nat, cmLe_nat, cmEq_nat, kB_eq, brT, brF, fnat_eq, hu, a1, a2, a3, c1, c2, c3, b4]) ?_
  refine .op (v := (.b false)) (by decide) (fun κ => by simp only [oMv, xT_eq, xC, eg_es, Nat.reduceLT, Nat.reduceEqDiff, if_true, if_false, reduceIte, h0, h1, h5, asK_i, asN_i, asB_b, asBL_b, ltV_ii, geV_ii, eqV_ii, ldV_p, asP_p, asSl_sl, cmLt_nat, cmLe_nat, cmEq_nat, kB_eq, brT, brF, fnat_eq, hu, a1, a2, a3, c1, c2, c3, b4]) ?_
  refine .no (c := false) (by decide) (by simp only [eg_es, Nat.reduceLT, Nat.reduceEqDiff, if_true, if_false, reduceIte]) rfl ?_
  refine .no (c := false) (by decide) (by simp only [eg_es, Nat.reduceLT, Nat.reduceEqDiff, if_true, if_false, reduceIte]) rfl ?_
  refine .no (c := false) (by decide) (by simp only [eg_es, Nat.reduceLT, Nat.reduceEqDiff, if_true, if_false, reduceIte]) rfl ?_
  refine .no (c := false) (by decide) (by simp only [eg_es, Nat.reduceLT, Nat.reduceEqDiff, if_true, if_false, reduceIte]) rfl ?_
  refine .no (c := false) (by decide) (by simp only [eg_es, Nat.reduceLT, Nat.reduceEqDiff, if_true, if_false, reduceIte]) rfl ?_
  refine .no (c := false) (by decide) (by simp only [eg_es, Nat.reduceLT, Nat.reduceEqDiff, if_true, if_false, reduceIte]) rfl ?_
  refine .no (c := false) (by decide) (by simp only [eg_es, Nat.reduceLT, Nat.reduceEqDiff, if_true, if_false, reduceIte]) rfl ?_
  refine .no (c := false) (by decide) (by simp only [eg_es, Nat.reduceLT, Nat.reduceEqDiff, if_true, if_false, reduceIte]) rfl ?_
  refine .no (c := false) (by decide) (by simp only [eg_es, Nat.reduceLT, Nat.reduceEqDiff, if_true, if_false, reduceIte]) rfl ?_
  refine .no (c := false) (by decide) (by simp only [eg_es, Nat.reduceLT, Nat.reduceEqDiff, if_true, if_false, reduceIte]) rfl ?_
  refine .un (by decide) (by simp only [eg_es, Nat.reduceLT, Nat.reduceEqDiff, if_true, if_false, reduceIte]) ?_
  refine .un (by decide) (by simp only [eg_es, Nat.reduceLT, Nat.reduceEqDiff, if_true, if_false, reduceIte]) ?_
  refine .un (by decide) (by simp only [eg_es, Nat.reduceLT, Nat.reduceEqDiff, if_true, if_false, reduceIte]) ?_
  refine .un (by decide) (by simp only [eg_es, Nat.reduceLT, Nat.reduceEqDiff, if_true, if_false, reduceIte]) ?_
  refine .un (by decide) (by simp only [eg_es, Nat.reduceLT, Nat.reduceEqDiff, if_true, if_false, reduceIte]) ?_
  refine .un (by decide) (by simp only [eg_es, Nat.reduceLT, Nat.reduceEqDiff, if_true, if_false, reduceIte]) ?_
  refine .un (by decide) (by simp only [eg_es, Nat.reduceLT, Nat.reduceEqDiff, if_true, if_false, reduceIte]) ?_
  refine .un (by decide) (by simp only [eg_es, Nat.reduceLT, Nat.reduceEqDiff, if_true, if_false, reduceIte]) ?_
  refine .un (by decide) (by simp only [eg_es, Nat.reduceLT, Nat.reduceEqDiff, if_true, if_false, reduceIte]) ?_
  refine .un (by decide) (by simp only [eg_es, Nat.reduceLT, Nat.reduceEqDiff, if_true, if_false, reduceIte]) ?_
  refine .no (c := false) (by decide) (by simp only [eg_es, Nat.reduceLT, Nat.reduceEqDiff, if_true, if_false, reduceIte]) rfl ?_
  refine .op (v := (.b false)) (by decide) (fun κ => by simp only [oPick, xT_eq, xC, eg_es, Nat.reduceLT, Nat.reduceEqDiff, if_true, if_false, reduceIte, h0, h1, h5, asK_i, asN_i, asB_b, asBL_b, ltV_ii, geV_ii, eqV_ii, ldV_p, asP_p, asSl_sl, cmLt_nat, cmLe_nat, cmEq_nat, kB_eq, brT, brF, fnat_eq, hu, a1, a2, a3, c1, c2, c3, b4]) ?_
  exact .nil
theorem fS2_to (hf : eg 5 en = .i 3 (.ofNat n)) (hn : n < 65536) : SegTo h nx fS2 en (esL [(33, .i 3 (.ofNat n)), (34, .i 3 (.ofNat (n + 1))), (5, .i 3 (.ofNat (n + 1)))] en) := by
  have a0 : Nat.blt (n + 1) 9223372036854775808 = true := by simp [Nat.blt_eq]; omega
  refine .op (v := .i 3 (.ofNat n)) (by decide) (fun κ => by simp only [oMv, xT_eq, hf]) ?_
  refine .op (v := .i 3 (.ofNat (n + 1))) (by decide) (fun κ => by simp only [oAd, adV_ii, xT_eq, xC, eg_es, Nat.reduceLT, Nat.reduceEqDiff, if_true, if_false, reduceIte, asK_i, arAdd_nat a0]) ?_
  refine .op (v := .i 3 (.ofNat (n + 1))) (by decide) (fun κ => by simp only [oMv, xT_eq, eg_es, Nat.reduceLT, Nat.reduceEqDiff, if_true, if_false, reduceIte]) ?_
  exact .nil
theorem esL_app : ∀ (l l' : List (Nat × AV)) (en : Env), esL (l ++ l') en = esL l' (esL l en)
  | [], _, _ => rfl
  | (t, v) :: l, l', en => esL_app l l' (es t v en)
/-- may the count go on at n -/
def FOn (h : H) (ou fu m pl n : Nat) : Prop := pl + n < 65536 ∧ (Nat.ble m (pl + n) = true ∨ (Nat.ble m (pl + n) = false ∧ objC h ou (fu + (pl + n) * 1) = some (.i 3 (.ofNat 0))))
theorem fQ27_app {U : AV} {off8 s q j : Nat} {ge : Bool} : fQ27 U o off off8 pl m ou n s q ge ++ [(33, .i 3 (.ofNat n)), (34, .i 3 (.ofNat j)), (5, .i 3 (.ofNat j))] = fQ U o off off8 pl m ou n s q j ge := rfl
theorem fQ27_lt {U : AV} {off8 s q : Nat} {ge : Bool} : ∀ r ∈ fQ27 U o off off8 pl m ou n s q ge, r.1 < 512 := by
  intro r hr
  simp only [fQ27, List.mem_cons, List.not_mem_nil, or_false] at hr
  rcases hr with rfl | rfl | rfl | rfl | rfl | rfl | rfl | rfl | rfl | rfl | rfl | rfl | rfl | rfl | rfl | rfl | rfl | rfl | rfl | rfl | rfl | rfl | rfl | rfl | rfl | rfl | rfl <;> simp
theorem fQ27_32 {U : AV} {off8 s q : Nat} {ge : Bool} : eg 32 (esL (fQ27 U o off off8 pl m ou n s q ge) en) = .b true := by
  rw [eg_esL (by decide) _ _ fQ27_lt]
  simp only [fQ27, lk, Nat.reduceEqDiff, if_true, if_false, reduceIte]
theorem fQ27_5 {U : AV} {off8 s q : Nat} {ge : Bool} : eg 5 (esL (fQ27 U o off off8 pl m ou n s q ge) en) = eg 5 en := by
  rw [eg_esL (by decide) _ _ fQ27_lt]
  simp only [fQ27, lk, Nat.reduceEqDiff, if_true, if_false, reduceIte]
theorem f_q27 (hf : FIn en o off pl n) (hu : ∀ κ, rd1 o (off.add 8) h κ = κ (.sl ou fu m cu)) (hon : FOn h ou fu m pl n) :
    SegTo h nx fS1 en (esL (fQ27 (.sl ou fu m cu) o off (off + 8) pl m ou n (pl + n) (fu + (pl + n) * 1) (Nat.ble m (pl + n))) en) := by
  rcases hon.2 with h1 | ⟨h1, h2⟩
  · rw [h1]; exact f_q1 hf hu hon.1 h1
  · rw [h1]; exact f_q2 hf hu hon.1 h1 h2
theorem f_quiet (hf : FIn en o off pl n) (hu : ∀ κ, rd1 o (off.add 8) h κ = κ (.sl ou fu m cu)) (hon : FOn h ou fu m pl n) :
    fRound en h nx κ κx = κ (esL (fQ (.sl ou fu m cu) o off (off + 8) pl m ou n (pl + n) (fu + (pl + n) * 1) (n + 1) (Nat.ble m (pl + n))) en) h nx := by
  have h1 := f_q27 (nx := nx) hf hu hon
  have h2 := @fQ27_32 en o off pl ou m n (.sl ou fu m cu) (off + 8) (pl + n) (fu + (pl + n) * 1) (Nat.ble m (pl + n))
  have h3 := @fQ27_5 en o off pl ou m n (.sl ou fu m cu) (off + 8) (pl + n) (fu + (pl + n) * 1) (Nat.ble m (pl + n))
  rw [hf.h5] at h3
  have h4 := fS2_to (h := h) (nx := nx) h3 (by have := hon.1; omega) κ
  rw [← esL_app, fQ27_app] at h4
  rw [← h4]
  refine (h1 _).trans ?_
  rw [xT_eq, h2]
  rfl
theorem fQ_lt {U : AV} {off8 s q j : Nat} {ge : Bool} : ∀ r ∈ fQ U o off off8 pl m ou n s q j ge, r.1 < 512 := by
  intro r hr
  simp only [fQ, List.mem_cons, List.not_mem_nil, or_false] at hr
  rcases hr with rfl | rfl | rfl | rfl | rfl | rfl | rfl | rfl | rfl | rfl | rfl | rfl | rfl | rfl | rfl | rfl | rfl | rfl | rfl | rfl | rfl | rfl | rfl | rfl | rfl | rfl | rfl | rfl | rfl | rfl <;> simp
theorem fQ_over {U : AV} {off8 s q j n' s' q' j' : Nat} {ge ge' : Bool} : esL (fQ U o off off8 pl m ou n' s' q' j' ge') (esL (fQ U o off off8 pl m ou n s q j ge) en) = esL (fQ U o off off8 pl m ou n' s' q' j' ge') en := by
  refine esL_over fQ_lt fQ_lt (fun r hr => ?_) en
  simp only [fQ, List.mem_cons, List.not_mem_nil, or_false] at hr
  rcases hr with rfl | rfl | rfl | rfl | rfl | rfl | rfl | rfl | rfl | rfl | rfl | rfl | rfl | rfl | rfl | rfl | rfl | rfl | rfl | rfl | rfl | rfl | rfl | rfl | rfl | rfl | rfl | rfl | rfl | rfl <;> simp [fQ]
theorem FIn.quiet {U : AV} {off8 s q j : Nat} {ge : Bool} (hf : FIn en o off pl n) : FIn (esL (fQ U o off off8 pl m ou n s q j ge) en) o off pl j := by
  have h0 : eg 0 en = _ := hf.h0
  have h1 : eg 1 en = _ := hf.h1
  constructor <;> (show eg _ _ = _; rw [eg_esL (by decide) _ _ fQ_lt]) <;> simp [fQ, lk, h0, h1]
/-- as the machine has it where n were counted -/
noncomputable def fEn (U : AV) (o off fu pl m ou : Nat) (n : Nat) (en : Env) : Env := match n with
  | 0 => en
  | k + 1 => esL (fQ U o off (off + 8) pl m ou k (pl + k) (fu + (pl + k) * 1) (k + 1) (Nat.ble m (pl + k))) en
theorem f_many (F : L (Option AFn) 4) (Lp : L (Option ALp) 5) (k : List T) (fr : Fr) (cs : List AFr) (hu : ∀ κ, rd1 o (off.add 8) h κ = κ (.sl ou fu m cu)) (hf : FIn en o off pl 0) : ∀ n, (∀ j, j < n → FOn h ou fu m pl j) →
    FIn (fEn (.sl ou fu m cu) o off fu pl m ou n en) o off pl n ∧ ∀ κ : ASt → R, run (.mk F Lp false) (4 * n) (.mk en (.lp fpB :: .blk 0 :: k) fr cs h nx) κ = κ (.mk (fEn (.sl ou fu m cu) o off fu pl m ou n en) (.lp fpB :: .blk 0 :: k) fr cs h nx)
  | 0, _ => ⟨hf, fun κ => rfl⟩
  | n + 1, hon => by
    obtain ⟨h1, h2⟩ := f_many F Lp k fr cs hu hf n fun j hj => hon j (by omega)
    have henv : esL (fQ (.sl ou fu m cu) o off (off + 8) pl m ou n (pl + n) (fu + (pl + n) * 1) (n + 1) (Nat.ble m (pl + n))) (fEn (.sl ou fu m cu) o off fu pl m ou n en) = fEn (.sl ou fu m cu) o off fu pl m ou (n + 1) en := by
      cases n with
      | zero => rfl
      | succ n => exact fQ_over
    refine ⟨by rw [← henv]; exact h1.quiet, fun κ => ?_⟩
    rw [show 4 * (n + 1) = 4 * n + 4 by omega, run_add, h2, free_run, f_quiet h1 hu (hon n (by omega)), henv]
/-- noughts ahead: where they end, or that they do not -/
noncomputable def fCnt (l : List AV) : Nat → (Nat → Nat → R) → R → R := @List.rec AV (fun _ => Nat → (Nat → Nat → R) → R → R) (fun _ _ κe => κe)
  (fun v _ ih n κs κe => asU (fun x => @Nat.rec (fun _ => R) (fnat (Nat.succ n) fun n => ih n κs κe) (fun y _ => κs n (Nat.succ y)) x) v) l
theorem fCnt_true {κs : Nat → Nat → R} {κe : R} : ∀ {l : List AV} {n : Nat}, fCnt l n κs κe = true → ∃ c, c ≤ l.length ∧ (∀ j, j < c → l[j]? = some (.i 3 (.ofNat 0))) ∧ ((c = l.length ∧ κe = true) ∨ ∃ y, l[c]? = some (.i 3 (.ofNat (y + 1))) ∧ κs (n + c) (y + 1) = true)
  | [], n, e => ⟨0, Nat.le_refl _, fun j hj => by omega, .inl ⟨rfl, e⟩⟩
  | v :: l, n, e => by
    obtain ⟨x, rfl, e1⟩ := asU_true (show asU (fun x => @Nat.rec (fun _ => R) (fnat (Nat.succ n) fun n => fCnt l n κs κe) (fun y _ => κs n (Nat.succ y)) x) v = true from e)
    cases x with
    | zero =>
      have e1 : fnat (Nat.succ n) (fun n => fCnt l n κs κe) = true := e1
      rw [fnat_eq] at e1
      obtain ⟨c, h1, h2, h3⟩ := fCnt_true e1
      refine ⟨c + 1, by simp; omega, fun j hj => ?_, ?_⟩
      · cases j with
        | zero => rfl
        | succ j => exact h2 j (by omega)
      · rcases h3 with ⟨h3, h4⟩ | ⟨y, h3, h4⟩
        · exact .inl ⟨by simp [h3], h4⟩
        · exact .inr ⟨y, h3, by rw [show n + (c + 1) = Nat.succ n + c by omega]; exact h4⟩
    | succ y => exact ⟨0, by omega, fun j hj => by omega, .inr ⟨y, rfl, e1⟩⟩
theorem fCnt_noughts {κs : Nat → Nat → R} {κe : R} {l : List AV} : ∀ k n, fCnt (List.replicate k (.i 3 (.ofNat 0)) ++ l) n κs κe = fCnt l (n + k) κs κe
  | 0, n => rfl
  | k + 1, n => by
    have e : fCnt (List.replicate (k + 1) (.i 3 (.ofNat 0)) ++ l) n κs κe = fnat (Nat.succ n) fun n => fCnt (List.replicate k (.i 3 (.ofNat 0)) ++ l) n κs κe := rfl
    rw [e, fnat_eq, fCnt_noughts k, show n.succ + k = n + (k + 1) by omega]
/-- .. from place pl on, stretch by stretch -/
noncomputable def fCntC (l : List Ck) : Nat → Nat → (Nat → Nat → R) → R → R := @List.rec Ck (fun _ => Nat → Nat → (Nat → Nat → R) → R → R) (fun _ _ _ κe => κe)
  (fun c _ ih pl n κs κe => @Ck.rec (fun _ => R) (fun k => br (Nat.ble k pl) (fnat (Nat.sub pl k) fun pl => ih pl n κs κe) (fnat (Nat.add n (Nat.sub k pl)) fun n => ih 0 n κs κe))
    (fun v => @Nat.rec (fun _ => R) (asU (fun x => @Nat.rec (fun _ => R) (fnat (Nat.succ n) fun n => ih 0 n κs κe) (fun y _ => κs n (Nat.succ y)) x) v) (fun pl _ => ih pl n κs κe) pl) c) l
theorem fCntC_eq {κs : Nat → Nat → R} {κe : R} : ∀ (l : List Ck) (pl n : Nat), fCntC l pl n κs κe = fCnt (dropL AV pl (expand l)) n κs κe
  | [], pl, n => by rw [dropL_eq, expand, List.drop_nil]; rfl
  | .z k :: l, pl, n => by
    have e : fCntC (.z k :: l) pl n κs κe = br (Nat.ble k pl) (fnat (Nat.sub pl k) fun pl => fCntC l pl n κs κe) (fnat (Nat.add n (Nat.sub k pl)) fun n => fCntC l 0 n κs κe) := rfl
    rw [e, dropL_eq, expand, List.drop_append, List.drop_replicate, List.length_replicate]
    cases h : Nat.ble k pl with
    | true =>
      have h : k ≤ pl := Nat.le_of_ble_eq_true h
      rw [brT, fnat_eq, fCntC_eq l, dropL_eq, show k - pl = 0 by omega]
      rfl
    | false =>
      have h : pl < k := by
        rcases Nat.lt_or_ge pl k with h' | h'
        · exact h'
        · rw [Nat.ble_eq_true_of_le h'] at h; cases h
      rw [brF, fnat_eq, fCntC_eq l, dropL_eq, fCnt_noughts, show pl - k = 0 by omega]
      rfl
  | .v v :: l, 0, n => by
    have e : fCntC (.v v :: l) 0 n κs κe = asU (fun x => @Nat.rec (fun _ => R) (fnat (Nat.succ n) fun n => fCntC l 0 n κs κe) (fun y _ => κs n (Nat.succ y)) x) v := rfl
    rw [e, dropL_eq, expand, List.drop_zero]
    simp only [fCntC_eq l, dropL_eq, List.drop_zero]
    rfl
  | .v v :: l, pl + 1, n => by
    show fCntC l pl n κs κe = _
    rw [fCntC_eq l, dropL_eq, dropL_eq, expand, List.drop_succ_cons]
noncomputable def fUp (U : AV) (o off fu pl m ou n : Nat) (en : Env) (κ : Env → R) : R := @Nat.rec (fun _ => R) (κ en)
  (fun k _ => fnat (Nat.add off 8) fun off8 => fnat (Nat.add pl k) fun s => fnat (Nat.add fu (Nat.mul s 1)) fun q => fnat (Nat.succ k) fun j => fbool (Nat.ble m s) fun ge => setsK (fQ U o off off8 pl m ou k s q j ge) en κ) n
theorem fbool_eq' (c : Bool) (κ : Bool → R) : fbool c κ = κ c := by cases c <;> rfl
theorem fUp_eq {U : AV} {κ : Env → R} : fUp U o off fu pl m ou n en κ = κ (fEn U o off fu pl m ou n en) := by
  cases n with
  | zero => rfl
  | succ k =>
    show fnat (Nat.add off 8) (fun off8 => fnat (Nat.add pl k) fun s => fnat (Nat.add fu (Nat.mul s 1)) fun q => fnat (Nat.succ k) fun j => fbool (Nat.ble m s) fun ge => setsK (fQ U o off off8 pl m ou k s q j ge) en κ) = _
    rw [fnat_eq, fnat_eq, fnat_eq, fnat_eq, fbool_eq', setsK_eq]
    rfl
noncomputable def freeS : SegF := fun en h nx κ => xT 1 en (asU fun pl => xT 5 en (asU fun n0 => xT 0 en (asP fun o off => rd1 o (Nat.add off 8) h fun U => asSl (fun ou fu m _ =>
  br (Nat.beq n0 0) (br (Nat.ble m 65536) (br (Nat.ble pl m) (rdC ou fu m h fun l => fCntC l pl 0
    (fun n x => fUp U o off fu pl m ou n en fun en => fnat (Nat.add pl n) fun s => fnat (Nat.add fu (Nat.mul s 1)) fun q => fnat (Nat.add off 8) fun off8 => setsK (fXa U o off off8 pl m ou n s q x) en fun en => κ en h nx)
    (fnat (Nat.sub 65536 pl) fun n => fUp U o off fu pl m ou n en fun en => fnat (Nat.add pl n) fun s => setsK (fXb pl n s) en fun en => κ en h nx)) false) false) false) U)))
theorem free_ok : SplOk freeS freeC := by
  intro F Lp en k fr cs h nx κ e
  have e : xT 1 en (asU fun pl => xT 5 en (asU fun n0 => xT 0 en (asP fun o off => rd1 o (Nat.add off 8) h fun U => asSl (fun ou fu m _ =>
    br (Nat.beq n0 0) (br (Nat.ble m 65536) (br (Nat.ble pl m) (rdC ou fu m h fun l => fCntC l pl 0
    (fun n x => fUp U o off fu pl m ou n en fun en => fnat (Nat.add pl n) fun s => fnat (Nat.add fu (Nat.mul s 1)) fun q => fnat (Nat.add off 8) fun off8 => setsK (fXa U o off off8 pl m ou n s q x) en fun en => κ (.mk en k fr cs h nx))
    (fnat (Nat.sub 65536 pl) fun n => fUp U o off fu pl m ou n en fun en => fnat (Nat.add pl n) fun s => setsK (fXb pl n s) en fun en => κ (.mk en k fr cs h nx))) false) false) false) U))) = true := e
  rw [xT_eq] at e
  obtain ⟨pl, g1, e1⟩ := asU_true e
  rw [xT_eq] at e1
  obtain ⟨n0, g5, e2⟩ := asU_true e1
  rw [xT_eq] at e2
  obtain ⟨o, off, g0, e3⟩ := asP_true e2
  obtain ⟨U, hu, e4⟩ := rd1_true e3
  obtain ⟨ou, fu, m, cu, rfl, e5⟩ := asSl_true e4
  obtain ⟨b1, e6⟩ := br_t e5
  obtain ⟨b2, e7⟩ := br_t e6
  obtain ⟨b3, e8⟩ := br_t e7
  have b1 := Nat.eq_of_beq_eq_true b1
  subst b1
  have b2 : m ≤ 65536 := Nat.le_of_ble_eq_true b2
  have b3 : pl ≤ m := Nat.le_of_ble_eq_true b3
  obtain ⟨cl, k1, k2, k3⟩ := rdC_cells e8
  rw [fCntC_eq, dropL_eq] at k2
  obtain ⟨l0, hl00⟩ : ∃ l, l = expand cl := ⟨_, rfl⟩
  rw [← hl00] at k1 k2 k3
  obtain ⟨l, hl0⟩ : ∃ l, l = l0.drop pl := ⟨_, rfl⟩
  rw [← hl0] at k2
  have k1 : l.length = m - pl := by rw [hl0, List.length_drop, k1]
  have k3 : ∀ j v, l[j]? = some v → objC h ou (fu + pl + j) = some v := fun j v hj => by
    rw [hl0, List.getElem?_drop] at hj
    rw [Nat.add_assoc]; exact k3 _ v hj
  have hf : FIn en o off pl 0 := ⟨g0, g1, g5⟩
  obtain ⟨c, c1, c2, c3⟩ := fCnt_true k2
  have nge : ∀ j, pl + j < m → Nat.ble m (pl + j) = false := fun j hj => by
    cases hb : Nat.ble m (pl + j) with
    | false => rfl
    | true => have := Nat.le_of_ble_eq_true hb; omega
  have on0 : ∀ j, j < c → FOn h ou fu m pl j := fun j hj => ⟨by omega, .inr ⟨nge j (by omega), by rw [Nat.mul_one, ← Nat.add_assoc]; exact k3 j _ (c2 j hj)⟩⟩
  rcases c3 with ⟨c3, e9⟩ | ⟨y, c3, e9⟩
  · rw [fnat_eq] at e9
    have e9 : fUp (.sl ou fu m cu) o off fu pl m ou (65536 - pl) en (fun en => fnat (Nat.add pl (65536 - pl)) fun s => setsK (fXb pl (65536 - pl) s) en fun en => κ (.mk en k fr cs h nx)) = true := e9
    rw [fUp_eq, fnat_eq, setsK_eq] at e9
    have on : ∀ j, j < 65536 - pl → FOn h ou fu m pl j := fun j hj => by
      by_cases hj2 : j < c
      · exact on0 j hj2
      · exact ⟨by omega, .inl (Nat.ble_eq_true_of_le (by omega))⟩
    obtain ⟨hf', hr⟩ := f_many F Lp k fr cs (nx := nx) hu hf (65536 - pl) on
    refine ⟨4 * (65536 - pl) + 1 + 1, ?_⟩
    rw [free_run1, show 4 * (65536 - pl) + 1 + 1 = 4 * (65536 - pl) + 2 by omega, run_add, hr, free_run2, f_endB hf' (by omega)]
    rw [xT_eq, eg_esL (by decide) _ _ (by simp [fXb])]
    have : lk 32 (fXb pl (65536 - pl) (pl + (65536 - pl))) (eg 32 (fEn (.sl ou fu m cu) o off fu pl m ou (65536 - pl) en)) = .b false := by simp [fXb, lk]
    rw [this]
    exact e9
  · rw [Nat.zero_add] at e9
    have hcl : c < l.length := (List.getElem?_eq_some_iff.1 c3).1
    have e9 : fUp (.sl ou fu m cu) o off fu pl m ou c en (fun en => fnat (Nat.add pl c) fun s => fnat (Nat.add fu (Nat.mul s 1)) fun q => fnat (Nat.add off 8) fun off8 => setsK (fXa (.sl ou fu m cu) o off off8 pl m ou c s q (y + 1)) en fun en => κ (.mk en k fr cs h nx)) = true := e9
    rw [fUp_eq, fnat_eq, fnat_eq, fnat_eq, setsK_eq] at e9
    obtain ⟨hf', hr⟩ := f_many F Lp k fr cs (nx := nx) hu hf c on0
    refine ⟨4 * c + 1 + 1, ?_⟩
    rw [free_run1, show 4 * c + 1 + 1 = 4 * c + 2 by omega, run_add, hr, free_run2, f_endA (x := y + 1) hf' hu (by omega) (nge c (by omega)) (by rw [Nat.mul_one, ← Nat.add_assoc]; exact k3 c _ c3) rfl]
    rw [xT_eq, eg_esL (by decide) _ _ (by simp [fXa])]
    have : lk 32 (fXa (.sl ou fu m cu) o off (off + 8) pl m ou c (pl + c) (fu + (pl + c) * 1) (y + 1)) (eg 32 (fEn (.sl ou fu m cu) o off fu pl m ou c en)) = .b false := by simp [fXa, lk]
    rw [this]
    exact e9
end
end Go.AM
