/-
  AM, 17: values compared with nil, pointers compared; functions without a body. Conditions: none.
-/
import Derived.Test.YtmhhaimpignndaaGreatAmO
namespace Go.AM
open Go

section
variable {P : Program} {o : Oper} {x y z : XF} {X Y Z : Operand}
/-- what is read lies in a block of cells, and is not frozen -/
theorem rd1_blk {w0 w : World} {pd : List (Nat × AO)} {θ : Th} {h : H} {nx : Nat} (hR : HR P w0 pd θ h nx w) {ob off : Nat} {κ : AV → R} (hh : θ.has ob) (e : rd1 ob off h κ = true) :
    ∃ c ty fz, w.heap[θ.blk ob]? = some (.cells c ty fz) ∧ θ.bas ob + off < c.size ∧ w.frozen? ⟨θ.blk ob, θ.bas ob + off, none⟩ = false := by
  obtain ⟨v, _, _, _, _, hc⟩ := rd1_ok hR hh e
  obtain ⟨a, ha, e1⟩ := get_true e
  have hor := hR.obj_ hh ha
  cases a with
  | sm l =>
    obtain ⟨ty, h1, h2, h3, h4⟩ := hor
    refine ⟨_, _, _, h1, ?_, by simp [World.frozen?, h1]⟩
    rw [cell_of_row w _ _ _ _ _ h1] at hc
    exact (Array.getElem?_eq_some_iff.1 hc).1
  | ce N es zz zl d t top sh =>
    obtain ⟨c, ty, fz, h1, h2, h3, h4, h5, h6⟩ := hor
    rw [cell_of_row w _ _ _ _ _ h1] at hc
    have hlt := (Array.getElem?_eq_some_iff.1 hc).1
    exact ⟨_, _, _, h1, hlt, by simp only [World.frozen?, h1]; exact h4.free _ hlt⟩
  | mp es c => cases e1
  | it m s1 s2 s3 => cases e1
  | lp a1 b1 c1 d1 e1 f1 => cases e1
  | df b => cases e1
  | dead => cases e1
theorem a_uptr {s d el : TypeId} {n : Nat} (hx : XOk x X) (hs : P.underlying s = some (.pointer el)) (hd : P.underlying d = some .unsafePointer) (hsz : sizeT P el = some n) (hn : n ≠ 0) (ho : o.op = .convert s d X) : OpOk P o (oUptr x) := by
  intro en h nx κ w0 pd θ a w hE hR e
  obtain ⟨v, hv, hr⟩ := hx en
  simp only [oUptr, hv] at e
  have conv : ∀ u : Value, (∃ p, u = .pointer p) → (convert s d u).run P w = (Conv.unsafePointer s d u).run P w := by
    rintro u ⟨p, rfl⟩
    simp only [convert, Sem.run_bind, run_underlying hs, run_underlying hd, Result.andThen]
  cases v <;> first | (cases e; done) | skip
  · rename_i ob off
    obtain ⟨hX, hh⟩ := (hr θ a hE).p
    obtain ⟨c, ty, fz, b1, b2, _⟩ := rd1_blk hR hh e
    obtain ⟨_, _, k1, _⟩ := rd1_ok hR hh e
    refine ⟨.p ob off, .pointer (some ⟨θ.blk ob, θ.bas ob + off, none⟩), θ, h, nx, w, .value _, .refl θ, ⟨hh, rfl⟩, hR, k1, ?_, rfl⟩
    have hshape : w.shape? (θ.blk ob) = some (ty, c.size) := by simp [World.shape?, b1]
    have hnot : ¬ (c.size ≤ θ.bas ob + off) := by omega
    have hrun : (Conv.unsafePointer s d (.pointer (some ⟨θ.blk ob, θ.bas ob + off, none⟩))).run P w = .ok (.pointer (some ⟨θ.blk ob, θ.bas ob + off, none⟩)) w := by
      simp [Conv.unsafePointer, run_underlying hs, run_underlying hd, Conv.seenAt, viewAt, shape, Sem.run, hshape, cellsIn, run_size hsz, hn, hnot]
    simp [execOp, ho, hX, conv _ ⟨_, rfl⟩, hrun]
  · have hX : a.eval X = .pointer none := (hr θ a hE).2
    refine ⟨.np, .pointer none, θ, h, nx, w, .value _, .refl θ, ⟨trivial, rfl⟩, hR, e, ?_, rfl⟩
    simp [execOp, ho, hX, conv _ ⟨_, rfl⟩, Conv.unsafePointer, run_underlying hs, run_underlying hd]
/-- an object of its own -/
theorem sole_true {ob : Nat} {h : H} {κ : R} (e : sole ob h κ = true) : κ = true ∧ ∃ a, obj h ob = some a ∧ a.wr = true ∧ a.live = true ∧ a.sh = [] ∧ ∀ {w0 w : World} {θ : Th}, OR P θ w ob a → ∃ c ty, w.heap[θ.blk ob]? = some (.cells c ty (0, 0)) := by
  obtain ⟨a, ha, e1⟩ := get_true e
  cases a with
  | sm l =>
    cases l with
    | nil => cases e1
    | cons v l => exact ⟨e1, _, ha, rfl, rfl, rfl, fun {_ _ _} ⟨ty, h1, _⟩ => ⟨_, ty, h1⟩⟩
  | ce N es zz zl d t top sh =>
    obtain ⟨h1, e2⟩ := br_t e1
    obtain ⟨h2, e3⟩ := br_t e2
    obtain ⟨h3, e4⟩ := br_t e3
    cases sh with
    | cons x r => cases e4
    | nil =>
      have h1 := Nat.eq_of_beq_eq_true h1
      subst h1 h2
      have h3 : 0 < zl := by simpa [Nat.blt_eq] using h3
      exact ⟨e4, _, ha, rfl, rfl, rfl, fun {_ _ _} ⟨c, ty, fz, k1, _, _, _, k5, _⟩ => ⟨c, ty, by rw [(k5 rfl).2.2 (by omega)] at k1; exact k1⟩⟩
  | mp es c => cases e1
  | it m s1 s2 s3 => cases e1
  | lp a1 b1 c1 d1 e1 f1 => cases e1
  | df b => cases e1
  | dead => cases e1
/-- which kind of type -/
def tcOk (P : Program) (t : TypeId) (X Y : Operand) : Nat → Prop
  | 0 => ∃ e n, P.underlying t = some (.pointer e) ∧ sizeT P e = some n ∧ n ≠ 0
  | 1 => ∃ e, P.underlying t = some (.slice e)
  | 2 => ∃ k e, P.underlying t = some (.map k e)
  | 3 => ∃ a b c, P.underlying t = some (.func a b c)
  | 4 => (∃ ms, P.underlying t = some (.interface ms)) ∧ (isC X = true ∨ isC Y = true)
  | _ => False
theorem a_eqn {neg : Bool} {tc : Nat} {t t2 : TypeId} (hx : XOk x X) (hy : XOk y Y) (htc : tcOk P t X Y tc) (ho : o.op = .binOp (if neg then .neq else .eql) t X Y t2) : OpOk P o (oEqn neg tc x y) := by
  intro en h nx κ w0 pd θ a w hE hR e
  obtain ⟨v, hv, hr⟩ := hx en
  obtain ⟨v2, hv2, hr2⟩ := hy en
  simp only [oEqn, hv, hv2] at e
  have done : ∀ c : Bool, kB κ h nx (eqB neg (not' c)) = true → (eqGuard (if neg then .neq else .eql) t X Y (a.eval X) (a.eval Y)).run P w = .ok () w →
      (Op.equal t (a.eval X) (a.eval Y)).run P w = .ok c w → (∀ op, (op = .eql ∨ op = .neq) → binOp op t (a.eval X) (a.eval Y) = (match op with | .eql => (do pure (.bool (← Op.equal t (a.eval X) (a.eval Y))) : Sem Value) | _ => do pure (.bool (!(← Op.equal t (a.eval X) (a.eval Y)))))) →
      ∃ v u θ' h' nx' w' n, θ.le θ' ∧ VR θ' v u ∧ HR P w0 pd θ' h' nx' w' ∧ κ v h' nx' = true ∧ (execOp a.eval o).run P w = .ok n w' ∧ fin n = some u := by
    intro c hκ hg heq hop
    rw [kB_eq, negc_eq] at hκ
    refine ⟨.b (if neg then !c else c), .bool (if neg then !c else c), θ, h, nx, w, .value _, .refl θ, ⟨trivial, rfl⟩, hR, hκ, ?_, rfl⟩
    refine bin_run ho rfl rfl hg ?_
    cases neg
    · show (binOp .eql t _ _).run P w = _
      rw [hop .eql (.inl rfl)]
      simp only [Sem.run_bind, heq, Result.andThen, Sem.run_pure]
      rfl
    · show (binOp .neq t _ _).run P w = _
      rw [hop .neq (.inr rfl)]
      simp only [Sem.run_bind, heq, Result.andThen, Sem.run_pure]
      rfl
  have hR1 := hr θ a hE
  have hR2 := hr2 θ a hE
  match tc, htc with
  | 0, ⟨el, n, hu, hsz, hn⟩ =>
    cases v <;> first | (cases e; done) | skip
    · rename_i ob off
      obtain ⟨hX, hh⟩ := hR1.p
      cases v2 <;> first | (cases e; done) | skip
      · rename_i ob2 off2
        obtain ⟨hY, hh2⟩ := hR2.p
        rw [hX, hY] at done
        have eqn : ∀ c : Bool, (sameAddr ⟨θ.blk ob, θ.bas ob + off, none⟩ ⟨θ.blk ob2, θ.bas ob2 + off2, none⟩).run P w = .ok c w → (Op.equal t (.pointer (some ⟨θ.blk ob, θ.bas ob + off, none⟩)) (.pointer (some ⟨θ.blk ob2, θ.bas ob2 + off2, none⟩))).run P w = .ok c w := by
          intro c hc
          have : ∀ d : Nat, (Op.equalIn (d + 1) t (.pointer (some ⟨θ.blk ob, θ.bas ob + off, none⟩)) (.pointer (some ⟨θ.blk ob2, θ.bas ob2 + off2, none⟩))).run P w = .ok c w := fun d => by
            simp [Op.equalIn, run_underlying hu, run_size hsz, hn, hc]
          exact this 9999
        rcases br_true e with ⟨g1, g2⟩ | ⟨g1, g2⟩
        · have g1 := Nat.eq_of_beq_eq_true g1
          subst g1
          refine done _ g2 (by cases neg <;> rfl) (eqn _ ?_) (by rintro op (rfl | rfl) <;> rfl)
          simp only [sameAddr, BEq.rfl, if_true, Sem.run_pure]
          congr 1
          rw [Bool.eq_iff_iff]
          simp only [beq_iff_eq, Addr.mk.injEq, true_and, and_true]
          constructor
          · intro h; have : off = off2 := by omega
            subst this; simp
          · intro h; have := Nat.eq_of_beq_eq_true h; omega
        · obtain ⟨g3, a1, s1, s2, s3, s4, s5⟩ := sole_true (P := P) g2
          obtain ⟨g4, a2, t1, t2, t3, t4, t5⟩ := sole_true (P := P) g3
          have hne : ob ≠ ob2 := fun h => by subst h; simp at g1
          have hblk : θ.blk ob ≠ θ.blk ob2 := fun heq => by
            have := (hR.apart ob ob2 a1 a2 hne hh hh2 s1 t1 s2 t3 heq).1
            rw [s4] at this; cases this
          obtain ⟨c1, ty1, b1⟩ := s5 (w0 := w0) (hR.obj_ hh s1)
          obtain ⟨c2, ty2, b2⟩ := t5 (w0 := w0) (hR.obj_ hh2 t1)
          refine done _ g4 (by cases neg <;> rfl) (eqn _ ?_) (by rintro op (rfl | rfl) <;> rfl)
          exact run_sameAddr_other w (by intro h; injection h with h; exact hblk h) b1 b2
      · have hY : a.eval Y = .pointer none := hR2.2
        rw [hX, hY] at done
        refine done _ e (by cases neg <;> rfl) ?_ (by rintro op (rfl | rfl) <;> rfl)
        have : ∀ (d : Nat) p, (Op.equalIn (d + 1) t (.pointer (some p)) (.pointer none)).run P w = .ok false w := fun d p => by simp [Op.equalIn, run_underlying hu]
        exact this 9999 _
    · have hX : a.eval X = .pointer none := hR1.2
      cases v2 <;> first | (cases e; done) | skip
      · obtain ⟨hY, _⟩ := hR2.p
        rw [hX, hY] at done
        refine done _ e (by cases neg <;> rfl) ?_ (by rintro op (rfl | rfl) <;> rfl)
        have : ∀ (d : Nat) p, (Op.equalIn (d + 1) t (.pointer none) (.pointer (some p))).run P w = .ok false w := fun d p => by simp [Op.equalIn, run_underlying hu]
        exact this 9999 _
      · have hY : a.eval Y = .pointer none := hR2.2
        rw [hX, hY] at done
        refine done _ e (by cases neg <;> rfl) ?_ (by rintro op (rfl | rfl) <;> rfl)
        have : ∀ (d : Nat), (Op.equalIn (d + 1) t (.pointer none) (.pointer none)).run P w = .ok true w := fun d => by simp [Op.equalIn, run_underlying hu]
        exact this 9999
  | 1, ⟨el, hu⟩ =>
    cases v <;> first | (cases e; done) | skip
    · obtain ⟨_, c, hX⟩ := hR1.sl
      cases v2 <;> first | (cases e; done) | skip
      have hY : a.eval Y = .slice none 0 0 := hR2.2
      rw [hX, hY] at done
      refine done _ e (by cases neg <;> rfl) ?_ (by rintro op (rfl | rfl) <;> rfl)
      have : ∀ (d : Nat) p l c, (Op.equalIn (d + 1) t (.slice (some p) l c) (.slice none 0 0)).run P w = .ok false w := fun d p l c => by simp [Op.equalIn, run_underlying hu]
      exact this 9999 _ _ _
    · have hX : a.eval X = .slice none 0 0 := hR1.2
      cases v2 <;> first | (cases e; done) | skip
      · obtain ⟨_, c, hY⟩ := hR2.sl
        rw [hX, hY] at done
        refine done _ e (by cases neg <;> rfl) ?_ (by rintro op (rfl | rfl) <;> rfl)
        have : ∀ (d : Nat) p l c, (Op.equalIn (d + 1) t (.slice none 0 0) (.slice (some p) l c)).run P w = .ok false w := fun d p l c => by simp [Op.equalIn, run_underlying hu]
        exact this 9999 _ _ _
      · have hY : a.eval Y = .slice none 0 0 := hR2.2
        rw [hX, hY] at done
        refine done _ e (by cases neg <;> rfl) ?_ (by rintro op (rfl | rfl) <;> rfl)
        have : ∀ (d : Nat), (Op.equalIn (d + 1) t (.slice none 0 0) (.slice none 0 0)).run P w = .ok true w := fun d => by simp [Op.equalIn, run_underlying hu]
        exact this 9999
  | 2, ⟨kt, el, hu⟩ =>
    cases v <;> first | (cases e; done) | skip
    · obtain ⟨hX, _⟩ := hR1.m
      cases v2 <;> first | (cases e; done) | skip
      have hY : a.eval Y = .map none := hR2.2
      rw [hX, hY] at done
      refine done _ e (by cases neg <;> rfl) ?_ (by rintro op (rfl | rfl) <;> rfl)
      have : ∀ (d : Nat) p, (Op.equalIn (d + 1) t (.map (some p)) (.map none)).run P w = .ok false w := fun d p => by simp [Op.equalIn, run_underlying hu]
      exact this 9999 _
    · have hX : a.eval X = .map none := hR1.2
      cases v2 <;> first | (cases e; done) | skip
      · obtain ⟨hY, _⟩ := hR2.m
        rw [hX, hY] at done
        refine done _ e (by cases neg <;> rfl) ?_ (by rintro op (rfl | rfl) <;> rfl)
        have : ∀ (d : Nat) p, (Op.equalIn (d + 1) t (.map none) (.map (some p))).run P w = .ok false w := fun d p => by simp [Op.equalIn, run_underlying hu]
        exact this 9999 _
      · have hY : a.eval Y = .map none := hR2.2
        rw [hX, hY] at done
        refine done _ e (by cases neg <;> rfl) ?_ (by rintro op (rfl | rfl) <;> rfl)
        have : ∀ (d : Nat), (Op.equalIn (d + 1) t (.map none) (.map none)).run P w = .ok true w := fun d => by simp [Op.equalIn, run_underlying hu]
        exact this 9999
  | 3, ⟨a1, b1, c1, hu⟩ =>
    cases v <;> first | (cases e; done) | skip
    · have hX := hR1.2
      cases v2 <;> first | (cases e; done) | skip
      have hY : a.eval Y = .nilFunc := hR2.2
      simp only [toV] at hX
      rw [hX, hY] at done
      refine done _ e (by cases neg <;> rfl) ?_ (by rintro op (rfl | rfl) <;> rfl)
      have : ∀ (d : Nat) f p q, (Op.equalIn (d + 1) t (.func f p q) .nilFunc).run P w = .ok false w := fun d f p q => by simp [Op.equalIn, run_underlying hu]
      exact this 9999 _ _ _
    · have hX : a.eval X = .nilFunc := hR1.2
      cases v2 <;> first | (cases e; done) | skip
      · have hY := hR2.2
        simp only [toV] at hY
        rw [hX, hY] at done
        refine done _ e (by cases neg <;> rfl) ?_ (by rintro op (rfl | rfl) <;> rfl)
        have : ∀ (d : Nat) f p q, (Op.equalIn (d + 1) t .nilFunc (.func f p q)).run P w = .ok false w := fun d f p q => by simp [Op.equalIn, run_underlying hu]
        exact this 9999 _ _ _
      · have hY : a.eval Y = .nilFunc := hR2.2
        rw [hX, hY] at done
        refine done _ e (by cases neg <;> rfl) ?_ (by rintro op (rfl | rfl) <;> rfl)
        have : ∀ (d : Nat), (Op.equalIn (d + 1) t .nilFunc .nilFunc).run P w = .ok true w := fun d => by simp [Op.equalIn, run_underlying hu]
        exact this 9999
  | 4, ⟨⟨ms, hu⟩, hcst⟩ =>
    cases v <;> first | (cases e; done) | skip
    · have hX := hR1.2
      cases v2 <;> first | (cases e; done) | skip
      have hY : a.eval Y = .nilIface := hR2.2
      simp only [toV] at hX
      rw [hX, hY] at done
      refine done _ e (by cases neg <;> rfl) ?_ (by rintro op (rfl | rfl) <;> rfl)
      have : ∀ (d : Nat) f p, (Op.equalIn (d + 1) t (.iface f p) .nilIface).run P w = .ok false w := fun d f p => by simp [Op.equalIn, run_underlying hu]
      exact this 9999 _ _
    · have hX : a.eval X = .nilIface := hR1.2
      cases v2 <;> first | (cases e; done) | skip
      · have hY := hR2.2
        simp only [toV] at hY
        rw [hX, hY] at done
        refine done _ e (by cases neg <;> rfl) ?_ (by rintro op (rfl | rfl) <;> rfl)
        have : ∀ (d : Nat) f p, (Op.equalIn (d + 1) t .nilIface (.iface f p)).run P w = .ok false w := fun d f p => by simp [Op.equalIn, run_underlying hu]
        exact this 9999 _ _
      · have hY : a.eval Y = .nilIface := hR2.2
        rw [hX, hY] at done
        refine done _ e ?_ ?_ (by rintro op (rfl | rfl) <;> rfl)
        · rcases hcst with hc | hc
          · cases X <;> simp [isC] at hc
            cases neg <;> simp [eqGuard]
          · cases Y <;> simp [isC] at hc
            cases neg <;> simp [eqGuard]
        · have : ∀ (d : Nat), (Op.equalIn (d + 1) t .nilIface .nilIface).run P w = .ok true w := fun d => by simp [Op.equalIn, run_underlying hu]
          exact this 9999

/-! ### Functions without a body -/
theorem ext_run {c : Call} {f : FuncId} {fn : Func} {e : Array Value → Sem Value} {a : Act} {w w' : World} {v : Value} (ho : o.op = .call c) (hc : c.callee = .value (.func f)) (hf : P.funcs[f]? = some fn) (hb : fn.body.isNone = true) (hn : (fn.name == "runtime.NumGoroutine") = false)
    (h1 : Extern.findNext fn = none) (h2 : Extern.find fn = some e) (hrun : (e (c.args.map a.eval)).run P w = .ok v w') : (execOp a.eval o).run P w = .ok (.value v) w' := by
  have hargs : #[] ++ c.args.map a.eval ++ #[] = c.args.map a.eval := by simp
  simp only [execOp, ho, resolve, hc, Act.eval, Deferred.ofValue, Sem.run_bind, Sem.run_pure, Result.andThen, invoke, callFunc, run_program, hf, hn, hb, Bool.false_eq_true, if_false, if_true, run_mark, h1, h2]
  simp only [Array.append_empty, Array.empty_append, hrun]
theorem next_none {fn : Func} {n : String} (hn : fn.name = n) (hog : (fn.origin == fn.name || fn.origin == "") = true) (h1 : (Extern.allNextRows.lookup n).isNone = true) (h2 : (Extern.allNextRows.lookup "").isNone = true) : Extern.findNext fn = none := by
  unfold Extern.findNext
  have h1 : Extern.allNextRows.lookup n = none := by simpa using h1
  have h2 : Extern.allNextRows.lookup "" = none := by simpa using h2
  have hor : fn.origin = n ∨ fn.origin = "" := by
    simp only [Bool.or_eq_true, beq_iff_eq] at hog
    rcases hog with h | h
    · exact .inl (h.trans hn)
    · exact .inr h
  rcases hor with hor | hor <;> simp [hn, hor, h1, h2]
theorem find_some {fn : Func} {n : String} {e : Array Value → Sem Value} (hn : fn.name = n) (h1 : (Extern.allGenericRows.lookup n).isNone = true) (h2 : (Extern.allTypedRows.lookup n).isNone = true) (h3 : Extern.allRows.lookup n = some e) : Extern.find fn = some e := by
  unfold Extern.find
  have h1 : Extern.allGenericRows.lookup n = none := by simpa using h1
  have h2 : Extern.allTypedRows.lookup n = none := by simpa using h2
  simp [hn, h1, h2, h3]
end
end Go.AM
