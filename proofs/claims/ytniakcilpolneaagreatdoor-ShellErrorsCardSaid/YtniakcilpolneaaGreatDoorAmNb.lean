/-
  AM, 15b: an object that takes another one's block. Conditions: none.
-/
import Derived.Test.YtniakcilpolneaaGreatDoorAmO
import Derived.KernelRfl
namespace Go.AM
open Go

section
variable {P : Program} {w0 w w' : World} {pd : List (Nat × AO)} {θ : Th} {h : H} {nx : Nat}
/-- a new object in a block in which nothing lives -/
theorem HR.newAt (hr : HR P w0 pd θ h nx w) {o : Nat} (ho : θ.has o) (hno : ∀ q b, θ.has q → obj h q = some b → b.live = true → θ.blk q ≠ θ.blk o) (hn : nx < 2097152)
    {a : AO} {bs sz es : Nat} (ha : OR P (θ.put nx (θ.blk o) bs sz es) w nx a) (hsh : a.sh = []) :
    HR P w0 pd (θ.put nx (θ.blk o) bs sz es) (setO h nx a) (nx + 1) w ∧ θ.le (θ.put nx (θ.blk o) bs sz es) := by
  have hnx : ¬ θ.has nx := fun hx => Nat.lt_irrefl _ (hr.own nx hx).1
  have hle := Th.le_put hnx (θ.blk o) bs sz es
  have hob : ∀ o, θ.has o → obj (setO h nx a) o = obj h o := fun o ho => obj_set_ne h a hn (hr.lt32 ho) (fun e => hnx (e ▸ ho))
  have hx : ∀ (c : AO) (p : Nat), θ.has p → c.ext (θ.put nx (θ.blk o) bs sz es) p = c.ext θ p := fun c p hp => by cases c <;> simp only [AO.ext, hle.bas p hp]
  refine ⟨⟨by omega, ?_, ?_, hr.size, hr.kept, hr.plain, ?_, hr.nodup, hr.fresh.set (by omega) (by omega) hn, hr.glo⟩, hle⟩
  · intro p hp
    by_cases e : p = nx
    · subst e
      obtain ⟨_, a2, a3, _⟩ := hr.own o ho
      exact ⟨by omega, by rw [Th.put_blk]; exact a2, by rw [Th.put_blk]; exact a3, a, obj_set _ _ _, ha, fun x hx => by rw [hsh] at hx; cases hx⟩
    · have hp' : θ.has p := hp.resolve_left e
      obtain ⟨a1, a2, a3, b, a4, a5, a6⟩ := hr.own p hp'
      exact ⟨by omega, by rw [hle.blk p hp']; exact a2, by rw [hle.blk p hp']; exact a3, b, by rw [hob p hp']; exact a4, a5.mono hle hp' rfl, fun x hx => hle.has x (a6 x hx)⟩
  · intro p q b b' hne hp hq hb hb' hw hl heq
    have hbl : b.live = true := by cases b <;> first | rfl | simp [AO.wr] at hw
    by_cases e : p = nx
    · subst e
      have hq' : θ.has q := hq.resolve_left (Ne.symm hne)
      rw [hob q hq'] at hb'
      rw [Th.put_blk, hle.blk q hq'] at heq
      exact absurd heq.symm (hno q b' hq' hb' hl)
    · have hp' : θ.has p := hp.resolve_left e
      rw [hob p hp'] at hb
      by_cases e' : q = nx
      · subst e'
        rw [Th.put_blk, hle.blk p hp'] at heq
        exact absurd heq (hno p b hp' hb hbl)
      · have hq' : θ.has q := hq.resolve_left e'
        rw [hob q hq'] at hb'
        rw [hle.blk p hp', hle.blk q hq'] at heq
        rw [hx b' q hq', hx b p hp']
        exact hr.apart p q b b' hne hp' hq' hb hb' hw hl heq
  · intro p b hb
    obtain ⟨p1, p2, p3⟩ := hr.pend p b hb
    exact ⟨fun hx => hx.elim (fun e => by omega) p1, by omega, by rw [obj_set_ne h a hn (Nat.lt_of_lt_of_le p2 hr.lim) (by omega)]; exact p3⟩
/-- an object of its own block is gone: what is done to its block does not matter -/
theorem HR.drop (hr : HR P w0 pd θ h nx w) {o : Nat} {a : AO} (ho : θ.has o) (ha : obj h o = some a) (hw : a.wr = true) (hs : a.sh = []) (hsz : w'.heap.size = w.heap.size)
    (hh : ∀ b, b ≠ θ.blk o → w'.heap[b]? = w.heap[b]?) (hp : w'.os = w.os ∧ w'.tape = w.tape ∧ w'.output = w.output) :
    HR P w0 pd θ (setO h o .dead) nx w' ∧ ∀ q b, θ.has q → obj (setO h o .dead) q = some b → b.live = true → θ.blk q ≠ θ.blk o := by
  have k := HR.upd (a' := .dead) hr ho ha hw hsz hh hp trivial (fun x hx => by cases hx)
  rw [hs] at k
  refine ⟨k, fun q b hq hb hl he => ?_⟩
  by_cases e : q = o
  · subst e
    rw [obj_set] at hb; injection hb with hb; subst hb; cases hl
  · rw [obj_set_ne _ _ (hr.lt32 ho) (hr.lt32 hq) e] at hb
    have := (hr.apart o q a b (Ne.symm e) ho hq ha hb hw hl he.symm).1
    rw [hs] at this; cases this
end
end Go.AM
namespace Go.AM
open Go

section
variable {P : Program} {o : Oper} {x y z : XF} {X Y Z : Operand}
/-- what is read lies in a block of cells, and is not frozen -/
theorem rd1_blk {w0 w : World} {pd : List (Nat × AO)} {θ : Th} {h : H} {nx : Nat} (hR : HR P w0 pd θ h nx w) {ob off : Nat} {κ : AV → R} (hh : θ.has ob) (e : rd1 ob off h κ = true) :
    ∃ c ty fz, w.heap[θ.blk ob]? = some (.cells c ty fz) ∧ θ.bas ob + off < c.size ∧ w.frozen? ⟨θ.blk ob, θ.bas ob + off, none⟩ = false := by
  obtain ⟨v, _, _, _, _, hc⟩ := rd1_ok hR hh e
  obtain ⟨a, ha, e1⟩ := get_true e
  have hor := hR.obj_ hh ha
  cases a with
  | sm l =>
    obtain ⟨ty, h1, h2, h3, h4⟩ := hor
    refine ⟨_, _, _, h1, ?_, by simp [World.frozen?, h1]⟩
    rw [cell_of_row w _ _ _ _ _ h1] at hc
    exact (Array.getElem?_eq_some_iff.1 hc).1
  | st t0 l =>
    obtain ⟨h1, h2, h3, h4⟩ := hor
    refine ⟨_, _, _, h1, ?_, by simp [World.frozen?, h1]⟩
    rw [cell_of_row w _ _ _ _ _ h1] at hc
    exact (Array.getElem?_eq_some_iff.1 hc).1
  | bt t0 l => cases e1
  | ce N es zz zl d t top sh =>
    obtain ⟨c, ty, fz, h1, h2, h3, h4, h5, h6⟩ := hor
    rw [cell_of_row w _ _ _ _ _ h1] at hc
    have hlt := (Array.getElem?_eq_some_iff.1 hc).1
    exact ⟨_, _, _, h1, hlt, by simp only [World.frozen?, h1]; exact h4.free _ hlt⟩
  | mp es c => cases e1
  | it m s1 s2 s3 => cases e1
  | lp a1 b1 c1 d1 e1 f1 => cases e1
  | df b => cases e1
  | dead => cases e1
theorem a_uptr {s d el : TypeId} {n : Nat} (hx : XOk x X) (hs : P.underlying s = some (.pointer el)) (hd : P.underlying d = some .unsafePointer) (hsz : sizeT P el = some n) (hn : n ≠ 0) (ho : o.op = .convert s d X) : OpOk P o (oUptr x) := by
  intro en h nx κ w0 pd θ a w hE hR e
  obtain ⟨v, hv, hr⟩ := hx en
  simp only [oUptr, hv] at e
  have conv : ∀ u : Value, (∃ p, u = .pointer p) → (convert s d u).run P w = (Conv.unsafePointer s d u).run P w := by
    rintro u ⟨p, rfl⟩
    simp only [convert, Sem.run_bind, run_underlying hs, run_underlying hd, Result.andThen]
  cases v <;> first | (cases e; done) | skip
  · rename_i ob off
    obtain ⟨hX, hh⟩ := (hr θ a hE).p
    obtain ⟨c, ty, fz, b1, b2, _⟩ := rd1_blk hR hh e
    obtain ⟨_, _, k1, _⟩ := rd1_ok hR hh e
    refine ⟨.p ob off, .pointer (some ⟨θ.blk ob, θ.bas ob + off, none⟩), θ, h, nx, w, .value _, .refl θ, ⟨hh, rfl⟩, hR, k1, ?_, rfl⟩
    have hshape : w.shape? (θ.blk ob) = some (ty, c.size) := by simp [World.shape?, b1]
    have hnot : ¬ (c.size ≤ θ.bas ob + off) := by omega
    have hrun : (Conv.unsafePointer s d (.pointer (some ⟨θ.blk ob, θ.bas ob + off, none⟩))).run P w = .ok (.pointer (some ⟨θ.blk ob, θ.bas ob + off, none⟩)) w := by
      simp [Conv.unsafePointer, run_underlying hs, run_underlying hd, Conv.seenAt, viewAt, shape, Sem.run, hshape, cellsIn, run_size hsz, hn, hnot]
    simp [execOp, ho, hX, conv _ ⟨_, rfl⟩, hrun]
  · have hX : a.eval X = .pointer none := (hr θ a hE).2
    refine ⟨.np, .pointer none, θ, h, nx, w, .value _, .refl θ, ⟨trivial, rfl⟩, hR, e, ?_, rfl⟩
    simp [execOp, ho, hX, conv _ ⟨_, rfl⟩, Conv.unsafePointer, run_underlying hs, run_underlying hd]
/-- an object of its own -/
theorem sole_true {ob : Nat} {h : H} {κ : R} (e : sole ob h κ = true) : κ = true ∧ ∃ a, obj h ob = some a ∧ a.wr = true ∧ a.live = true ∧ a.sh = [] ∧ ∀ {w0 w : World} {θ : Th}, OR P θ w ob a → ∃ c ty, w.heap[θ.blk ob]? = some (.cells c ty (0, 0)) := by
  obtain ⟨a, ha, e1⟩ := get_true e
  cases a with
  | sm l =>
    cases l with
    | nil => cases e1
    | cons v l => exact ⟨e1, _, ha, rfl, rfl, rfl, fun {_ _ _} ⟨ty, h1, _⟩ => ⟨_, ty, h1⟩⟩
  | st t0 l => cases e1
  | bt t0 l => cases e1
  | ce N es zz zl d t top sh =>
    obtain ⟨h1, e2⟩ := br_t e1
    obtain ⟨h2, e3⟩ := br_t e2
    obtain ⟨h3, e4⟩ := br_t e3
    cases sh with
    | cons x r => cases e4
    | nil =>
      have h1 := Nat.eq_of_beq_eq_true h1
      subst h1 h2
      have h3 : 0 < zl := by simpa [Nat.blt_eq] using h3
      exact ⟨e4, _, ha, rfl, rfl, rfl, fun {_ _ _} ⟨c, ty, fz, k1, _, _, _, k5, _⟩ => ⟨c, ty, by rw [(k5 rfl).2.2 (by omega)] at k1; exact k1⟩⟩
  | mp es c => cases e1
  | it m s1 s2 s3 => cases e1
  | lp a1 b1 c1 d1 e1 f1 => cases e1
  | df b => cases e1
  | dead => cases e1
/-- which kind of type -/
def tcOk (P : Program) (t : TypeId) (X Y : Operand) : Nat → Prop
  | 0 => ∃ e n, P.underlying t = some (.pointer e) ∧ sizeT P e = some n ∧ n ≠ 0
  | 1 => ∃ e, P.underlying t = some (.slice e)
  | 2 => ∃ k e, P.underlying t = some (.map k e)
  | 3 => ∃ a b c, P.underlying t = some (.func a b c)
  | 4 => (∃ ms, P.underlying t = some (.interface ms)) ∧ (isC X = true ∨ isC Y = true)
  | _ => False
theorem a_eqn {neg : Bool} {tc : Nat} {t t2 : TypeId} (hx : XOk x X) (hy : XOk y Y) (htc : tcOk P t X Y tc) (ho : o.op = .binOp (if neg then .neq else .eql) t X Y t2) : OpOk P o (oEqn neg tc x y) := by
  intro en h nx κ w0 pd θ a w hE hR e
  obtain ⟨v, hv, hr⟩ := hx en
  obtain ⟨v2, hv2, hr2⟩ := hy en
  simp only [oEqn, hv, hv2] at e
  have done : ∀ c : Bool, kB κ h nx (eqB neg (not' c)) = true → (eqGuard (if neg then .neq else .eql) t X Y (a.eval X) (a.eval Y)).run P w = .ok () w →
      (Op.equal t (a.eval X) (a.eval Y)).run P w = .ok c w → (∀ op, (op = .eql ∨ op = .neq) → binOp op t (a.eval X) (a.eval Y) = (match op with | .eql => (do pure (.bool (← Op.equal t (a.eval X) (a.eval Y))) : Sem Value) | _ => do pure (.bool (!(← Op.equal t (a.eval X) (a.eval Y)))))) →
      ∃ v u θ' h' nx' w' n, θ.le θ' ∧ VR θ' v u ∧ HR P w0 pd θ' h' nx' w' ∧ κ v h' nx' = true ∧ (execOp a.eval o).run P w = .ok n w' ∧ fin n = some u := by
    intro c hκ hg heq hop
    rw [kB_eq, negc_eq] at hκ
    refine ⟨.b (if neg then !c else c), .bool (if neg then !c else c), θ, h, nx, w, .value _, .refl θ, ⟨trivial, rfl⟩, hR, hκ, ?_, rfl⟩
    refine bin_run ho rfl rfl hg ?_
    cases neg
    · show (binOp .eql t _ _).run P w = _
      rw [hop .eql (.inl rfl)]
      simp only [Sem.run_bind, heq, Result.andThen, Sem.run_pure]
      rfl
    · show (binOp .neq t _ _).run P w = _
      rw [hop .neq (.inr rfl)]
      simp only [Sem.run_bind, heq, Result.andThen, Sem.run_pure]
      rfl
  have hR1 := hr θ a hE
  have hR2 := hr2 θ a hE
  match tc, htc with
  | 0, ⟨el, n, hu, hsz, hn⟩ =>
    cases v <;> first | (cases e; done) | skip
    · rename_i ob off
      obtain ⟨hX, hh⟩ := hR1.p
      cases v2 <;> first | (cases e; done) | skip
      · rename_i ob2 off2
        obtain ⟨hY, hh2⟩ := hR2.p
        rw [hX, hY] at done
        have eqn : ∀ c : Bool, (sameAddr ⟨θ.blk ob, θ.bas ob + off, none⟩ ⟨θ.blk ob2, θ.bas ob2 + off2, none⟩).run P w = .ok c w → (Op.equal t (.pointer (some ⟨θ.blk ob, θ.bas ob + off, none⟩)) (.pointer (some ⟨θ.blk ob2, θ.bas ob2 + off2, none⟩))).run P w = .ok c w := by
          intro c hc
          have : ∀ d : Nat, (Op.equalIn (d + 1) t (.pointer (some ⟨θ.blk ob, θ.bas ob + off, none⟩)) (.pointer (some ⟨θ.blk ob2, θ.bas ob2 + off2, none⟩))).run P w = .ok c w := fun d => by
            simp [Op.equalIn, run_underlying hu, run_size hsz, hn, hc]
          exact this 9999
        rcases br_true e with ⟨g1, g2⟩ | ⟨g1, g2⟩
        · have g1 := Nat.eq_of_beq_eq_true g1
          subst g1
          refine done _ g2 (by cases neg <;> rfl) (eqn _ ?_) (by rintro op (rfl | rfl) <;> rfl)
          simp only [sameAddr, BEq.rfl, if_true, Sem.run_pure]
          congr 1
          rw [Bool.eq_iff_iff]
          simp only [beq_iff_eq, Addr.mk.injEq, true_and, and_true]
          constructor
          · intro h; have : off = off2 := by omega
            subst this; simp
          · intro h; have := Nat.eq_of_beq_eq_true h; omega
        · obtain ⟨g3, a1, s1, s2, s3, s4, s5⟩ := sole_true (P := P) g2
          obtain ⟨g4, a2, t1, t2, t3, t4, t5⟩ := sole_true (P := P) g3
          have hne : ob ≠ ob2 := fun h => by subst h; simp at g1
          have hblk : θ.blk ob ≠ θ.blk ob2 := fun heq => by
            have := (hR.apart ob ob2 a1 a2 hne hh hh2 s1 t1 s2 t3 heq).1
            rw [s4] at this; cases this
          obtain ⟨c1, ty1, b1⟩ := s5 (w0 := w0) (hR.obj_ hh s1)
          obtain ⟨c2, ty2, b2⟩ := t5 (w0 := w0) (hR.obj_ hh2 t1)
          refine done _ g4 (by cases neg <;> rfl) (eqn _ ?_) (by rintro op (rfl | rfl) <;> rfl)
          exact run_sameAddr_other w (by intro h; injection h with h; exact hblk h) b1 b2
      · have hY : a.eval Y = .pointer none := hR2.2
        rw [hX, hY] at done
        refine done _ e (by cases neg <;> rfl) ?_ (by rintro op (rfl | rfl) <;> rfl)
        have : ∀ (d : Nat) p, (Op.equalIn (d + 1) t (.pointer (some p)) (.pointer none)).run P w = .ok false w := fun d p => by simp [Op.equalIn, run_underlying hu]
        exact this 9999 _
    · have hX : a.eval X = .pointer none := hR1.2
      cases v2 <;> first | (cases e; done) | skip
      · obtain ⟨hY, _⟩ := hR2.p
        rw [hX, hY] at done
        refine done _ e (by cases neg <;> rfl) ?_ (by rintro op (rfl | rfl) <;> rfl)
        have : ∀ (d : Nat) p, (Op.equalIn (d + 1) t (.pointer none) (.pointer (some p))).run P w = .ok false w := fun d p => by simp [Op.equalIn, run_underlying hu]
        exact this 9999 _
      · have hY : a.eval Y = .pointer none := hR2.2
        rw [hX, hY] at done
        refine done _ e (by cases neg <;> rfl) ?_ (by rintro op (rfl | rfl) <;> rfl)
        have : ∀ (d : Nat), (Op.equalIn (d + 1) t (.pointer none) (.pointer none)).run P w = .ok true w := fun d => by simp [Op.equalIn, run_underlying hu]
        exact this 9999
  | 1, ⟨el, hu⟩ =>
    cases v <;> first | (cases e; done) | skip
    · obtain ⟨_, c, hX⟩ := hR1.sl
      cases v2 <;> first | (cases e; done) | skip
      have hY : a.eval Y = .slice none 0 0 := hR2.2
      rw [hX, hY] at done
      refine done _ e (by cases neg <;> rfl) ?_ (by rintro op (rfl | rfl) <;> rfl)
      have : ∀ (d : Nat) p l c, (Op.equalIn (d + 1) t (.slice (some p) l c) (.slice none 0 0)).run P w = .ok false w := fun d p l c => by simp [Op.equalIn, run_underlying hu]
      exact this 9999 _ _ _
    · have hX : a.eval X = .slice none 0 0 := hR1.2
      cases v2 <;> first | (cases e; done) | skip
      · obtain ⟨_, c, hY⟩ := hR2.sl
        rw [hX, hY] at done
        refine done _ e (by cases neg <;> rfl) ?_ (by rintro op (rfl | rfl) <;> rfl)
        have : ∀ (d : Nat) p l c, (Op.equalIn (d + 1) t (.slice none 0 0) (.slice (some p) l c)).run P w = .ok false w := fun d p l c => by simp [Op.equalIn, run_underlying hu]
        exact this 9999 _ _ _
      · have hY : a.eval Y = .slice none 0 0 := hR2.2
        rw [hX, hY] at done
        refine done _ e (by cases neg <;> rfl) ?_ (by rintro op (rfl | rfl) <;> rfl)
        have : ∀ (d : Nat), (Op.equalIn (d + 1) t (.slice none 0 0) (.slice none 0 0)).run P w = .ok true w := fun d => by simp [Op.equalIn, run_underlying hu]
        exact this 9999
  | 2, ⟨kt, el, hu⟩ =>
    cases v <;> first | (cases e; done) | skip
    · obtain ⟨hX, _⟩ := hR1.m
      cases v2 <;> first | (cases e; done) | skip
      have hY : a.eval Y = .map none := hR2.2
      rw [hX, hY] at done
      refine done _ e (by cases neg <;> rfl) ?_ (by rintro op (rfl | rfl) <;> rfl)
      have : ∀ (d : Nat) p, (Op.equalIn (d + 1) t (.map (some p)) (.map none)).run P w = .ok false w := fun d p => by simp [Op.equalIn, run_underlying hu]
      exact this 9999 _
    · have hX : a.eval X = .map none := hR1.2
      cases v2 <;> first | (cases e; done) | skip
      · obtain ⟨hY, _⟩ := hR2.m
        rw [hX, hY] at done
        refine done _ e (by cases neg <;> rfl) ?_ (by rintro op (rfl | rfl) <;> rfl)
        have : ∀ (d : Nat) p, (Op.equalIn (d + 1) t (.map none) (.map (some p))).run P w = .ok false w := fun d p => by simp [Op.equalIn, run_underlying hu]
        exact this 9999 _
      · have hY : a.eval Y = .map none := hR2.2
        rw [hX, hY] at done
        refine done _ e (by cases neg <;> rfl) ?_ (by rintro op (rfl | rfl) <;> rfl)
        have : ∀ (d : Nat), (Op.equalIn (d + 1) t (.map none) (.map none)).run P w = .ok true w := fun d => by simp [Op.equalIn, run_underlying hu]
        exact this 9999
  | 3, ⟨a1, b1, c1, hu⟩ =>
    cases v <;> first | (cases e; done) | skip
    · have hX := hR1.2
      cases v2 <;> first | (cases e; done) | skip
      have hY : a.eval Y = .nilFunc := hR2.2
      simp only [toV] at hX
      rw [hX, hY] at done
      refine done _ e (by cases neg <;> rfl) ?_ (by rintro op (rfl | rfl) <;> rfl)
      have : ∀ (d : Nat) f p q, (Op.equalIn (d + 1) t (.func f p q) .nilFunc).run P w = .ok false w := fun d f p q => by simp [Op.equalIn, run_underlying hu]
      exact this 9999 _ _ _
    · have hX : a.eval X = .nilFunc := hR1.2
      cases v2 <;> first | (cases e; done) | skip
      · have hY := hR2.2
        simp only [toV] at hY
        rw [hX, hY] at done
        refine done _ e (by cases neg <;> rfl) ?_ (by rintro op (rfl | rfl) <;> rfl)
        have : ∀ (d : Nat) f p q, (Op.equalIn (d + 1) t .nilFunc (.func f p q)).run P w = .ok false w := fun d f p q => by simp [Op.equalIn, run_underlying hu]
        exact this 9999 _ _ _
      · have hY : a.eval Y = .nilFunc := hR2.2
        rw [hX, hY] at done
        refine done _ e (by cases neg <;> rfl) ?_ (by rintro op (rfl | rfl) <;> rfl)
        have : ∀ (d : Nat), (Op.equalIn (d + 1) t .nilFunc .nilFunc).run P w = .ok true w := fun d => by simp [Op.equalIn, run_underlying hu]
        exact this 9999
  | 4, ⟨⟨ms, hu⟩, hcst⟩ =>
    cases v <;> first | (cases e; done) | skip
    · have hX := hR1.2
      cases v2 <;> first | (cases e; done) | skip
      have hY : a.eval Y = .nilIface := hR2.2
      simp only [toV] at hX
      rw [hX, hY] at done
      refine done _ e (by cases neg <;> rfl) ?_ (by rintro op (rfl | rfl) <;> rfl)
      have : ∀ (d : Nat) f p, (Op.equalIn (d + 1) t (.iface f p) .nilIface).run P w = .ok false w := fun d f p => by simp [Op.equalIn, run_underlying hu]
      exact this 9999 _ _
    · have hX : a.eval X = .nilIface := hR1.2
      cases v2 <;> first | (cases e; done) | skip
      · have hY := hR2.2
        simp only [toV] at hY
        rw [hX, hY] at done
        refine done _ e (by cases neg <;> rfl) ?_ (by rintro op (rfl | rfl) <;> rfl)
        have : ∀ (d : Nat) f p, (Op.equalIn (d + 1) t .nilIface (.iface f p)).run P w = .ok false w := fun d f p => by simp [Op.equalIn, run_underlying hu]
        exact this 9999 _ _
      · have hY : a.eval Y = .nilIface := hR2.2
        rw [hX, hY] at done
        refine done _ e ?_ ?_ (by rintro op (rfl | rfl) <;> rfl)
        · rcases hcst with hc | hc
          · cases X <;> simp [isC] at hc
            cases neg <;> simp [eqGuard]
          · cases Y <;> simp [isC] at hc
            cases neg <;> simp [eqGuard]
        · have : ∀ (d : Nat), (Op.equalIn (d + 1) t .nilIface .nilIface).run P w = .ok true w := fun d => by simp [Op.equalIn, run_underlying hu]
          exact this 9999

/-! ### Functions without a body -/
theorem ext_run {c : Call} {f : FuncId} {fn : Func} {e : Array Value → Sem Value} {a : Act} {w w' : World} {v : Value} (ho : o.op = .call c) (hc : c.callee = .value (.func f)) (hf : P.funcs[f]? = some fn) (hb : fn.body.isNone = true) (hn : (fn.name == "runtime.NumGoroutine") = false)
    (h1 : Extern.findNext fn = none) (h2 : Extern.find fn = some e) (hrun : (e (c.args.map a.eval)).run P w = .ok v w') : (execOp a.eval o).run P w = .ok (.value v) w' := by
  have hargs : #[] ++ c.args.map a.eval ++ #[] = c.args.map a.eval := by simp
  simp only [execOp, ho, resolve, hc, Act.eval, Deferred.ofValue, Sem.run_bind, Sem.run_pure, Result.andThen, invoke, callFunc, run_program, hf, hn, hb, Bool.false_eq_true, if_false, if_true, run_mark, h1, h2]
  simp only [Array.append_empty, Array.empty_append, hrun]
theorem next_none {fn : Func} {n : String} (hn : fn.name = n) (hog : (fn.origin == fn.name || fn.origin == "") = true) (h1 : (Extern.allNextRows.lookup n).isNone = true) (h2 : (Extern.allNextRows.lookup "").isNone = true) : Extern.findNext fn = none := by
  unfold Extern.findNext
  have h1 : Extern.allNextRows.lookup n = none := by simpa using h1
  have h2 : Extern.allNextRows.lookup "" = none := by simpa using h2
  have hor : fn.origin = n ∨ fn.origin = "" := by
    simp only [Bool.or_eq_true, beq_iff_eq] at hog
    rcases hog with h | h
    · exact .inl (h.trans hn)
    · exact .inr h
  rcases hor with hor | hor <;> simp [hn, hor, h1, h2]
theorem find_some {fn : Func} {n : String} {e : Array Value → Sem Value} (hn : fn.name = n) (h1 : (Extern.allGenericRows.lookup n).isNone = true) (h2 : (Extern.allTypedRows.lookup n).isNone = true) (h3 : Extern.allRows.lookup n = some e) : Extern.find fn = some e := by
  unfold Extern.find
  have h1 : Extern.allGenericRows.lookup n = none := by simpa using h1
  have h2 : Extern.allTypedRows.lookup n = none := by simpa using h2
  simp [hn, h1, h2, h3]
end
end Go.AM
namespace Go.AM
open Go

section
variable {P : Program} {o : Oper} {x y z : XF} {X Y Z : Operand}
theorem run_atomic_read {w : World} {A : Addr} {k : IntKind} {n : Int} (hc : w.cell? A = some (.int k n)) : (Extern.Atomic.read (.int k) A).run P w = .ok (.int k n) w := by
  simp [Extern.Atomic.read, load, Sem.run, hc]
theorem run_atomic_store {w : World} {A : Addr} {k : IntKind} {n : Int} {v : Value} (hc : w.cell? A = some v) (hf : w.frozen? A = false) : (store A (.int k n) .atomic).run P w = .ok () (w.setCell A (.int k n)) := by
  rw [run_store P w A _ _ rfl, hc]
  simp [hf]
theorem loadT_eq (t : Extern.Atomic.T) (v : Value) : Extern.Atomic.loadT t #[v] = (do Extern.Atomic.read t (← asAddr v)) := rfl
theorem storeT_eq (v u : Value) : Extern.Atomic.storeT #[v, u] = (do store (← asAddr v) u .atomic; pure Extern.Atomic.none_) := rfl
theorem update_eq (op : IntKind → Int → Int → Sem Value) (k : IntKind) (v u : Value) : Extern.Atomic.update op k true #[v, u] = (do
    let a ← asAddr v
    let old ← Extern.Atomic.read (.int k) a
    let new ← op k (← asInt old) (← asInt u)
    store a new .atomic
    pure (if true then new else old)) := rfl
theorem casT_eq (k : IntKind) (v : Value) (k1 k2 : IntKind) (m n : Int) {A : Addr} {k0 : IntKind} {x : Int} {w : World} (hv : v = .pointer (some A)) (ht : (Extern.Atomic.touchesFrozen A).run P w = .ok false w) (hr : (Extern.Atomic.read (.int k) A).run P w = .ok (.int k0 x) w) :
    (Extern.Atomic.casT (.int k) #[v, .int k1 m, .int k2 n]).run P w = (if (x == m) = true then (do store A (.int k2 n) .atomic; pure (.bool (x == m)) : Sem Value) else pure (.bool (x == m))).run P w := by
  subst hv
  have : Extern.Atomic.casT (.int k) #[.pointer (some A), .int k1 m, .int k2 n] = (do
      let a ← asAddr (.pointer (some A))
      if ← Extern.Atomic.touchesFrozen a then unsupported (.unsafePointer "a write to bytes that a string shares")
      let eq ← match (Extern.Atomic.T.int k), ← Extern.Atomic.read (.int k) a, (Value.int k1 m) with
        | _, .int _ x, .int _ y => pure (x == y)
        | .ptr, .pointer x, .pointer y => samePointer x y
        | .int _, .pointer (some _), .int _ 0 | .int _, .int _ 0, .pointer (some _) => pure false
        | .int _, .pointer (some _), _ | .int _, _, .pointer (some _) => unsupported .addressObserved
        | _, _, _ => stuck "atomic.CompareAndSwap: old is no T"
      if eq then store a (.int k2 n) .atomic
      pure (.bool eq)) := rfl
  rw [this]
  simp only [asAddr, Sem.run_bind, Sem.run_pure, Result.andThen, ht, hr, Bool.false_eq_true, if_false]
/-- a call of a function without a body -/
structure ExtC (P : Program) (o : Oper) (e : Array Value → Sem Value) (xs : List Operand) : Prop where
  run : ∀ {a : Act} {w w' : World} {v : Value}, (e ((xs.map a.eval).toArray)).run P w = .ok v w' → (execOp a.eval o).run P w = .ok (.value v) w'
theorem a_ald {k : Nat} (hx : XOk x X) (he : ExtC P o (Extern.Atomic.loadT (.int (kindOf k))) [X]) : OpOk P o (oAld k x) := by
  intro en h nx κ w0 pd θ a w hE hR e
  obtain ⟨v, hv, hr⟩ := hx en
  simp only [oAld, hv] at e
  obtain ⟨ob, off, rfl, e1⟩ := asP_true e
  obtain ⟨hX, hh⟩ := (hr θ a hE).p
  obtain ⟨c, _, k2, k3, _, k5⟩ := rd1_ok hR hh e1
  obtain ⟨n, rfl, e2⟩ := asK_true k2
  refine ⟨.i k n, .int (kindOf k) n, θ, h, nx, w, .value _, .refl θ, ⟨trivial, rfl⟩, hR, e2, he.run ?_, rfl⟩
  have := run_atomic_read (P := P) (show w.cell? _ = some (.int (kindOf k) n) from k5)
  show (Extern.Atomic.loadT _ #[a.eval X]).run P w = _
  rw [loadT_eq]
  simp [hX, asAddr, this]
theorem setCell_one {w : World} {b i : Nat} {v : Value} : w.setCell ⟨b, i, none⟩ v = w.setCells b i [v] := rfl
theorem a_ast (hx : XOk x X) (hy : XOk y Y) (he : ExtC P o Extern.Atomic.storeT [X, Y]) : OpOk P o (oAst x y) := by
  intro en h nx κ w0 pd θ a w hE hR e
  obtain ⟨v, hv, hr⟩ := hx en
  obtain ⟨v2, hv2, hr2⟩ := hy en
  simp only [oAst, hv, hv2] at e
  obtain ⟨ob, off, rfl, e1⟩ := asP_true e
  obtain ⟨k, n, rfl, e2⟩ := asI_true e1
  obtain ⟨hX, hh⟩ := (hr θ a hE).p
  have hY := (hr2 θ a hE).i
  obtain ⟨h', k1, k2, k3⟩ := wr_ok (vs := [.i k n]) hR hh ⟨trivial, trivial⟩ rfl e2
  refine ⟨undef, .tuple #[], θ, h', nx, _, .value _, .refl θ, ⟨trivial, rfl⟩, k2, k1, he.run ?_, rfl⟩
  obtain ⟨cur, ty, fz, f1, f2, f3⟩ := k3
  have hlt : θ.bas ob + off < cur.size := by simp [toVs] at f2; omega
  have hst := run_atomic_store (P := P) (k := kindOf k) (n := n) (show w.cell? ⟨θ.blk ob, θ.bas ob + off, none⟩ = some (cur[θ.bas ob + off]) by rw [cell_of_row w _ _ _ _ _ f1]; exact Array.getElem?_eq_getElem hlt) (by simp only [World.frozen?, f1]; exact f3 _ hlt)
  show (Extern.Atomic.storeT #[a.eval X, a.eval Y]).run P w = _
  rw [storeT_eq]
  simp [hX, hY, asAddr, hst, Extern.Atomic.none_, setCell_one, toVs, toV]
theorem a_aad {k : Nat} (hx : XOk x X) (hy : XOk y Y) (he : ExtC P o (Extern.Atomic.update (Op.intArith .add) (kindOf k) true) [X, Y]) : OpOk P o (oAad k x y) := by
  intro en h nx κ w0 pd θ a w hE hR e
  obtain ⟨v, hv, hr⟩ := hx en
  obtain ⟨v2, hv2, hr2⟩ := hy en
  simp only [oAad, hv, hv2] at e
  obtain ⟨ob, off, rfl, e1⟩ := asP_true e
  obtain ⟨hX, hh⟩ := (hr θ a hE).p
  obtain ⟨c, _, j2, j3, _, j5⟩ := rd1_ok hR hh e1
  have go : ∀ (n m q : Int) (k2 : IntKind) (r : AV), toV θ c = .int (kindOf k) n → a.eval Y = .int k2 m → Ok θ r → one r = true → toV θ r = .int (kindOf k) q → q = (kindOf k).wrap (n + m) →
      wrK ob off [r] h (fun h => κ r h nx) = true → ∃ v u θ' h' nx' w' n, θ.le θ' ∧ VR θ' v u ∧ HR P w0 pd θ' h' nx' w' ∧ κ v h' nx' = true ∧ (execOp a.eval o).run P w = .ok n w' ∧ fin n = some u := by
    intro n m q k2 r hn hY hok h1 hq hw e3
    obtain ⟨h', k1, k2', k3⟩ := wr_ok (vs := [r]) hR hh ⟨hok, trivial⟩ (by simp [h1]) e3
    refine ⟨r, .int (kindOf k) q, θ, h', nx, _, .value _, .refl θ, ⟨hok, hq.symm⟩, k2', k1, he.run ?_, rfl⟩
    obtain ⟨cur, ty, fz, f1, f2, f3⟩ := k3
    have hlt : θ.bas ob + off < cur.size := by simp [toVs] at f2; omega
    rw [hn] at j5
    have hrd := run_atomic_read (P := P) (show w.cell? _ = some (.int (kindOf k) n) from j5)
    have hst := run_atomic_store (P := P) (k := kindOf k) (n := (kindOf k).wrap (n + m)) j5 (by simp only [World.frozen?, f1]; exact f3 _ hlt)
    subst hw
    show (Extern.Atomic.update _ _ true #[a.eval X, a.eval Y]).run P w = _
    rw [update_eq]
    simp [hX, hY, asAddr, hrd, asInt, asIntOf, Op.intArith, hst, setCell_one, toVs, hq]
  rcases br_true j2 with ⟨hl, e2⟩ | ⟨hl, e2⟩
  · obtain ⟨A, _, e2, a2, _, a4⟩ := lnK_true e2
    obtain ⟨B, _, e2, b2, _, b4⟩ := lnK_true e2
    obtain ⟨N, _, e3, n3⟩ := laAdd_ok k A B _ e2
    have hk : k < 8 := by
      unfold isLL at hl
      rw [or'_eq, Bool.or_eq_true] at hl
      exact hl.elim a2 b2
    obtain ⟨la, ua⟩ := a4 θ _ ⟨j3, rfl⟩
    obtain ⟨lb, ub⟩ := b4 θ _ (hr2 θ a hE)
    obtain ⟨lN, hrun⟩ := n3 la lb
    have hrun := hrun P 0 θ.lane w θ.lane_lt
    have hq : ((ln θ.lane N : Nat) : Int) = (kindOf k).wrap ((ln θ.lane A : Nat) + (ln θ.lane B : Nat)) := by
      simp [binOp, Op.intArith] at hrun
      exact hrun.symm
    have hv3 := vr_l θ hk lN
    exact go _ _ _ _ (.l k N) ua ub hv3.1 rfl hv3.2.symm hq e3
  · obtain ⟨k', m, rfl, e2⟩ := asI_true e2
    obtain ⟨n, rfl, e3⟩ := asK_true e2
    rw [wrap_eq] at e3
    exact go n m _ _ (.i k ((kindOf k).wrap (Int.add n m))) rfl (hr2 θ a hE).i trivial rfl rfl rfl e3
theorem a_acs {k : Nat} (hx : XOk x X) (hy : XOk y Y) (hz : XOk z Z) (he : ExtC P o (Extern.Atomic.casT (.int (kindOf k))) [X, Y, Z]) : OpOk P o (oAcs k x y z) := by
  intro en h nx κ w0 pd θ a w hE hR e
  obtain ⟨v, hv, hr⟩ := hx en
  obtain ⟨v2, hv2, hr2⟩ := hy en
  obtain ⟨v3, hv3, hr3⟩ := hz en
  simp only [oAcs, hv, hv2, hv3] at e
  obtain ⟨ob, off, rfl, e1⟩ := asP_true e
  obtain ⟨k', n', rfl, e2⟩ := asI_true e1
  obtain ⟨k'', m, rfl, e3⟩ := asI_true e2
  obtain ⟨hX, hh⟩ := (hr θ a hE).p
  have hY := (hr2 θ a hE).i
  have hZ := (hr3 θ a hE).i
  obtain ⟨cc, ty, fz, b1, b2, b3⟩ := rd1_blk hR hh e3
  obtain ⟨c, _, j2, j3, _, j5⟩ := rd1_ok hR hh e3
  obtain ⟨n, rfl, e4⟩ := asK_true j2
  rw [cmEq_eq] at e4
  have hrd := run_atomic_read (P := P) (show w.cell? _ = some (.int (kindOf k) n) from j5)
  have htf : (Extern.Atomic.touchesFrozen ⟨θ.blk ob, θ.bas ob + off, none⟩).run P w = .ok false w := by
    have hshape : w.shape? (θ.blk ob) = some (ty, cc.size) := by simp [World.shape?, b1]
    simp [Extern.Atomic.touchesFrozen, viewAt, shape, Sem.run, hshape, frozen, b3]
  rcases br_true e4 with ⟨g1, g2⟩ | ⟨g1, g2⟩
  · have g1 : n = n' := by simpa using g1
    subst g1
    obtain ⟨h', k1, k2, k3⟩ := wr_ok (vs := [.i k'' m]) hR hh ⟨trivial, trivial⟩ rfl g2
    refine ⟨.b true, .bool true, θ, h', nx, _, .value _, .refl θ, ⟨trivial, rfl⟩, k2, k1, he.run ?_, rfl⟩
    have hst := run_atomic_store (P := P) (k := kindOf k'') (n := m) j5 b3
    show (Extern.Atomic.casT _ #[a.eval X, a.eval Y, a.eval Z]).run P w = _
    rw [hY, hZ, casT_eq _ _ _ _ _ _ hX htf hrd]
    simp [hst, setCell_one, toVs, toV]
  · have g1 : ¬ n = n' := by simpa using g1
    refine ⟨.b false, .bool false, θ, h, nx, w, .value _, .refl θ, ⟨trivial, rfl⟩, hR, g2, he.run ?_, rfl⟩
    show (Extern.Atomic.casT _ #[a.eval X, a.eval Y, a.eval Z]).run P w = _
    rw [hY, hZ, casT_eq _ _ _ _ _ _ hX htf hrd]
    simp [g1]
theorem a_nop {e : Array Value → Sem Value} (he : ExtC P o e []) (hrun : ∀ w, (e #[]).run P w = .ok (.tuple #[]) w) : OpOk P o oNop := by
  intro en h nx κ w0 pd θ a w hE hR e
  exact ⟨undef, .tuple #[], θ, h, nx, w, .value _, .refl θ, ⟨trivial, rfl⟩, hR, e, he.run (hrun w), rfl⟩
theorem a_nopp {m : Addr → Mark} (hx : XOk x X) (he : ExtC P o (Extern.Race.marked m) [X]) : OpOk P o (oNopp x) := by
  intro en h nx κ w0 pd θ a w hE hR e
  obtain ⟨v, hv, hr⟩ := hx en
  simp only [oNopp, hv] at e
  obtain ⟨ob, off, rfl, e1⟩ := asP_true e
  obtain ⟨hX, hh⟩ := (hr θ a hE).p
  refine ⟨undef, .tuple #[], θ, h, nx, w, .value _, .refl θ, ⟨trivial, rfl⟩, hR, e1, he.run ?_, rfl⟩
  simp [Extern.Race.marked, Extern.Race.at_, hX, Extern.Race.none_]
/-- by its name -/
theorem extC {c : Call} {f : FuncId} {fn : Func} {n : String} {e : Array Value → Sem Value} (ho : o.op = .call c) (hc : c.callee = .value (.func f)) (hf : P.funcs[f]? = some fn) (hb : fn.body.isNone = true) (hog : (fn.origin == fn.name || fn.origin == "") = true) (hn : fn.name = n)
    (h0 : (n == "runtime.NumGoroutine") = false) (h1 : (Extern.allNextRows.lookup n).isNone = true) (h2 : (Extern.allGenericRows.lookup n).isNone = true) (h3 : (Extern.allTypedRows.lookup n).isNone = true) (h4 : Extern.allRows.lookup n = some e) : ExtC P o e c.args.toList where
  run := by
    intro a w w' v hrun
    refine ext_run ho hc hf hb (by rw [hn]; exact h0) (next_none hn hog h1 (by kernel_rfl)) (find_some hn h2 h3 h4) ?_
    have : (c.args.toList.map a.eval).toArray = c.args.map a.eval := by apply Array.ext'; simp
    rw [this] at hrun
    exact hrun
theorem len_two {α : Type} : ∀ {l : List α}, l.length = 2 → ∃ a b, l = [a, b]
  | [a, b], _ => ⟨a, b, rfl⟩
theorem len_three {α : Type} : ∀ {l : List α}, l.length = 3 → ∃ a b c, l = [a, b, c]
  | [a, b, c], _ => ⟨a, b, c, rfl⟩
end
end Go.AM
namespace Go.AM
open Go

section
variable {P : Program} {o : Oper} {x y z : XF} {X Y Z : Operand}
theorem lastK_eq : ∀ (l : List Nat) (κ : Nat → R) (d : R), @List.rec Nat (fun _ => R → R) (fun d => d) (fun n _ ih _ => ih (κ n)) l d = (match l.getLast? with | some n => κ n | none => d)
  | [], κ, d => rfl
  | [n], κ, d => rfl
  | n :: m :: l, κ, d => by
    have := lastK_eq (m :: l) κ (κ n)
    show @List.rec Nat (fun _ => R → R) (fun d => d) (fun n _ ih _ => ih (κ n)) (m :: l) (κ n) = _
    rw [this, List.getLast?_cons_cons]
    cases h : (m :: l).getLast? with
    | none => simp at h
    | some q => rfl
theorem lastK_true {l : List Nat} {κ : Nat → R} (e : lastK l κ = true) : ∃ n, l.getLast? = some n ∧ κ n = true := by
  have e : (match l.getLast? with | some n => κ n | none => false) = true := (lastK_eq l κ false).symm.trans e
  split at e
  · rename_i n hn; exact ⟨n, hn, e⟩
  · cases e
theorem bornK_true {b : Nat} {κ : AV → AV → R} {θ : Th} : ∀ {es : List ME}, bornK b κ es = true → ∃ k v b', ME.mk k v b' ∈ es ∧ κ k v = true ∧ (es.map (meV θ)).find? (·.born == b) = some (meV θ (.mk k v b'))
  | [], e => by cases e
  | .mk k v b' :: es, e => by
    have e : br (Nat.beq b' b) (κ k v) (bornK b κ es) = true := e
    rcases br_true e with ⟨h1, h2⟩ | ⟨h1, h2⟩
    · refine ⟨k, v, b', List.mem_cons_self .., h2, ?_⟩
      have : (b' == b) = true := beq_iff_eq.2 (Nat.eq_of_beq_eq_true h1)
      simp only [List.map_cons, List.find?_cons]
      have h3 : ((meV θ (.mk k v b')).born == b) = true := this
      rw [h3]
    · obtain ⟨k2, v2, b2, g1, g2, g3⟩ := bornK_true (θ := θ) h2
      refine ⟨k2, v2, b2, List.mem_cons_of_mem _ g1, g2, ?_⟩
      have : (b' == b) = false := beq_eq_false_iff_ne.2 (fun h => by rw [h, Nat.beq_refl] at h1; cases h1)
      simp only [List.map_cons, List.find?_cons]
      have h3 : ((meV θ (.mk k v b')).born == b) = false := this
      rw [h3]
      exact g3
theorem a_ety (hx : XOk x X) (ho : o.op = .entry X) : OpOk P o (oEty x) := by
  intro en h nx κ w0 pd θ a w hE hR e
  obtain ⟨v, hv, hr⟩ := hx en
  simp only [oEty, hv] at e
  obtain ⟨r, off, rfl, e1⟩ := asP_true e
  obtain ⟨hoff, e2⟩ := br_t e1
  have hoff := Nat.eq_of_beq_eq_true hoff
  subst hoff
  obtain ⟨hp, hh⟩ := (hr θ a hE).p
  obtain ⟨ob, hb, e3⟩ := get_true e2
  have hor := hR.obj_ hh hb
  cases ob <;> first | (cases e3; done) | skip
  rename_i m since seen st
  obtain ⟨hm, hk, hbas⟩ := hor
  cases m with
  | none => cases e3
  | some m =>
    have hmh := hk m rfl
    have e3 : lastK seen (fun b => get m h (asMp fun es c => br (Nat.beq c st) (bornK b (fun k v => κ (.tu [k, v]) h nx) es) false)) = true := e3
    obtain ⟨stamp, hst, e4⟩ := lastK_true e3
    obtain ⟨ob2, hb2, e5⟩ := get_true e4
    obtain ⟨es, cl, rfl, e6⟩ := asMp_true e5
    obtain ⟨hc, e7⟩ := br_t e6
    have hc := Nat.eq_of_beq_eq_true hc
    subst hc
    obtain ⟨hmm, hes⟩ := hR.obj_ hmh hb2
    obtain ⟨k, v, b', g1, g2, g3⟩ := bornK_true (θ := θ) e7
    have hok := hes _ g1
    refine ⟨.tu [k, v], .tuple #[toV θ k, toV θ v], θ, h, nx, w, .value _, .refl θ, ⟨⟨hok.1, hok.2, trivial⟩, rfl⟩, hR, g2, ?_, rfl⟩
    have hback : seen.toArray.back? = some stamp := by simp [hst]
    have hfind : (es.map (meV θ)).toArray.find? (·.born == stamp) = some (meV θ (.mk k v b')) := by simpa using g3
    have hg1 : (getObj (θ.blk r)).run P w = .ok (.mapIter ((some m).map θ.blk) since seen.toArray cl) w := by simp [getObj, Sem.run, hm]
    have hg2 : (getObj (θ.blk m)).run P w = .ok (.map (es.map (meV θ)).toArray cl) w := by simp [getObj, Sem.run, hmm]
    simp only [execOp, ho, hp, hbas, Nat.add_zero, Instr.entry, Sem.run_bind, hg1, Result.andThen, Option.map_some, hback, hg2, bne_self_eq_false, Bool.false_eq_true, if_false, Sem.run_pure]
    rw [hfind]
    simp only [Sem.run_pure]
    rfl
theorem a_clr {t el : TypeId} {zz : List AV} {c : Call} (hx : XOk x X) (hu : P.underlying t = some (.slice el)) (hz : zeroT P el = some zz) (hc : c.callee = .builtin .clear) (ha : c.args.toList = [X]) (ht : c.argTypes.toList = [t]) (ho : o.op = .call c) : OpOk P o (oClr x zz) := by
  intro en h nx κ w0 pd θ a w hE hR e
  obtain ⟨v, hv, hr⟩ := hx en
  simp only [oClr, hv] at e
  have run : ∀ {u w'}, (Builtin.clear_ #[t] o.type #[a.eval X]).run P w = .ok u w' → (execOp a.eval o).run P w = .ok (.value u) w' := by
    intro u w' hw
    obtain ⟨ca, cargs, ct⟩ := c
    have ha' : cargs = #[X] := by cases cargs; simp_all
    have ht' : ct = #[t] := by cases ct; simp_all
    simp only at hc
    subst ha' ht' hc
    simp only [execOp, ho, resolve, invoke, builtin, Sem.run_bind, Sem.run_pure, Result.andThen, List.map_toArray, List.map_cons, List.map_nil, hw]
  obtain ⟨ti, zv, i1, i2, i3, i4⟩ := zeroT_some hz
  cases v <;> first | (cases e; done) | skip
  · rename_i ob off len cap
    obtain ⟨hhas, c, hX⟩ := (hr θ a hE).sl
    cases len with
    | zero =>
      refine ⟨undef, Go.undef, θ, h, nx, w, .value _, .refl θ, vr_undef θ, hR, e, run ?_, rfl⟩
      simp [Builtin.clear_, hX, run_underlying hu]
      rfl
    | succ len =>
      have e : repK zz (len + 1) (fun vs => wrK ob off vs h fun h => κ undef h nx) = true := e
      rw [repK_eq] at e
      obtain ⟨h', k1, k2, k3⟩ := wr_ok hR hhas (rep_oks (i4 θ).1 (len + 1)) (rep_all i3 (len + 1)) e
      have hst := k3.store (toVs_one (rep_all i3 (len + 1))) P
      refine ⟨undef, Go.undef, θ, h', nx, _, .value _, .refl θ, vr_undef θ, k2, k1, run ?_, rfl⟩
      have hz0 : Builtin.zeroCells zv.cells (len + 1) = (toVs θ (rep (len + 1) zz)).toArray := by
        have hsz : zv.cells.size = zz.length := by rw [(i4 θ).2]; simp
        have e : (len + 1) * zv.cells.size = (len + 1) * zz.length := by rw [hsz]
        unfold Builtin.zeroCells
        rw [e]
        exact zeros_eq (i4 θ).2 (len + 1)
      simp only [Builtin.clear_, List.getElem?_toArray, List.getElem?_cons_zero, hX, Sem.run_bind, run_underlying hu, Result.andThen, zeroValue, typeInfo, i1, i2, Sem.run_pure, run_program, hz0, hst]
      rfl
  · have hX : a.eval X = .slice none 0 0 := (hr θ a hE).2
    refine ⟨undef, Go.undef, θ, h, nx, w, .value _, .refl θ, vr_undef θ, hR, e, run ?_, rfl⟩
    simp [Builtin.clear_, hX, run_underlying hu]
    rfl
/-- a mark behind a row's block -/
theorem freeze_end {w : World} {b : Nat} {cc : Array Value} {ty : TypeId} {fz : Nat × Nat} (o1 : w.heap[b]? = some (.cells cc ty fz)) (o4 : Fz fz cc.size) :
    ∃ fz', Fz fz' cc.size ∧ (w.freeze { block := b, off := cc.size } 1) = { w with heap := w.heap.setIfInBounds b (.cells cc ty fz') } := by
  refine ⟨if fz.1 == fz.2 then (cc.size, cc.size + 1) else (min fz.1 cc.size, max fz.2 (cc.size + 1)), ?_, ?_⟩
  · split
    · exact .inr (Nat.le_refl _)
    · rename_i hne
      rcases o4 with rfl | h
      · exact absurd rfl hne
      · exact .inr (Nat.le_min.2 ⟨h, Nat.le_refl _⟩)
  · have hlt : b < w.heap.size := (Array.getElem?_eq_some_iff.1 o1).1
    have hget : w.heap[b] = .cells cc ty fz := (Array.getElem?_eq_some_iff.1 o1).2
    simp only [World.freeze, Nat.one_ne_zero, if_false]
    congr 1
    apply Array.ext_getElem?
    intro i
    rw [Array.getElem?_modify]
    by_cases hi : b = i
    · subst hi
      simp only [if_true, o1, Option.map_some]
      rw [Array.getElem?_setIfInBounds_self_of_lt hlt]
    · rw [if_neg hi, Array.getElem?_setIfInBounds_ne hi]
theorem a_msh {t el : TypeId} (hx : XOk x X) (hu : P.underlying t = some (.slice el)) (h8 : P.underlying el = some (.int .u8)) (ho : o.op = .convert t t X) : OpOk P o (oMsh x) := by
  intro en h nx κ w0 pd θ a w hE hR e
  obtain ⟨v, hv, hr⟩ := hx en
  simp only [oMsh, hv] at e
  cases v <;> first | (cases e; done) | skip
  rename_i ob off len cap
  obtain ⟨hhas, c, hX⟩ := (hr θ a hE).sl
  obtain ⟨ab, hab, e1⟩ := get_true e
  have run : ∀ {cc : Array Value} {ty : TypeId} {fz fz' : Nat × Nat}, w.heap[θ.blk ob]? = some (.cells cc ty fz) → (w.freeze { block := θ.blk ob, off := cc.size } 1) = { w with heap := w.heap.setIfInBounds (θ.blk ob) (.cells cc ty fz') } →
      (execOp a.eval o).run P w = .ok (.value (a.eval X)) { w with heap := w.heap.setIfInBounds (θ.blk ob) (.cells cc ty fz') } := by
    intro cc ty fz fz' o1 hw'
    have hshape : (shape (θ.blk ob)).run P w = .ok (some (ty, cc.size)) w := by simp [shape, Sem.run, World.shape?, o1]
    simp only [execOp, ho, hX, convert, Sem.run_bind, run_underlying hu, Result.andThen, beq_self_eq_true, run_underlying h8, markStringish, hshape, freeze, Sem.run, Sem.run_pure]
    rw [hw']
  cases ab <;> first | (cases e1; done) | skip
  · rename_i n es z zl d tt top sh
    obtain ⟨ht, e2⟩ := br_t e1
    subst ht
    obtain ⟨cc, ty, fz, o1, o2, o3, o4, o5, o6⟩ := hR.obj_ hhas hab
    obtain ⟨fz', hfz, hw'⟩ := freeze_end o1 o4
    rcases br_true e2 with ⟨g1, e3⟩ | ⟨g1, e3⟩
    · rw [put_eq, killK_eq] at e3
      have hz : es = 0 → zl = 0 := fun he => by
        subst he
        cases hz : Nat.beq zl 0 with
        | true => exact Nat.eq_of_beq_eq_true hz
        | false => rw [hz] at g1; cases g1
      have hup := hR.upd hhas hab rfl (w' := { w with heap := w.heap.setIfInBounds (θ.blk ob) (.cells cc ty fz') }) (a' := .ce n es z zl d tt true []) (by simp) (fun b hb => by simp [Array.getElem?_setIfInBounds_ne (Ne.symm hb)]) ⟨rfl, rfl, rfl⟩
        ⟨cc, ty, fz', heap_set o1, o2, o3, hfz, fun h => ⟨(o5 h).1, (o5 h).2.1, fun hn => absurd (hz h) hn⟩, o6⟩ (fun x hx => by cases hx)
      exact ⟨.sl ob off len cap, a.eval X, θ, _, nx, _, .value _, .refl θ, hr θ a hE, hup, e3, run o1 hw', rfl⟩
    · have hes : es = 0 := by
        cases hb : Nat.blt 0 es with
        | true => rw [hb] at g1; cases g1
        | false => 
          have : ¬ (0 < es) := fun h => by have : Nat.blt 0 es = true := by simpa [Nat.blt_eq] using h
                                           rw [hb] at this; cases this
          omega
      obtain ⟨l, k1, k2, k3⟩ := cellsT_true e3
      rw [k3, put_eq, killK_eq] at e3
      subst hes
      have hk : ∀ i, i < n → ∃ v, l[i]? = some v ∧ Ok θ v ∧ one v = true ∧ cc[θ.bas ob + i]? = some (toV θ v) := by
        intro i hi
        obtain ⟨v, q1, q2, q3, q4⟩ := o3 i hi
        have hl : i < l.length := by omega
        have := k2 i l[i] (List.getElem?_eq_getElem hl)
        rw [Nat.zero_add, q1] at this
        injection this with this
        exact ⟨v, by rw [List.getElem?_eq_getElem hl, this], q2, q3, q4⟩
      have hup := hR.upd hhas hab rfl (w' := { w with heap := w.heap.setIfInBounds (θ.blk ob) (.cells cc ty fz') }) (a' := .ce n 0 l 0 (deep n) (E (deep n)) true []) (by simp) (fun b hb => by simp [Array.getElem?_setIfInBounds_ne (Ne.symm hb)]) ⟨rfl, rfl, rfl⟩
        ⟨cc, ty, fz', heap_set o1, deep_ge _, fun i hi => by rw [cellO_E, Nat.mod_zero]; exact hk i hi, hfz, fun h => ⟨(o5 h).1, (o5 h).2.1, fun hn => absurd rfl hn⟩, fun h => absurd rfl h⟩ (fun x hx => by cases hx)
      exact ⟨.sl ob off len cap, a.eval X, θ, _, nx, _, .value _, .refl θ, hr θ a hE, hup, e3, run o1 hw', rfl⟩
  · rename_i l
    have e1 : fnat (lenN AV l) (fun n => put ob (.ce n 0 l 0 (deep n) (E (deep n)) true []) h fun h => κ (.sl ob off len cap) h nx) = true := e1
    rw [fnat_eq, lenN_eq, put_eq] at e1
    obtain ⟨ty, o1, o2, o3, o4⟩ := hR.obj_ hhas hab
    obtain ⟨fz', hfz, hw'⟩ := freeze_end o1 (.inl rfl)
    have hup := hR.upd hhas hab rfl (w' := { w with heap := w.heap.setIfInBounds (θ.blk ob) (.cells (toVs θ l).toArray ty fz') }) (a' := .ce l.length 0 l 0 (deep l.length) (E (deep l.length)) true []) (by simp) (fun b hb => by simp [Array.getElem?_setIfInBounds_ne (Ne.symm hb)]) ⟨rfl, rfl, rfl⟩
      ⟨_, ty, fz', heap_set o1, deep_ge _, fun i hi => ⟨l[i], by rw [cellO_E, Nat.mod_zero]; exact List.getElem?_eq_getElem hi, Oks_iff.1 o3 _ (List.getElem_mem hi), List.all_eq_true.1 o4 _ (List.getElem_mem hi),
        by rw [o2, Nat.zero_add, List.getElem?_toArray, toVs_get, List.getElem?_eq_getElem hi]; rfl⟩, hfz, fun _ => ⟨o2, by simp, fun hn => absurd rfl hn⟩, fun h => absurd rfl h⟩ (fun x hx => by cases hx)
    exact ⟨.sl ob off len cap, a.eval X, θ, _, nx, _, .value _, .refl θ, hr θ a hE, hup, e1, run o1 hw', rfl⟩
end
end Go.AM
