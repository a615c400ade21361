/-
  AM, 18: functions without a body. Conditions: none.
-/
import Derived.Test.YtmhhaimpignndaaGreatAmP
import Derived.KernelRfl
namespace Go.AM
open Go

section
variable {P : Program} {o : Oper} {x y z : XF} {X Y Z : Operand}
theorem run_atomic_read {w : World} {A : Addr} {k : IntKind} {n : Int} (hc : w.cell? A = some (.int k n)) : (Extern.Atomic.read (.int k) A).run P w = .ok (.int k n) w := by
  simp [Extern.Atomic.read, load, Sem.run, hc]
theorem run_atomic_store {w : World} {A : Addr} {k : IntKind} {n : Int} {v : Value} (hc : w.cell? A = some v) (hf : w.frozen? A = false) : (store A (.int k n) .atomic).run P w = .ok () (w.setCell A (.int k n)) := by
  rw [run_store P w A _ _ rfl, hc]
  simp [hf]
theorem loadT_eq (t : Extern.Atomic.T) (v : Value) : Extern.Atomic.loadT t #[v] = (do Extern.Atomic.read t (← asAddr v)) := rfl
theorem storeT_eq (v u : Value) : Extern.Atomic.storeT #[v, u] = (do store (← asAddr v) u .atomic; pure Extern.Atomic.none_) := rfl
theorem update_eq (op : IntKind → Int → Int → Sem Value) (k : IntKind) (v u : Value) : Extern.Atomic.update op k true #[v, u] = (do
    let a ← asAddr v
    let old ← Extern.Atomic.read (.int k) a
    let new ← op k (← asInt old) (← asInt u)
    store a new .atomic
    pure (if true then new else old)) := rfl
theorem casT_eq (k : IntKind) (v : Value) (k1 k2 : IntKind) (m n : Int) {A : Addr} {k0 : IntKind} {x : Int} {w : World} (hv : v = .pointer (some A)) (ht : (Extern.Atomic.touchesFrozen A).run P w = .ok false w) (hr : (Extern.Atomic.read (.int k) A).run P w = .ok (.int k0 x) w) :
    (Extern.Atomic.casT (.int k) #[v, .int k1 m, .int k2 n]).run P w = (if (x == m) = true then (do store A (.int k2 n) .atomic; pure (.bool (x == m)) : Sem Value) else pure (.bool (x == m))).run P w := by
  subst hv
  have : Extern.Atomic.casT (.int k) #[.pointer (some A), .int k1 m, .int k2 n] = (do
      let a ← asAddr (.pointer (some A))
      if ← Extern.Atomic.touchesFrozen a then unsupported (.unsafePointer "a write to bytes that a string shares")
      let eq ← match (Extern.Atomic.T.int k), ← Extern.Atomic.read (.int k) a, (Value.int k1 m) with
        | _, .int _ x, .int _ y => pure (x == y)
        | .ptr, .pointer x, .pointer y => samePointer x y
        | .int _, .pointer (some _), .int _ 0 | .int _, .int _ 0, .pointer (some _) => pure false
        | .int _, .pointer (some _), _ | .int _, _, .pointer (some _) => unsupported .addressObserved
        | _, _, _ => stuck "atomic.CompareAndSwap: old is no T"
      if eq then store a (.int k2 n) .atomic
      pure (.bool eq)) := rfl
  rw [this]
  simp only [asAddr, Sem.run_bind, Sem.run_pure, Result.andThen, ht, hr, Bool.false_eq_true, if_false]
/-- a call of a function without a body -/
structure ExtC (P : Program) (o : Oper) (e : Array Value → Sem Value) (xs : List Operand) : Prop where
  run : ∀ {a : Act} {w w' : World} {v : Value}, (e ((xs.map a.eval).toArray)).run P w = .ok v w' → (execOp a.eval o).run P w = .ok (.value v) w'
theorem a_ald {k : Nat} (hx : XOk x X) (he : ExtC P o (Extern.Atomic.loadT (.int (kindOf k))) [X]) : OpOk P o (oAld k x) := by
  intro en h nx κ w0 pd θ a w hE hR e
  obtain ⟨v, hv, hr⟩ := hx en
  simp only [oAld, hv] at e
  obtain ⟨ob, off, rfl, e1⟩ := asP_true e
  obtain ⟨hX, hh⟩ := (hr θ a hE).p
  obtain ⟨c, _, k2, k3, _, k5⟩ := rd1_ok hR hh e1
  obtain ⟨n, rfl, e2⟩ := asK_true k2
  refine ⟨.i k n, .int (kindOf k) n, θ, h, nx, w, .value _, .refl θ, ⟨trivial, rfl⟩, hR, e2, he.run ?_, rfl⟩
  have := run_atomic_read (P := P) (show w.cell? _ = some (.int (kindOf k) n) from k5)
  show (Extern.Atomic.loadT _ #[a.eval X]).run P w = _
  rw [loadT_eq]
  simp [hX, asAddr, this]
theorem setCell_one {w : World} {b i : Nat} {v : Value} : w.setCell ⟨b, i, none⟩ v = w.setCells b i [v] := rfl
theorem a_ast (hx : XOk x X) (hy : XOk y Y) (he : ExtC P o Extern.Atomic.storeT [X, Y]) : OpOk P o (oAst x y) := by
  intro en h nx κ w0 pd θ a w hE hR e
  obtain ⟨v, hv, hr⟩ := hx en
  obtain ⟨v2, hv2, hr2⟩ := hy en
  simp only [oAst, hv, hv2] at e
  obtain ⟨ob, off, rfl, e1⟩ := asP_true e
  obtain ⟨k, n, rfl, e2⟩ := asI_true e1
  obtain ⟨hX, hh⟩ := (hr θ a hE).p
  have hY := (hr2 θ a hE).i
  obtain ⟨h', k1, k2, k3⟩ := wr_ok (vs := [.i k n]) hR hh ⟨trivial, trivial⟩ rfl e2
  refine ⟨undef, .tuple #[], θ, h', nx, _, .value _, .refl θ, ⟨trivial, rfl⟩, k2, k1, he.run ?_, rfl⟩
  obtain ⟨cur, ty, fz, f1, f2, f3⟩ := k3
  have hlt : θ.bas ob + off < cur.size := by simp [toVs] at f2; omega
  have hst := run_atomic_store (P := P) (k := kindOf k) (n := n) (show w.cell? ⟨θ.blk ob, θ.bas ob + off, none⟩ = some (cur[θ.bas ob + off]) by rw [cell_of_row w _ _ _ _ _ f1]; exact Array.getElem?_eq_getElem hlt) (by simp only [World.frozen?, f1]; exact f3 _ hlt)
  show (Extern.Atomic.storeT #[a.eval X, a.eval Y]).run P w = _
  rw [storeT_eq]
  simp [hX, hY, asAddr, hst, Extern.Atomic.none_, setCell_one, toVs, toV]
theorem a_aad {k : Nat} (hx : XOk x X) (hy : XOk y Y) (he : ExtC P o (Extern.Atomic.update (Op.intArith .add) (kindOf k) true) [X, Y]) : OpOk P o (oAad k x y) := by
  intro en h nx κ w0 pd θ a w hE hR e
  obtain ⟨v, hv, hr⟩ := hx en
  obtain ⟨v2, hv2, hr2⟩ := hy en
  simp only [oAad, hv, hv2] at e
  obtain ⟨ob, off, rfl, e1⟩ := asP_true e
  obtain ⟨k', m, rfl, e2⟩ := asI_true e1
  obtain ⟨hX, hh⟩ := (hr θ a hE).p
  have hY := (hr2 θ a hE).i
  obtain ⟨c, _, j2, j3, _, j5⟩ := rd1_ok hR hh e2
  obtain ⟨n, rfl, e3⟩ := asK_true j2
  rw [wrap_eq] at e3
  obtain ⟨h', k1, k2, k3⟩ := wr_ok (vs := [.i k ((kindOf k).wrap (Int.add n m))]) hR hh ⟨trivial, trivial⟩ rfl e3
  refine ⟨.i k ((kindOf k).wrap (n + m)), .int (kindOf k) ((kindOf k).wrap (n + m)), θ, h', nx, _, .value _, .refl θ, ⟨trivial, rfl⟩, k2, k1, he.run ?_, rfl⟩
  obtain ⟨cur, ty, fz, f1, f2, f3⟩ := k3
  have hlt : θ.bas ob + off < cur.size := by simp [toVs] at f2; omega
  have hrd := run_atomic_read (P := P) (show w.cell? _ = some (.int (kindOf k) n) from j5)
  have hst := run_atomic_store (P := P) (k := kindOf k) (n := (kindOf k).wrap (n + m)) j5 (by simp only [World.frozen?, f1]; exact f3 _ hlt)
  show (Extern.Atomic.update _ _ true #[a.eval X, a.eval Y]).run P w = _
  rw [update_eq]
  simp [hX, hY, asAddr, hrd, asInt, asIntOf, Op.intArith, hst, setCell_one, toVs, toV]
theorem a_acs {k : Nat} (hx : XOk x X) (hy : XOk y Y) (hz : XOk z Z) (he : ExtC P o (Extern.Atomic.casT (.int (kindOf k))) [X, Y, Z]) : OpOk P o (oAcs k x y z) := by
  intro en h nx κ w0 pd θ a w hE hR e
  obtain ⟨v, hv, hr⟩ := hx en
  obtain ⟨v2, hv2, hr2⟩ := hy en
  obtain ⟨v3, hv3, hr3⟩ := hz en
  simp only [oAcs, hv, hv2, hv3] at e
  obtain ⟨ob, off, rfl, e1⟩ := asP_true e
  obtain ⟨k', n', rfl, e2⟩ := asI_true e1
  obtain ⟨k'', m, rfl, e3⟩ := asI_true e2
  obtain ⟨hX, hh⟩ := (hr θ a hE).p
  have hY := (hr2 θ a hE).i
  have hZ := (hr3 θ a hE).i
  obtain ⟨cc, ty, fz, b1, b2, b3⟩ := rd1_blk hR hh e3
  obtain ⟨c, _, j2, j3, _, j5⟩ := rd1_ok hR hh e3
  obtain ⟨n, rfl, e4⟩ := asK_true j2
  rw [cmEq_eq] at e4
  have hrd := run_atomic_read (P := P) (show w.cell? _ = some (.int (kindOf k) n) from j5)
  have htf : (Extern.Atomic.touchesFrozen ⟨θ.blk ob, θ.bas ob + off, none⟩).run P w = .ok false w := by
    have hshape : w.shape? (θ.blk ob) = some (ty, cc.size) := by simp [World.shape?, b1]
    simp [Extern.Atomic.touchesFrozen, viewAt, shape, Sem.run, hshape, frozen, b3]
  rcases br_true e4 with ⟨g1, g2⟩ | ⟨g1, g2⟩
  · have g1 : n = n' := by simpa using g1
    subst g1
    obtain ⟨h', k1, k2, k3⟩ := wr_ok (vs := [.i k'' m]) hR hh ⟨trivial, trivial⟩ rfl g2
    refine ⟨.b true, .bool true, θ, h', nx, _, .value _, .refl θ, ⟨trivial, rfl⟩, k2, k1, he.run ?_, rfl⟩
    have hst := run_atomic_store (P := P) (k := kindOf k'') (n := m) j5 b3
    show (Extern.Atomic.casT _ #[a.eval X, a.eval Y, a.eval Z]).run P w = _
    rw [hY, hZ, casT_eq _ _ _ _ _ _ hX htf hrd]
    simp [hst, setCell_one, toVs, toV]
  · have g1 : ¬ n = n' := by simpa using g1
    refine ⟨.b false, .bool false, θ, h, nx, w, .value _, .refl θ, ⟨trivial, rfl⟩, hR, g2, he.run ?_, rfl⟩
    show (Extern.Atomic.casT _ #[a.eval X, a.eval Y, a.eval Z]).run P w = _
    rw [hY, hZ, casT_eq _ _ _ _ _ _ hX htf hrd]
    simp [g1]
theorem a_nop {e : Array Value → Sem Value} (he : ExtC P o e []) (hrun : ∀ w, (e #[]).run P w = .ok (.tuple #[]) w) : OpOk P o oNop := by
  intro en h nx κ w0 pd θ a w hE hR e
  exact ⟨undef, .tuple #[], θ, h, nx, w, .value _, .refl θ, ⟨trivial, rfl⟩, hR, e, he.run (hrun w), rfl⟩
theorem a_nopp {m : Addr → Mark} (hx : XOk x X) (he : ExtC P o (Extern.Race.marked m) [X]) : OpOk P o (oNopp x) := by
  intro en h nx κ w0 pd θ a w hE hR e
  obtain ⟨v, hv, hr⟩ := hx en
  simp only [oNopp, hv] at e
  obtain ⟨ob, off, rfl, e1⟩ := asP_true e
  obtain ⟨hX, hh⟩ := (hr θ a hE).p
  refine ⟨undef, .tuple #[], θ, h, nx, w, .value _, .refl θ, ⟨trivial, rfl⟩, hR, e1, he.run ?_, rfl⟩
  simp [Extern.Race.marked, Extern.Race.at_, hX, Extern.Race.none_]
/-- by its name -/
theorem extC {c : Call} {f : FuncId} {fn : Func} {n : String} {e : Array Value → Sem Value} (ho : o.op = .call c) (hc : c.callee = .value (.func f)) (hf : P.funcs[f]? = some fn) (hb : fn.body.isNone = true) (hog : (fn.origin == fn.name || fn.origin == "") = true) (hn : fn.name = n)
    (h0 : (n == "runtime.NumGoroutine") = false) (h1 : (Extern.allNextRows.lookup n).isNone = true) (h2 : (Extern.allGenericRows.lookup n).isNone = true) (h3 : (Extern.allTypedRows.lookup n).isNone = true) (h4 : Extern.allRows.lookup n = some e) : ExtC P o e c.args.toList where
  run := by
    intro a w w' v hrun
    refine ext_run ho hc hf hb (by rw [hn]; exact h0) (next_none hn hog h1 (by kernel_rfl)) (find_some hn h2 h3 h4) ?_
    have : (c.args.toList.map a.eval).toArray = c.args.map a.eval := by apply Array.ext'; simp
    rw [this] at hrun
    exact hrun
theorem len_two {α : Type} : ∀ {l : List α}, l.length = 2 → ∃ a b, l = [a, b]
  | [a, b], _ => ⟨a, b, rfl⟩
theorem len_three {α : Type} : ∀ {l : List α}, l.length = 3 → ∃ a b c, l = [a, b, c]
  | [a, b, c], _ => ⟨a, b, c, rfl⟩
/-- all of them -/
theorem ext_ok {c : Call} {f : FuncId} {fn : Func} {xs : List AM.X} (hxs : omap trX c.args.toList = some xs) (ho : o.op = .call c) (hc : c.callee = .value (.func f)) (hf : P.funcs[f]? = some fn) (hb : fn.body.isNone = true) (hog : (fn.origin == fn.name || fn.origin == "") = true) :
    OpOk P o (dI (trExt fn.name xs)) := by
  have hbad : OpOk P o oBad := fun en h nx κ w0 pd θ a w _ _ e => by cases e
  have mk : ∀ {n : String} {e : Array Value → Sem Value}, fn.name = n → (n == "runtime.NumGoroutine") = false → (Extern.allNextRows.lookup n).isNone = true → (Extern.allGenericRows.lookup n).isNone = true → (Extern.allTypedRows.lookup n).isNone = true → Extern.allRows.lookup n = some e → ExtC P o e c.args.toList :=
    fun hn h0 h1 h2 h3 h4 => extC ho hc hf hb hog hn h0 h1 h2 h3 h4
  obtain ⟨hlen, hget⟩ := omap_some hxs
  unfold trExt
  split
  · have hnil : c.args.toList = [] := List.eq_nil_of_length_eq_zero (by simpa using hlen)
    split
    · rename_i hn
      have := mk (e := fun _ => do mark .disable; pure Extern.Race.none_) (eq_of_beq hn) (by kernel_rfl) (by kernel_rfl) (by kernel_rfl) (by kernel_rfl) (by kernel_rfl)
      rw [hnil] at this
      exact a_nop this (fun w => rfl)
    · split
      · rename_i hn
        have := mk (e := fun _ => do mark .enable; pure Extern.Race.none_) (eq_of_beq hn) (by kernel_rfl) (by kernel_rfl) (by kernel_rfl) (by kernel_rfl) (by kernel_rfl)
        rw [hnil] at this
        exact a_nop this (fun w => rfl)
      · exact hbad
  · rename_i x
    obtain ⟨Y, hY⟩ : ∃ Y, c.args.toList = [Y] := List.length_eq_one_iff.1 (by simpa using hlen)
    obtain ⟨x', hx1, hx2⟩ := hget 0 Y (by rw [hY]; rfl)
    have : x' = x := by simpa using hx1.symm
    subst this
    have hx := x_ok hx2
    rw [hY] at mk
    split
    · rename_i hn; exact a_ald hx (mk (eq_of_beq hn) (by kernel_rfl) (by kernel_rfl) (by kernel_rfl) (by kernel_rfl) (by kernel_rfl))
    · split
      · rename_i hn; exact a_ald hx (mk (eq_of_beq hn) (by kernel_rfl) (by kernel_rfl) (by kernel_rfl) (by kernel_rfl) (by kernel_rfl))
      · split
        · rename_i hn; exact a_ald hx (mk (eq_of_beq hn) (by kernel_rfl) (by kernel_rfl) (by kernel_rfl) (by kernel_rfl) (by kernel_rfl))
        · split
          · rename_i hn; exact a_ald hx (mk (eq_of_beq hn) (by kernel_rfl) (by kernel_rfl) (by kernel_rfl) (by kernel_rfl) (by kernel_rfl))
          · split
            · rename_i hn; exact a_nopp (m := .acquire) hx (mk (eq_of_beq hn) (by kernel_rfl) (by kernel_rfl) (by kernel_rfl) (by kernel_rfl) (by kernel_rfl))
            · split
              · rename_i hn; exact a_nopp (m := .release) hx (mk (eq_of_beq hn) (by kernel_rfl) (by kernel_rfl) (by kernel_rfl) (by kernel_rfl) (by kernel_rfl))
              · split
                · rename_i hn; exact a_nopp (m := .releaseMerge) hx (mk (eq_of_beq hn) (by kernel_rfl) (by kernel_rfl) (by kernel_rfl) (by kernel_rfl) (by kernel_rfl))
                · exact hbad
  · rename_i x y
    obtain ⟨U, V, hY⟩ : ∃ U V, c.args.toList = [U, V] := len_two (by simpa using hlen)
    obtain ⟨x', hx1, hx2⟩ := hget 0 U (by rw [hY]; rfl)
    obtain ⟨y', hy1, hy2⟩ := hget 1 V (by rw [hY]; rfl)
    have : x' = x := by simpa using hx1.symm
    subst this
    have : y' = y := by simpa using hy1.symm
    subst this
    have hx := x_ok hx2
    have hy := x_ok hy2
    rw [hY] at mk
    split
    · rename_i hn; exact a_ast hx hy (mk (eq_of_beq hn) (by kernel_rfl) (by kernel_rfl) (by kernel_rfl) (by kernel_rfl) (by kernel_rfl))
    · split
      · rename_i hn; exact a_ast hx hy (mk (eq_of_beq hn) (by kernel_rfl) (by kernel_rfl) (by kernel_rfl) (by kernel_rfl) (by kernel_rfl))
      · split
        · rename_i hn; exact a_ast hx hy (mk (eq_of_beq hn) (by kernel_rfl) (by kernel_rfl) (by kernel_rfl) (by kernel_rfl) (by kernel_rfl))
        · split
          · rename_i hn; exact a_aad hx hy (mk (eq_of_beq hn) (by kernel_rfl) (by kernel_rfl) (by kernel_rfl) (by kernel_rfl) (by kernel_rfl))
          · split
            · rename_i hn; exact a_aad hx hy (mk (eq_of_beq hn) (by kernel_rfl) (by kernel_rfl) (by kernel_rfl) (by kernel_rfl) (by kernel_rfl))
            · split
              · rename_i hn; exact a_aad hx hy (mk (eq_of_beq hn) (by kernel_rfl) (by kernel_rfl) (by kernel_rfl) (by kernel_rfl) (by kernel_rfl))
              · exact hbad
  · rename_i x y z
    obtain ⟨U, V, W, hY⟩ : ∃ U V W, c.args.toList = [U, V, W] := len_three (by simpa using hlen)
    obtain ⟨x', hx1, hx2⟩ := hget 0 U (by rw [hY]; rfl)
    obtain ⟨y', hy1, hy2⟩ := hget 1 V (by rw [hY]; rfl)
    obtain ⟨z', hz1, hz2⟩ := hget 2 W (by rw [hY]; rfl)
    have : x' = x := by simpa using hx1.symm
    subst this
    have : y' = y := by simpa using hy1.symm
    subst this
    have : z' = z := by simpa using hz1.symm
    subst this
    have hx := x_ok hx2
    have hy := x_ok hy2
    have hz := x_ok hz2
    rw [hY] at mk
    split
    · rename_i hn; exact a_acs hx hy hz (mk (eq_of_beq hn) (by kernel_rfl) (by kernel_rfl) (by kernel_rfl) (by kernel_rfl) (by kernel_rfl))
    · split
      · rename_i hn; exact a_acs hx hy hz (mk (eq_of_beq hn) (by kernel_rfl) (by kernel_rfl) (by kernel_rfl) (by kernel_rfl) (by kernel_rfl))
      · split
        · rename_i hn; exact a_acs hx hy hz (mk (eq_of_beq hn) (by kernel_rfl) (by kernel_rfl) (by kernel_rfl) (by kernel_rfl) (by kernel_rfl))
        · exact hbad
  · exact hbad
end
end Go.AM
