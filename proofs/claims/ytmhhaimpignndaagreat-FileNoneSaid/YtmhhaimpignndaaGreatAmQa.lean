/-
  AM, 18a: rows made noughts, rows shared with texts, the entry of an iteration. Conditions: none.
-/
import Derived.Test.YtmhhaimpignndaaGreatAmQ
namespace Go.AM
open Go

section
variable {P : Program} {o : Oper} {x y z : XF} {X Y Z : Operand}
theorem lastK_eq : ∀ (l : List Nat) (κ : Nat → R) (d : R), @List.rec Nat (fun _ => R → R) (fun d => d) (fun n _ ih _ => ih (κ n)) l d = (match l.getLast? with | some n => κ n | none => d)
  | [], κ, d => rfl
  | [n], κ, d => rfl
  | n :: m :: l, κ, d => by
    have := lastK_eq (m :: l) κ (κ n)
    show @List.rec Nat (fun _ => R → R) (fun d => d) (fun n _ ih _ => ih (κ n)) (m :: l) (κ n) = _
    rw [this, List.getLast?_cons_cons]
    cases h : (m :: l).getLast? with
    | none => simp at h
    | some q => rfl
theorem lastK_true {l : List Nat} {κ : Nat → R} (e : lastK l κ = true) : ∃ n, l.getLast? = some n ∧ κ n = true := by
  have e : (match l.getLast? with | some n => κ n | none => false) = true := (lastK_eq l κ false).symm.trans e
  split at e
  · rename_i n hn; exact ⟨n, hn, e⟩
  · cases e
theorem bornK_true {b : Nat} {κ : AV → AV → R} {θ : Th} : ∀ {es : List ME}, bornK b κ es = true → ∃ k v b', ME.mk k v b' ∈ es ∧ κ k v = true ∧ (es.map (meV θ)).find? (·.born == b) = some (meV θ (.mk k v b'))
  | [], e => by cases e
  | .mk k v b' :: es, e => by
    have e : br (Nat.beq b' b) (κ k v) (bornK b κ es) = true := e
    rcases br_true e with ⟨h1, h2⟩ | ⟨h1, h2⟩
    · refine ⟨k, v, b', List.mem_cons_self .., h2, ?_⟩
      have : (b' == b) = true := beq_iff_eq.2 (Nat.eq_of_beq_eq_true h1)
      simp only [List.map_cons, List.find?_cons]
      have h3 : ((meV θ (.mk k v b')).born == b) = true := this
      rw [h3]
    · obtain ⟨k2, v2, b2, g1, g2, g3⟩ := bornK_true (θ := θ) h2
      refine ⟨k2, v2, b2, List.mem_cons_of_mem _ g1, g2, ?_⟩
      have : (b' == b) = false := beq_eq_false_iff_ne.2 (fun h => by rw [h, Nat.beq_refl] at h1; cases h1)
      simp only [List.map_cons, List.find?_cons]
      have h3 : ((meV θ (.mk k v b')).born == b) = false := this
      rw [h3]
      exact g3
theorem a_ety (hx : XOk x X) (ho : o.op = .entry X) : OpOk P o (oEty x) := by
  intro en h nx κ w0 pd θ a w hE hR e
  obtain ⟨v, hv, hr⟩ := hx en
  simp only [oEty, hv] at e
  obtain ⟨r, off, rfl, e1⟩ := asP_true e
  obtain ⟨hoff, e2⟩ := br_t e1
  have hoff := Nat.eq_of_beq_eq_true hoff
  subst hoff
  obtain ⟨hp, hh⟩ := (hr θ a hE).p
  obtain ⟨ob, hb, e3⟩ := get_true e2
  have hor := hR.obj_ hh hb
  cases ob <;> first | (cases e3; done) | skip
  rename_i m since seen st
  obtain ⟨hm, hk, hbas⟩ := hor
  cases m with
  | none => cases e3
  | some m =>
    have hmh := hk m rfl
    have e3 : lastK seen (fun b => get m h (asMp fun es c => br (Nat.beq c st) (bornK b (fun k v => κ (.tu [k, v]) h nx) es) false)) = true := e3
    obtain ⟨stamp, hst, e4⟩ := lastK_true e3
    obtain ⟨ob2, hb2, e5⟩ := get_true e4
    obtain ⟨es, cl, rfl, e6⟩ := asMp_true e5
    obtain ⟨hc, e7⟩ := br_t e6
    have hc := Nat.eq_of_beq_eq_true hc
    subst hc
    obtain ⟨hmm, hes⟩ := hR.obj_ hmh hb2
    obtain ⟨k, v, b', g1, g2, g3⟩ := bornK_true (θ := θ) e7
    have hok := hes _ g1
    refine ⟨.tu [k, v], .tuple #[toV θ k, toV θ v], θ, h, nx, w, .value _, .refl θ, ⟨⟨hok.1, hok.2, trivial⟩, rfl⟩, hR, g2, ?_, rfl⟩
    have hback : seen.toArray.back? = some stamp := by simp [hst]
    have hfind : (es.map (meV θ)).toArray.find? (·.born == stamp) = some (meV θ (.mk k v b')) := by simpa using g3
    have hg1 : (getObj (θ.blk r)).run P w = .ok (.mapIter ((some m).map θ.blk) since seen.toArray cl) w := by simp [getObj, Sem.run, hm]
    have hg2 : (getObj (θ.blk m)).run P w = .ok (.map (es.map (meV θ)).toArray cl) w := by simp [getObj, Sem.run, hmm]
    simp only [execOp, ho, hp, hbas, Nat.add_zero, Instr.entry, Sem.run_bind, hg1, Result.andThen, Option.map_some, hback, hg2, bne_self_eq_false, Bool.false_eq_true, if_false, Sem.run_pure]
    rw [hfind]
    simp only [Sem.run_pure]
    rfl
theorem a_clr {t el : TypeId} {zz : List AV} {c : Call} (hx : XOk x X) (hu : P.underlying t = some (.slice el)) (hz : zeroT P el = some zz) (hc : c.callee = .builtin .clear) (ha : c.args.toList = [X]) (ht : c.argTypes.toList = [t]) (ho : o.op = .call c) : OpOk P o (oClr x zz) := by
  intro en h nx κ w0 pd θ a w hE hR e
  obtain ⟨v, hv, hr⟩ := hx en
  simp only [oClr, hv] at e
  have run : ∀ {u w'}, (Builtin.clear_ #[t] o.type #[a.eval X]).run P w = .ok u w' → (execOp a.eval o).run P w = .ok (.value u) w' := by
    intro u w' hw
    obtain ⟨ca, cargs, ct⟩ := c
    have ha' : cargs = #[X] := by cases cargs; simp_all
    have ht' : ct = #[t] := by cases ct; simp_all
    simp only at hc
    subst ha' ht' hc
    simp only [execOp, ho, resolve, invoke, builtin, Sem.run_bind, Sem.run_pure, Result.andThen, List.map_toArray, List.map_cons, List.map_nil, hw]
  obtain ⟨ti, zv, i1, i2, i3, i4⟩ := zeroT_some hz
  cases v <;> first | (cases e; done) | skip
  · rename_i ob off len cap
    obtain ⟨hhas, c, hX⟩ := (hr θ a hE).sl
    cases len with
    | zero =>
      refine ⟨undef, Go.undef, θ, h, nx, w, .value _, .refl θ, vr_undef θ, hR, e, run ?_, rfl⟩
      simp [Builtin.clear_, hX, run_underlying hu]
      rfl
    | succ len =>
      have e : repK zz (len + 1) (fun vs => wrK ob off vs h fun h => κ undef h nx) = true := e
      rw [repK_eq] at e
      obtain ⟨h', k1, k2, k3⟩ := wr_ok hR hhas (rep_oks (i4 θ).1 (len + 1)) (rep_all i3 (len + 1)) e
      have hst := k3.store (toVs_one (rep_all i3 (len + 1))) P
      refine ⟨undef, Go.undef, θ, h', nx, _, .value _, .refl θ, vr_undef θ, k2, k1, run ?_, rfl⟩
      have hz0 : Builtin.zeroCells zv.cells (len + 1) = (toVs θ (rep (len + 1) zz)).toArray := by
        have hsz : zv.cells.size = zz.length := by rw [(i4 θ).2]; simp
        have e : (len + 1) * zv.cells.size = (len + 1) * zz.length := by rw [hsz]
        unfold Builtin.zeroCells
        rw [e]
        exact zeros_eq (i4 θ).2 (len + 1)
      simp only [Builtin.clear_, List.getElem?_toArray, List.getElem?_cons_zero, hX, Sem.run_bind, run_underlying hu, Result.andThen, zeroValue, typeInfo, i1, i2, Sem.run_pure, run_program, hz0, hst]
      rfl
  · have hX : a.eval X = .slice none 0 0 := (hr θ a hE).2
    refine ⟨undef, Go.undef, θ, h, nx, w, .value _, .refl θ, vr_undef θ, hR, e, run ?_, rfl⟩
    simp [Builtin.clear_, hX, run_underlying hu]
    rfl
/-- a mark behind a row's block -/
theorem freeze_end {w : World} {b : Nat} {cc : Array Value} {ty : TypeId} {fz : Nat × Nat} (o1 : w.heap[b]? = some (.cells cc ty fz)) (o4 : Fz fz cc.size) :
    ∃ fz', Fz fz' cc.size ∧ (w.freeze { block := b, off := cc.size } 1) = { w with heap := w.heap.setIfInBounds b (.cells cc ty fz') } := by
  refine ⟨if fz.1 == fz.2 then (cc.size, cc.size + 1) else (min fz.1 cc.size, max fz.2 (cc.size + 1)), ?_, ?_⟩
  · split
    · exact .inr (Nat.le_refl _)
    · rename_i hne
      rcases o4 with rfl | h
      · exact absurd rfl hne
      · exact .inr (Nat.le_min.2 ⟨h, Nat.le_refl _⟩)
  · have hlt : b < w.heap.size := (Array.getElem?_eq_some_iff.1 o1).1
    have hget : w.heap[b] = .cells cc ty fz := (Array.getElem?_eq_some_iff.1 o1).2
    simp only [World.freeze, Nat.one_ne_zero, if_false]
    congr 1
    apply Array.ext_getElem?
    intro i
    rw [Array.getElem?_modify]
    by_cases hi : b = i
    · subst hi
      simp only [if_true, o1, Option.map_some]
      rw [Array.getElem?_setIfInBounds_self_of_lt hlt]
    · rw [if_neg hi, Array.getElem?_setIfInBounds_ne hi]
theorem a_msh {t el : TypeId} (hx : XOk x X) (hu : P.underlying t = some (.slice el)) (h8 : P.underlying el = some (.int .u8)) (ho : o.op = .convert t t X) : OpOk P o (oMsh x) := by
  intro en h nx κ w0 pd θ a w hE hR e
  obtain ⟨v, hv, hr⟩ := hx en
  simp only [oMsh, hv] at e
  cases v <;> first | (cases e; done) | skip
  rename_i ob off len cap
  obtain ⟨hhas, c, hX⟩ := (hr θ a hE).sl
  obtain ⟨ab, hab, e1⟩ := get_true e
  have run : ∀ {cc : Array Value} {ty : TypeId} {fz fz' : Nat × Nat}, w.heap[θ.blk ob]? = some (.cells cc ty fz) → (w.freeze { block := θ.blk ob, off := cc.size } 1) = { w with heap := w.heap.setIfInBounds (θ.blk ob) (.cells cc ty fz') } →
      (execOp a.eval o).run P w = .ok (.value (a.eval X)) { w with heap := w.heap.setIfInBounds (θ.blk ob) (.cells cc ty fz') } := by
    intro cc ty fz fz' o1 hw'
    have hshape : (shape (θ.blk ob)).run P w = .ok (some (ty, cc.size)) w := by simp [shape, Sem.run, World.shape?, o1]
    simp only [execOp, ho, hX, convert, Sem.run_bind, run_underlying hu, Result.andThen, beq_self_eq_true, run_underlying h8, markStringish, hshape, freeze, Sem.run, Sem.run_pure]
    rw [hw']
  cases ab <;> first | (cases e1; done) | skip
  · rename_i n es z zl d tt top sh
    obtain ⟨ht, e2⟩ := br_t e1
    subst ht
    obtain ⟨cc, ty, fz, o1, o2, o3, o4, o5, o6⟩ := hR.obj_ hhas hab
    obtain ⟨fz', hfz, hw'⟩ := freeze_end o1 o4
    rcases br_true e2 with ⟨g1, e3⟩ | ⟨g1, e3⟩
    · rw [put_eq, killK_eq] at e3
      have hz : es = 0 → zl = 0 := fun he => by
        subst he
        cases hz : Nat.beq zl 0 with
        | true => exact Nat.eq_of_beq_eq_true hz
        | false => rw [hz] at g1; cases g1
      have hup := hR.upd hhas hab rfl (w' := { w with heap := w.heap.setIfInBounds (θ.blk ob) (.cells cc ty fz') }) (a' := .ce n es z zl d tt true []) (by simp) (fun b hb => by simp [Array.getElem?_setIfInBounds_ne (Ne.symm hb)]) ⟨rfl, rfl, rfl⟩
        ⟨cc, ty, fz', heap_set o1, o2, o3, hfz, fun h => ⟨(o5 h).1, (o5 h).2.1, fun hn => absurd (hz h) hn⟩, o6⟩ (fun x hx => by cases hx)
      exact ⟨.sl ob off len cap, a.eval X, θ, _, nx, _, .value _, .refl θ, hr θ a hE, hup, e3, run o1 hw', rfl⟩
    · have hes : es = 0 := by
        cases hb : Nat.blt 0 es with
        | true => rw [hb] at g1; cases g1
        | false => 
          have : ¬ (0 < es) := fun h => by have : Nat.blt 0 es = true := by simpa [Nat.blt_eq] using h
                                           rw [hb] at this; cases this
          omega
      obtain ⟨l, k1, k2, k3⟩ := cellsT_true e3
      rw [k3, put_eq, killK_eq] at e3
      subst hes
      have hk : ∀ i, i < n → ∃ v, l[i]? = some v ∧ Ok θ v ∧ one v = true ∧ cc[θ.bas ob + i]? = some (toV θ v) := by
        intro i hi
        obtain ⟨v, q1, q2, q3, q4⟩ := o3 i hi
        have hl : i < l.length := by omega
        have := k2 i l[i] (List.getElem?_eq_getElem hl)
        rw [Nat.zero_add, q1] at this
        injection this with this
        exact ⟨v, by rw [List.getElem?_eq_getElem hl, this], q2, q3, q4⟩
      have hup := hR.upd hhas hab rfl (w' := { w with heap := w.heap.setIfInBounds (θ.blk ob) (.cells cc ty fz') }) (a' := .ce n 0 l 0 (deep n) (E (deep n)) true []) (by simp) (fun b hb => by simp [Array.getElem?_setIfInBounds_ne (Ne.symm hb)]) ⟨rfl, rfl, rfl⟩
        ⟨cc, ty, fz', heap_set o1, deep_ge _, fun i hi => by rw [cellO_E, Nat.mod_zero]; exact hk i hi, hfz, fun h => ⟨(o5 h).1, (o5 h).2.1, fun hn => absurd rfl hn⟩, fun h => absurd rfl h⟩ (fun x hx => by cases hx)
      exact ⟨.sl ob off len cap, a.eval X, θ, _, nx, _, .value _, .refl θ, hr θ a hE, hup, e3, run o1 hw', rfl⟩
  · rename_i l
    have e1 : fnat (lenN AV l) (fun n => put ob (.ce n 0 l 0 (deep n) (E (deep n)) true []) h fun h => κ (.sl ob off len cap) h nx) = true := e1
    rw [fnat_eq, lenN_eq, put_eq] at e1
    obtain ⟨ty, o1, o2, o3, o4⟩ := hR.obj_ hhas hab
    obtain ⟨fz', hfz, hw'⟩ := freeze_end o1 (.inl rfl)
    have hup := hR.upd hhas hab rfl (w' := { w with heap := w.heap.setIfInBounds (θ.blk ob) (.cells (toVs θ l).toArray ty fz') }) (a' := .ce l.length 0 l 0 (deep l.length) (E (deep l.length)) true []) (by simp) (fun b hb => by simp [Array.getElem?_setIfInBounds_ne (Ne.symm hb)]) ⟨rfl, rfl, rfl⟩
      ⟨_, ty, fz', heap_set o1, deep_ge _, fun i hi => ⟨l[i], by rw [cellO_E, Nat.mod_zero]; exact List.getElem?_eq_getElem hi, Oks_iff.1 o3 _ (List.getElem_mem hi), List.all_eq_true.1 o4 _ (List.getElem_mem hi),
        by rw [o2, Nat.zero_add, List.getElem?_toArray, toVs_get, List.getElem?_eq_getElem hi]; rfl⟩, hfz, fun _ => ⟨o2, by simp, fun hn => absurd rfl hn⟩, fun h => absurd rfl h⟩ (fun x hx => by cases hx)
    exact ⟨.sl ob off len cap, a.eval X, θ, _, nx, _, .value _, .refl θ, hr θ a hE, hup, e1, run o1 hw', rfl⟩
end
end Go.AM
