/-
  AM, 14: operations that act: stores, maps, iterations, conversions. Conditions: none.
-/
import Derived.Test.YtmhhaimpignndaaGreatAmL
import Derived.LaidEql
namespace Go.AM
open Go

/-- what an operation answers -/
def fin : Next → Option Value
  | .value v => some v
  | .skip => some Go.undef
  | _ => none
/-- an operation -/
def OpOk (P : Program) (o : Oper) (f : OpF) : Prop := ∀ en h nx κ w0 pd θ (a : Act) w, ER θ en a.tmps → HR P w0 pd θ h nx w → f en h nx κ = true →
  ∃ v u θ' h' nx' w' n, θ.le θ' ∧ VR θ' v u ∧ HR P w0 pd θ' h' nx' w' ∧ κ v h' nx' = true ∧ (execOp a.eval o).run P w = .ok n w' ∧ fin n = some u
section
variable {P : Program} {o : Oper} {x y z : XF} {X Y Z : Operand}
theorem ReadOk.op {f : OpF} (hf : ReadOk P o f) : OpOk P o f := fun en h nx κ w0 pd θ a w hE hR e =>
  let ⟨v, h1, h2⟩ := hf en h nx κ e
  let ⟨u, h3, h4⟩ := h2 θ a w w0 pd nx hE hR
  ⟨v, u, θ, h, nx, w, _, .refl θ, h3, hR, by have h5 := h1 h (Ext.refl h) nx κ; rw [h5] at e; exact e, h4, rfl⟩
theorem NewOk.op {f : OpF} (hf : NewOk P o f) : OpOk P o f := by
  intro en h nx κ w0 pd θ a w hE hR e
  obtain ⟨a0, v, h1, h2, h3, _, h5⟩ := hf en h nx κ e
  obtain ⟨u, θ', w', k1, k2, k3, k4⟩ := h5 w0 _ θ a w _ _ nx hE (hR.pended h2 a0) (List.mem_cons_self ..)
  refine ⟨v nx, u, θ', _, _, w', _, k1, k2, ?_, h3, k4, rfl⟩
  have : ((nx, a0) :: pd).filter (fun q => q.1 != nx) = pd := by
    rw [List.filter_cons]
    simp only [bne_self_eq_false, Bool.false_eq_true, if_false]
    apply List.filter_eq_self.2
    intro q hq
    have := (hR.pend q.1 q.2 hq).2.1
    simp; omega
  rw [this] at k3
  exact k3
theorem vr_undef (θ : Th) : VR θ undef Go.undef := ⟨trivial, rfl⟩

/-! ### Stores -/
theorem a_st {t : TypeId} {n : Nat} (hx : XOk x X) (hy : XOk y Y) (hn : sizeT P t = some n) (ho : o.op = .store t X Y) : OpOk P o (oSt x y n) := by
  intro en h nx κ w0 pd θ a w hE hR e
  obtain ⟨v, hv, hr⟩ := hx en
  obtain ⟨v2, hv2, hr2⟩ := hy en
  simp only [oSt, hv, hv2] at e
  obtain ⟨b, off, rfl, e1⟩ := asP_true e
  obtain ⟨_, e2, hcr⟩ := cellsK_true e1
  obtain ⟨hs, e3⟩ := br_t e2
  have hs' : (cellsV v2).length = n := by rw [← lenN_eq]; exact Nat.eq_of_beq_eq_true hs
  obtain ⟨q1, q2, q3⟩ := hcr (hr2 θ a hE)
  obtain ⟨hp, hh⟩ := (hr θ a hE).p
  obtain ⟨h', k1, k2, k3⟩ := wr_ok hR hh q1 q2 e3
  refine ⟨undef, Go.undef, θ, h', nx, _, .skip, .refl θ, vr_undef θ, k2, k1, ?_, rfl⟩
  have hsz : (a.eval Y).cells.size = n := by rw [← Array.length_toList, q3, toVs_length]; exact hs'
  have hst := k3.store (toVs_one q2) P
  simp only [execOp, ho, Instr.storeAt, hp, Instr.sureAddr, storeVar, Sem.run_bind, Sem.run_pure, Result.andThen, run_size hn, hsz, q3, hst, ne_eq, not_true, if_false]

/-! ### Maps -/
theorem run_setMap {w : World} {r : Nat} {es : Array MapEntry} {clock : Nat} (ob : Obj) (hb : w.heap[r]? = some (.map es clock)) : (setObj r ob).run P w = .ok () { w with heap := w.heap.setIfInBounds r ob } := by
  simp [setObj, Sem.run, hb]
theorem heap_set {w : World} {r : Nat} {ob ob' : Obj} (h : w.heap[r]? = some ob') : (({ w with heap := w.heap.setIfInBounds r ob } : World)).heap[r]? = some ob := by
  have : r < w.heap.size := (Array.getElem?_eq_some_iff.1 h).1
  simp [this]
/-- a map's object turned -/
theorem map_upd {w0 w : World} {pd : List (Nat × AO)} {θ : Th} {h : H} {nx : Nat} (hR : HR P w0 pd θ h nx w) {b : Nat} {a a' : AO} {ob ob' : Obj} (hh : θ.has b) (hb : obj h b = some a) (hw : a.wr = true) (hsh : a.sh = []) (hsh' : a'.sh = [])
    (hob : w.heap[θ.blk b]? = some ob') (hor : OR P θ { w with heap := w.heap.setIfInBounds (θ.blk b) ob } b a') : HR P w0 pd θ (setO h b a') nx { w with heap := w.heap.setIfInBounds (θ.blk b) ob } := by
  have := hR.upd hh hb hw (w' := { w with heap := w.heap.setIfInBounds (θ.blk b) ob }) (a' := a') (by simp) (fun c hc => by simp [Array.getElem?_setIfInBounds_ne (Ne.symm hc)]) ⟨rfl, rfl, rfl⟩ hor (by rw [hsh']; simp)
  rw [hsh] at this
  exact this
theorem setE_get {k v : AV} : ∀ {es : List ME} {i : Nat}, ∀ j, (setE k v es i)[j]? = if j = i then (es[i]?).map (fun | .mk _ _ b => .mk k v b) else es[j]?
  | [], i, j => by simp [setE]
  | .mk k' v' b :: es, 0, j => by
    cases j with
    | zero => simp [setE]
    | succ j => simp [setE]
  | e :: es, i + 1, j => by
    cases j with
    | zero => simp [setE]
    | succ j => simp [setE, setE_get (es := es) (i := i) j]
theorem setKy_get {k : AV} : ∀ {es : List ME} {i : Nat}, ∀ j, (setKy k es i)[j]? = if j = i then (es[i]?).map (fun | .mk _ v b => .mk k v b) else es[j]?
  | [], i, j => by simp [setKy]
  | .mk k' v' b :: es, 0, j => by
    cases j with
    | zero => simp [setKy]
    | succ j => simp [setKy]
  | e :: es, i + 1, j => by
    cases j with
    | zero => simp [setKy]
    | succ j => simp [setKy, setKy_get (es := es) (i := i) j]
theorem mem_of_get {es es' : List ME} {θ : Th} (h : ∀ e ∈ es, meOk θ e) {i : Nat} {f : ME → ME} (hf : ∀ e, es[i]? = some e → meOk θ (f e)) (hg : ∀ j, es'[j]? = if j = i then (es[i]?).map f else es[j]?) : ∀ e ∈ es', meOk θ e := by
  intro e he
  obtain ⟨j, hj⟩ := List.getElem?_of_mem he
  rw [hg j] at hj
  split at hj
  · obtain ⟨e', h1, rfl⟩ := Option.map_eq_some_iff.1 hj
    exact hf e' h1
  · exact h e (List.mem_of_getElem? hj)
theorem map_modify {es es' : List ME} {θ : Th} {i : Nat} {f : ME → ME} {g : MapEntry → MapEntry} (hg : ∀ j, es'[j]? = if j = i then (es[i]?).map f else es[j]?) (hfg : ∀ e, es[i]? = some e → meV θ (f e) = g (meV θ e)) :
    (es.map (meV θ)).toArray.modify i g = (es'.map (meV θ)).toArray := by
  apply Array.ext_getElem?
  intro j
  rw [Array.getElem?_modify]
  simp only [List.getElem?_toArray, List.getElem?_map, hg j]
  by_cases hj : i = j
  · subst hj
    rw [if_pos rfl, if_pos rfl]
    cases he : es[i]? with
    | none => rfl
    | some e => simp [hfg e he]
  · rw [if_neg hj, if_neg (Ne.symm hj)]
theorem keyStays {w : World} {old new : Value} (h : Instr.sameBits 10000 old new = true) : (Instr.keyThatStays old new).run P w = .ok new w := by
  simp [Instr.keyThatStays, h]
theorem a_mpu {t kt el : TypeId} {g : Bool} {ks : List Nat} (hx : XOk x X) (hy : XOk y Y) (hz : XOk z Z) (hu : P.underlying t = some (.map kt el)) (hf : flatT P kt = some (g, ks)) (ho : o.op = .mapUpdate t X Y Z ∨ o.op = .insert t X Y Z) : OpOk P o (oMpu g ks x y z) := by
  intro en h nx κ w0 pd θ a w hE hR e
  obtain ⟨v, hv, hr⟩ := hx en
  obtain ⟨k, hk, hrk⟩ := hy en
  obtain ⟨q, hq, hrq⟩ := hz en
  simp only [oMpu, hv, hk, hq] at e
  obtain ⟨b, rfl, e1⟩ := asM_true e
  obtain ⟨e2, _, hck⟩ := kyT_ok hf e1
  obtain ⟨ob, hb, e3⟩ := get_true e2
  obtain ⟨es, cl, rfl, e4⟩ := asMp_true e3
  obtain ⟨r, h1, h2⟩ := updK_true (eqT_det hf) e4
  rw [h2] at e4
  obtain ⟨hp, hh⟩ := (hr θ a hE).m
  obtain ⟨hm, hes⟩ := hR.obj_ hh hb
  obtain ⟨hfk, hsame⟩ := find_hit hf h1 (hrk θ a hE) hes w
  have hck := hck θ _ (hrk θ a hE) false w
  have run : (Instr.mapUpdate t (.map (some (θ.blk b))) (a.eval Y) (a.eval Z)).run P w = (do
      match r.map fun i => (i, toV θ (vat es i)) with
      | some (i, _) => do
        let key ← Instr.keyThatStays ((((es.map (meV θ)).toArray[i]?).map (·.key)).getD (a.eval Y)) (a.eval Y)
        setObj (θ.blk b) (.map ((es.map (meV θ)).toArray.modify i fun e => { e with key, val := a.eval Z }) cl)
      | none => setObj (θ.blk b) (.map ((es.map (meV θ)).toArray.push { key := a.eval Y, val := a.eval Z, born := cl }) (cl + 1)) : Sem Unit).run P w := by
    simp only [Instr.mapUpdate, Sem.run_bind, run_underlying hu, Result.andThen, run_getMap hm, hck, List.toList_toArray, hfk]
    cases r <;> rfl
  have fin' : ∀ {w'}, (Instr.mapUpdate t (.map (some (θ.blk b))) (a.eval Y) (a.eval Z)).run P w = .ok () w' → (execOp a.eval o).run P w = .ok .skip w' := by
    intro w' hw
    rcases ho with ho | ho <;> simp only [execOp, ho, hp, Sem.run_bind, hw, Result.andThen, Sem.run_pure]
  cases r with
  | none =>
    simp only [appK_eq, fnat_eq, put_eq] at e4
    refine ⟨undef, Go.undef, θ, _, nx, _, .skip, .refl θ, vr_undef θ, ?_, e4, fin' (run.trans (run_setMap _ hm)), rfl⟩
    refine map_upd hR hh hb rfl rfl rfl hm ⟨?_, ?_⟩
    · rw [heap_set hm]
      simp [meV, (hrk θ a hE).2, (hrq θ a hE).2]
    · intro e he
      rcases List.mem_append.1 he with he | he
      · exact hes e he
      · rw [List.mem_singleton.1 he]; exact ⟨(hrk θ a hE).1, (hrq θ a hE).1⟩
  | some i =>
    simp only [put_eq] at e4
    obtain ⟨e0, hi, hsb⟩ := hsame i rfl
    have hkey : (((es.map (meV θ)).toArray[i]?).map (·.key)).getD (a.eval Y) = (meV θ e0).key := by simp [hi]
    refine ⟨undef, Go.undef, θ, _, nx, { w with heap := w.heap.setIfInBounds (θ.blk b) (.map ((es.map (meV θ)).toArray.modify i fun e => { e with key := a.eval Y, val := a.eval Z }) cl) }, .skip, .refl θ, vr_undef θ, ?_, e4, fin' (run.trans ?_), rfl⟩
    rotate_left
    · simp only [Option.map_some, hkey, Sem.run_bind, keyStays hsb, Result.andThen]
      exact run_setMap _ hm
    · refine map_upd hR hh hb rfl rfl rfl hm ⟨?_, ?_⟩
      · rw [heap_set hm, map_modify setE_get]
        intro e _
        obtain ⟨k', v', b'⟩ := e
        simp [meV, (hrk θ a hE).2, (hrq θ a hE).2]
      · refine mem_of_get hes ?_ setE_get
        intro e _
        obtain ⟨k', v', b'⟩ := e
        exact ⟨(hrk θ a hE).1, (hrq θ a hE).1⟩
theorem a_mpe {t kt el : TypeId} {g : Bool} {ks : List Nat} {zz : AV} (hx : XOk x X) (hy : XOk y Y) (hu : P.underlying t = some (.map kt el)) (hf : flatT P kt = some (g, ks)) (hz : zeroV P el = some zz) (ho : o.op = .mapEntry t X Y) : OpOk P o (oMpe g ks x y zz) := by
  intro en h nx κ w0 pd θ a w hE hR e
  obtain ⟨v, hv, hr⟩ := hx en
  obtain ⟨k, hk, hrk⟩ := hy en
  simp only [oMpe, hv, hk] at e
  obtain ⟨b, rfl, e1⟩ := asM_true e
  obtain ⟨e2, _, hck⟩ := kyT_ok hf e1
  obtain ⟨ob, hb, e3⟩ := get_true e2
  obtain ⟨es, cl, rfl, e4⟩ := asMp_true e3
  obtain ⟨r, h1, h2⟩ := entK_true (eqT_det hf) e4
  rw [h2] at e4
  obtain ⟨zi, zv, z1, z2, z3⟩ := zeroV_some hz
  obtain ⟨hp, hh⟩ := (hr θ a hE).m
  obtain ⟨hm, hes⟩ := hR.obj_ hh hb
  obtain ⟨hfk, hsame⟩ := find_hit hf h1 (hrk θ a hE) hes w
  have hck := hck θ _ (hrk θ a hE) false w
  have hz' : (zeroValue el).run P w = .ok zv w := by simp [zeroValue, typeInfo, z1, z2]
  have fin' : ∀ {w' u}, (Instr.mapEntry t (.map (some (θ.blk b))) (a.eval Y)).run P w = .ok u w' → (execOp a.eval o).run P w = .ok (.value u) w' := by
    intro w' u hw
    simp only [execOp, ho, hp, Sem.run_bind, hw, Result.andThen, Sem.run_pure]
  cases r with
  | none =>
    simp only [appK_eq, fnat_eq, put_eq] at e4
    refine ⟨.tu [zz, .i 3 (.ofNat cl)], .tuple #[zv, goInt cl], θ, _, nx, _, .value _, .refl θ, ⟨⟨(z3 θ).1, trivial, trivial⟩, by rw [(z3 θ).2]; rfl⟩, ?_, e4, fin' (w' := { w with heap := w.heap.setIfInBounds (θ.blk b) (.map ((es.map (meV θ)).toArray.push { key := a.eval Y, val := zv, born := cl }) (cl + 1)) }) ?_, rfl⟩
    · refine map_upd hR hh hb rfl rfl rfl hm ⟨?_, ?_⟩
      · rw [heap_set hm]
        simp [meV, (hrk θ a hE).2, (z3 θ).2]
      · intro e he
        rcases List.mem_append.1 he with he | he
        · exact hes e he
        · rw [List.mem_singleton.1 he]; exact ⟨(hrk θ a hE).1, (z3 θ).1⟩
    · simp only [Instr.mapEntry, Sem.run_bind, run_underlying hu, Result.andThen, run_getMap hm, hck, List.toList_toArray, hfk, Option.map_none, hz', run_setMap _ hm, Sem.run_pure]
  | some i =>
    simp only [put_eq] at e4
    obtain ⟨e0, hi, hsb⟩ := hsame i rfl
    have hlt := h1.lt i rfl
    have hkey : (((es.map (meV θ)).toArray[i]?).map (·.key)).getD (a.eval Y) = (meV θ e0).key := by simp [hi]
    have hborn : (((es.map (meV θ)).toArray[i]?).map (fun e : MapEntry => (e.born : Int))).getD 0 = (bat es i : Int) := by
      unfold bat
      simp only [List.getElem?_toArray, List.getElem?_map, hi]
      obtain ⟨k', v', b'⟩ := e0
      rfl
    refine ⟨.tu [vat es i, .i 3 (.ofNat (bat es i))], .tuple #[toV θ (vat es i), goInt (bat es i)], θ, _, nx, _, .value _, .refl θ, ⟨⟨vat_ok hlt hes, trivial, trivial⟩, rfl⟩, ?_, e4, fin' (w' := { w with heap := w.heap.setIfInBounds (θ.blk b) (.map ((es.map (meV θ)).toArray.modify i fun e => { e with key := a.eval Y }) cl) }) ?_, rfl⟩
    · refine map_upd hR hh hb rfl rfl rfl hm ⟨?_, ?_⟩
      · rw [heap_set hm, map_modify setKy_get]
        intro e _
        obtain ⟨k', v', b'⟩ := e
        simp [meV, (hrk θ a hE).2]
      · refine mem_of_get hes ?_ setKy_get
        intro e he
        have := hes e (List.mem_of_getElem? he)
        obtain ⟨k', v', b'⟩ := e
        exact ⟨(hrk θ a hE).1, this.2⟩
    · simp only [Instr.mapEntry, Sem.run_bind, run_underlying hu, Result.andThen, run_getMap hm, hck, List.toList_toArray, hfk, Option.map_some, hkey, keyStays hsb, run_setMap _ hm, Sem.run_pure, hborn]
def ME.born : ME → Nat
  | .mk _ _ b => b
def ME.setV (v : AV) : ME → ME
  | .mk k _ b => .mk k v b
theorem ensK_true {s : Nat} {v : AV} : ∀ {es : List ME} {κ : List ME → R}, ensK s v es κ = true → ∃ (i : Nat) (e0 : ME), es[i]? = some e0 ∧ e0.born = s ∧ (∀ (j : Nat) (e : ME), j < i → es[j]? = some e → e.born ≠ s) ∧
    ∃ es' : List ME, κ es' = true ∧ ∀ j : Nat, es'[j]? = if j = i then (es[i]?).map (ME.setV v) else es[j]?
  | [], κ, e => by cases e
  | .mk k' v' b :: es, κ, e => by
    rcases br_true (show br (Nat.beq b s) (κ (.mk k' v b :: es)) (ensK s v es fun r => κ (.mk k' v' b :: r)) = true from e) with ⟨h1, h2⟩ | ⟨h1, h2⟩
    · refine ⟨0, _, rfl, Nat.eq_of_beq_eq_true h1, fun j _ hj => by omega, _, h2, fun j => ?_⟩
      cases j <;> simp [ME.setV]
    · obtain ⟨i, e0, k1, k2, k3, es', k4, k5⟩ := ensK_true h2
      refine ⟨i + 1, e0, by simpa using k1, k2, fun j e hj he => ?_, _, k4, fun j => ?_⟩
      · cases j with
        | zero =>
          simp at he; subst he
          intro hb
          have hb : b = s := hb
          subst hb
          simp at h1
        | succ j => exact k3 j e (by omega) (by simpa using he)
      · cases j with
        | zero => simp
        | succ j => simp [k5 j]
theorem a_ens {t : TypeId} (hx : XOk x X) (hy : XOk y Y) (hz : XOk z Z) (ho : o.op = .entryStore t X Y Z) : OpOk P o (oEns x y z) := by
  intro en h nx κ w0 pd θ a w hE hR e
  obtain ⟨v, hv, hr⟩ := hx en
  obtain ⟨k, hk, hrk⟩ := hy en
  obtain ⟨q, hq, hrq⟩ := hz en
  simp only [oEns, hv, hk, hq] at e
  obtain ⟨b, rfl, e1⟩ := asM_true e
  obtain ⟨kd, s, rfl, e2⟩ := asN_true e1
  obtain ⟨ob, hb, e3⟩ := get_true e2
  obtain ⟨es, cl, rfl, e4⟩ := asMp_true e3
  obtain ⟨i, e0, k1, k2, k3, es', k4, k5⟩ := ensK_true e4
  simp only [put_eq] at k4
  obtain ⟨hp, hh⟩ := (hr θ a hE).m
  obtain ⟨hm, hes⟩ := hR.obj_ hh hb
  have hfi : (es.map (meV θ)).toArray.findIdx? (fun e => (e.born : Int) == (Int.ofNat s)) = some i := by
    rw [List.findIdx?_toArray, List.findIdx?_eq_some_iff_getElem]
    have hlt : i < es.length := (List.getElem?_eq_some_iff.1 k1).1
    refine ⟨by simpa using hlt, ?_, fun j hj => ?_⟩
    · have : es[i] = e0 := (List.getElem?_eq_some_iff.1 k1).2
      obtain ⟨k', v', b'⟩ := e0
      have k2 : b' = s := k2
      simp only [List.getElem_map, this, meV]
      subst k2
      simp
    · have := k3 j _ hj (List.getElem?_eq_getElem (by omega))
      simp only [List.getElem_map]
      cases hej : es[j]'(by omega) with
      | mk k' v' b' =>
        rw [hej] at this
        have this : b' ≠ s := this
        simp only [meV]
        simp only [Int.ofNat_eq_natCast, beq_iff_eq, Int.natCast_inj]
        exact this
  refine ⟨undef, Go.undef, θ, _, nx, { w with heap := w.heap.setIfInBounds (θ.blk b) (.map ((es.map (meV θ)).toArray.modify i fun e => { e with val := a.eval Z }) cl) }, .skip, .refl θ, vr_undef θ, ?_, k4, ?_, rfl⟩
  · refine map_upd hR hh hb rfl rfl rfl hm ⟨?_, ?_⟩
    · rw [heap_set hm, map_modify k5]
      intro e _
      obtain ⟨k', v', b'⟩ := e
      simp [meV, ME.setV, (hrq θ a hE).2]
    · refine mem_of_get hes ?_ k5
      intro e he
      have := hes e (List.mem_of_getElem? he)
      obtain ⟨k', v', b'⟩ := e
      exact ⟨this.1, (hrq θ a hE).1⟩
  · have hY := (hrk θ a hE).i
    simp only [execOp, ho, hp, hY, Instr.entryStore, Sem.run_bind, run_getMap hm, Result.andThen, asInt, asIntOf, Sem.run_pure, hfi, run_setMap _ hm]
theorem erase_map {α β : Type} (f : α → β) : ∀ (l : List α) (i : Nat), (l.map f).eraseIdx i = (l.eraseIdx i).map f
  | [], i => by simp
  | x :: l, 0 => by simp
  | x :: l, i + 1 => by simp [erase_map f l i]
theorem a_dlt {t kt el : TypeId} {g : Bool} {ks : List Nat} {c : Call} {t2 : TypeId} (hx : XOk x X) (hy : XOk y Y) (hu : P.underlying t = some (.map kt el)) (hf : flatT P kt = some (g, ks)) (hc : c.callee = .builtin .delete) (ha : c.args.toList = [X, Y]) (ht : ∃ r, c.argTypes.toList = t :: r)
    (ho : o.op = .call c) : OpOk P o (oDlt g ks x y) := by
  intro en h nx κ w0 pd θ a w hE hR e
  obtain ⟨v, hv, hr⟩ := hx en
  obtain ⟨k, hk, hrk⟩ := hy en
  simp only [oDlt, hv, hk] at e
  obtain ⟨e2, _, hck⟩ := kyT_ok hf e
  obtain ⟨ca, cargs, ct⟩ := c
  have ha' : cargs = #[X, Y] := by cases cargs; simp_all
  obtain ⟨r, ht⟩ := ht
  have ht' : ct[0]? = some t := by rw [← Array.getElem?_toList, ht]; rfl
  simp only at hc
  subst ha' hc
  cases v <;> first | (cases e2; done) | skip
  · rename_i b
    obtain ⟨ob, hb, e3⟩ := get_true e2
    obtain ⟨es, cl, rfl, e4⟩ := asMp_true e3
    obtain ⟨r, h1, h2⟩ := delK_true (eqT_det hf) e4
    rw [h2] at e4
    obtain ⟨hp, hh⟩ := (hr θ a hE).m
    obtain ⟨hm, hes⟩ := hR.obj_ hh hb
    obtain ⟨hfk, _⟩ := find_hit hf h1 (hrk θ a hE) hes w
    have hck := hck θ _ (hrk θ a hE) (es.map (meV θ)).toArray.isEmpty w
    cases r with
    | none =>
      simp only [put_eq] at e4
      refine ⟨undef, .tuple #[], θ, _, nx, { w with heap := w.heap.setIfInBounds (θ.blk b) (.map (es.map (meV θ)).toArray cl) }, .value _, .refl θ, vr_undef θ, ?_, e4, ?_, rfl⟩
      · exact map_upd hR hh hb rfl rfl rfl hm ⟨heap_set hm, hes⟩
      · simp only [execOp, ho, resolve, invoke, builtin, Builtin.delete_, Sem.run_bind, Sem.run_pure, Result.andThen, ht', List.map_toArray, List.map_cons, List.map_nil, List.getElem?_toArray, List.getElem?_cons_zero, List.getElem?_cons_succ, run_underlying hu, hp, run_getMap hm, hck, List.toList_toArray, hfk, Option.map_none, run_setMap _ hm]
    | some i =>
      simp only [put_eq] at e4
      have hlt := h1.lt i rfl
      refine ⟨undef, .tuple #[], θ, _, nx, { w with heap := w.heap.setIfInBounds (θ.blk b) (.map ((es.map (meV θ)).toArray.eraseIdxIfInBounds i) cl) }, .value _, .refl θ, vr_undef θ, ?_, e4, ?_, rfl⟩
      · refine map_upd hR hh hb rfl rfl rfl hm ⟨?_, fun e he => hes e (List.mem_of_mem_eraseIdx he)⟩
        rw [heap_set hm]
        simp [Array.eraseIdxIfInBounds, hlt, erase_map]
      · simp only [execOp, ho, resolve, invoke, builtin, Builtin.delete_, Sem.run_bind, Sem.run_pure, Result.andThen, ht', List.map_toArray, List.map_cons, List.map_nil, List.getElem?_toArray, List.getElem?_cons_zero, List.getElem?_cons_succ, run_underlying hu, hp, run_getMap hm, hck, List.toList_toArray, hfk, Option.map_some, run_setMap _ hm]
  · have hck := hck θ _ (hrk θ a hE) true w
    have hp : a.eval X = .map none := (hr θ a hE).2
    refine ⟨undef, .tuple #[], θ, h, nx, w, .value _, .refl θ, vr_undef θ, hR, e2, ?_, rfl⟩
    simp only [execOp, ho, resolve, invoke, builtin, Builtin.delete_, Sem.run_bind, Sem.run_pure, Result.andThen, ht', List.map_toArray, List.map_cons, List.map_nil, List.getElem?_toArray, List.getElem?_cons_zero, List.getElem?_cons_succ, run_underlying hu, hp, hck]
theorem a_mkm {t : TypeId} (ho : o.op = .makeMap t none) : OpOk P o oMkm := by
  intro en h nx κ w0 pd θ a w hE hR e
  obtain ⟨hn, e1⟩ := newK_true e
  have hnx : ¬ θ.has nx := fun hx => Nat.lt_irrefl _ (hR.own nx hx).1
  obtain ⟨k1, k2⟩ := hR.new (w' := w.alloc (.map #[] 0)) (ob := .map #[] 0) rfl ⟨rfl, rfl, rfl⟩ hn (a := .mp [] 0) (bs := 0) (sz := 0) (es := 0) ⟨by
    rw [Th.put_blk]
    show (w.heap.push _)[w.heap.size]? = _
    simp, by simp⟩ (by intro x hx; cases hx)
  refine ⟨.m nx, .map (some w.heap.size), _, _, _, _, .value _, k2, ⟨Th.put_has .., by simp [toV]⟩, k1, e1, ?_, rfl⟩
  simp only [execOp, ho, Option.map_none, Instr.makeMap, Sem.run_bind, Sem.run_pure, Result.andThen, newObj]
  rfl

/-! ### Iterations over maps -/
theorem a_rng {t kt el : TypeId} (hx : XOk x X) (hu : P.underlying t = some (.map kt el)) (ho : o.op = .range t X) : OpOk P o (oRng x) := by
  intro en h nx κ w0 pd θ a w hE hR e
  obtain ⟨v, hv, hr⟩ := hx en
  simp only [oRng, hv] at e
  cases v <;> first | (cases e; done) | skip
  · rename_i b
    obtain ⟨ob, hb, e1⟩ := get_true e
    obtain ⟨es, cl, rfl, e2⟩ := asMp_true e1
    obtain ⟨hn, e3⟩ := newK_true e2
    obtain ⟨hp, hh⟩ := (hr θ a hE).m
    obtain ⟨hm, hes⟩ := hR.obj_ hh hb
    have hnx : ¬ θ.has nx := fun hx => Nat.lt_irrefl _ (hR.own nx hx).1
    have hbn : b ≠ nx := fun e => hnx (e ▸ hh)
    obtain ⟨k1, k2⟩ := hR.new (w' := w.alloc (.mapIter (some (θ.blk b)) cl #[] cl)) (ob := .mapIter (some (θ.blk b)) cl #[] cl) rfl ⟨rfl, rfl, rfl⟩ hn (a := .it (some b) cl [] cl) (bs := 0) (sz := 0) (es := 0) ⟨by
      rw [Th.put_blk]
      show (w.heap.push _)[w.heap.size]? = _
      simp [Th.put, hbn], fun k hk => by injection hk with hk; subst hk; exact .inr hh, by simp⟩ (by intro x hx; cases hx)
    refine ⟨.p nx 0, .pointer (some ⟨w.heap.size, 0, none⟩), _, _, _, _, .value _, k2, ⟨Th.put_has .., by simp [toV]⟩, k1, e3, ?_, rfl⟩
    simp only [execOp, ho, hp, Instr.range, run_underlying hu, run_getMap hm, Sem.run_bind, Sem.run_pure, Result.andThen, newObj]
    rfl
  · obtain ⟨hn, e3⟩ := newK_true e
    have hp : a.eval X = .map none := (hr θ a hE).2
    obtain ⟨k1, k2⟩ := hR.new (w' := w.alloc (.mapIter none 0 #[] 0)) (ob := .mapIter none 0 #[] 0) rfl ⟨rfl, rfl, rfl⟩ hn (a := .it none 0 [] 0) (bs := 0) (sz := 0) (es := 0) ⟨by
      rw [Th.put_blk]
      show (w.heap.push _)[w.heap.size]? = _
      simp, (fun k hk => nomatch hk), by simp⟩ (by intro x hx; cases hx)
    refine ⟨.p nx 0, .pointer (some ⟨w.heap.size, 0, none⟩), _, _, _, _, .value _, k2, ⟨Th.put_has .., by simp [toV]⟩, k1, e3, ?_, rfl⟩
    simp only [execOp, ho, hp, Instr.range, run_underlying hu, Sem.run_bind, Sem.run_pure, Result.andThen, newObj]
    rfl
theorem memN_eq (n : Nat) : ∀ l : List Nat, memN n l = l.contains n
  | [] => rfl
  | x :: l => by
    show (@Bool.rec (fun _ => Bool) (memN n l) true (Nat.beq x n)) = _
    rw [memN_eq n l, List.contains_cons]
    by_cases h : n = x
    · subst h; simp
    · have : Nat.beq x n = false := by cases hb : Nat.beq x n with
        | false => rfl
        | true => exact absurd (Nat.eq_of_beq_eq_true hb).symm h
      rw [this]; simp [h]
theorem leftL_eq {θ : Th} (seen : List Nat) : ∀ es : List ME, (es.map (meV θ)).filter (fun e => !seen.contains e.born) = (leftL seen es).map (meV θ)
  | [] => rfl
  | .mk k v b :: es => by
    have : leftL seen (.mk k v b :: es) = @Bool.rec (fun _ => List ME) (.mk k v b :: leftL seen es) (leftL seen es) (memN b seen) := rfl
    rw [this, memN_eq, List.map_cons, List.filter_cons, leftL_eq seen es]
    show (if (!seen.contains b) = true then _ else _) = _
    cases seen.contains b <;> rfl
theorem leftL_sub {seen : List Nat} : ∀ {es : List ME} {e : ME}, e ∈ leftL seen es → e ∈ es
  | .mk k v b :: es, e, h => by
    have : leftL seen (.mk k v b :: es) = @Bool.rec (fun _ => List ME) (.mk k v b :: leftL seen es) (leftL seen es) (memN b seen) := rfl
    rw [this] at h
    cases hm : memN b seen with
    | true => rw [hm] at h; exact List.mem_cons_of_mem _ (leftL_sub h)
    | false =>
      rw [hm] at h
      rcases List.mem_cons.1 h with h | h
      · rw [h]; exact List.mem_cons_self ..
      · exact List.mem_cons_of_mem _ (leftL_sub h)
theorem anyBelow_eq {θ : Th} (c : Nat) : ∀ es : List ME, anyBelow c es = (es.map (meV θ)).any (fun e => decide (e.born < c))
  | [] => rfl
  | .mk k v b :: es => by
    show (@Bool.rec (fun _ => Bool) (anyBelow c es) true (Nat.blt b c)) = _
    rw [anyBelow_eq c es, List.map_cons, List.any_cons]
    show _ = (decide (b < c) || _)
    have : Nat.blt b c = decide (b < c) := by rw [Bool.eq_iff_iff]; simp [Nat.blt_eq]
    rw [this]
    cases decide (b < c) <;> rfl
theorem run_choose_one {w : World} : (choose (.mapNext 1)).run P w = .ok 0 w := by simp [choose, Sem.run, Question.forced]
theorem run_choose_any {w : World} {n : Nat} (hn : 0 < n) : ∃ i w2, i < n ∧ (choose (.mapNext n)).run P w = .ok i w2 ∧ w2.heap = w.heap ∧ w2.os = w.os ∧ w2.tape = w.tape ∧ w2.output = w.output := by
  by_cases h : n ≤ 1
  · exact ⟨0, w, hn, by simp [choose, Sem.run, Question.forced, h], rfl, rfl, rfl, rfl⟩
  · exact ⟨w.tape w.drawn (.mapNext n) % n, { w with drawn := w.drawn + 1 }, Nat.mod_lt _ hn, by simp [choose, Sem.run, Question.forced, h, Question.cut], rfl, rfl, rfl, rfl⟩
theorem forkN_true {r m since : Nat} {seen : List Nat} {h : H} {nx : Nat} {κ : K} {clock : Nat} : ∀ {l : List ME}, forkN r m since seen h nx κ clock l = true → ∀ k v b, ME.mk k v b ∈ l → b < since ∧ κ (.tu [.b true, k, v]) (setO h r (.it (some m) since (seen ++ [b]) clock)) nx = true
  | .mk k' v' b' :: l, e, k, v, b, hm => by
    have e : br (Nat.blt b' since) (br (appK Nat seen [b'] fun seen => put r (.it (some m) since seen clock) h fun h => κ (.tu [.b true, k', v']) h nx) (forkN r m since seen h nx κ clock l) false) false = true := e
    obtain ⟨h1, e1⟩ := br_t e
    obtain ⟨h2, e2⟩ := br_t e1
    rcases List.mem_cons.1 hm with hm | hm
    · injection hm with i1 i2 i3
      subst i1 i2 i3
      rw [appK_eq, put_eq] at h2
      exact ⟨by simpa [Nat.blt_eq] using h1, h2⟩
    · exact forkN_true e2 k v b hm
theorem a_nxt (hx : XOk x X) (ho : o.op = .next X false) : OpOk P o (oNxt x) := by
  intro en h nx κ w0 pd θ a w hE hR e
  obtain ⟨v, hv, hr⟩ := hx en
  simp only [oNxt, hv] at e
  obtain ⟨r, off, rfl, e1⟩ := asP_true e
  obtain ⟨hoff, e2⟩ := br_t e1
  have hoff := Nat.eq_of_beq_eq_true hoff
  subst hoff
  obtain ⟨hp, hh⟩ := (hr θ a hE).p
  obtain ⟨ob, hb, e3⟩ := get_true e2
  have hor := hR.obj_ hh hb
  have fin' : ∀ {w' u}, (Instr.next (.pointer (some ⟨θ.blk r, 0, none⟩)) false o.type).run P w = .ok u w' → θ.bas r = 0 → (execOp a.eval o).run P w = .ok (.value u) w' := by
    intro w' u hw hbas
    simp only [execOp, ho, hp, hbas, Nat.add_zero, Sem.run_bind, hw, Result.andThen, Sem.run_pure]
  have getIt : ∀ {m s sn st}, w.heap[θ.blk r]? = some (.mapIter m s sn st) → (getObj (θ.blk r)).run P w = .ok (.mapIter m s sn st) w := by
    intro m s sn st hm
    simp [getObj, Sem.run, hm]
  cases ob <;> first | (cases e3; done) | skip
  rename_i m since seen last
  obtain ⟨hm, hk, hbas⟩ := hor
  cases m with
  | none =>
    refine ⟨.tu [.b false], .tuple #[.bool false], θ, h, nx, w, .value _, .refl θ, ⟨⟨trivial, trivial⟩, rfl⟩, hR, e3, fin' ?_ hbas, rfl⟩
    simp only [Instr.next, Sem.run_bind, getIt hm, Option.map_none, Result.andThen, Sem.run_pure]
  | some m =>
    have hmh := hk m rfl
    obtain ⟨ob2, hb2, e4⟩ := get_true e3
    obtain ⟨es, cl, rfl, e5⟩ := asMp_true e4
    obtain ⟨hmm, hes⟩ := hR.obj_ hmh hb2
    have hfull : (!seen.toArray.isEmpty && !(es.map (meV θ)).toArray.isEmpty && (es.map (meV θ)).toArray.all (·.born ≥ last)) = false ∧ nxtK r m since seen h nx κ es cl = true := by
      cases seen with
      | nil => exact ⟨rfl, e5⟩
      | cons s seen =>
        cases es with
        | nil => exact ⟨by simp, e5⟩
        | cons ee es =>
          obtain ⟨h1, h2⟩ := br_t e5
          refine ⟨?_, h2⟩
          rw [anyBelow_eq (θ := θ)] at h1
          rw [Bool.and_eq_false_iff]
          right
          obtain ⟨q, q1, q2⟩ := List.any_eq_true.1 h1
          rw [List.all_toArray]
          rw [← Bool.not_eq_true, List.all_eq_true]
          intro hall
          have := hall q q1
          simp at this q2
          omega
    obtain ⟨hnot, e6⟩ := hfull
    have run : ∀ {R : Result Value}, (do
        let left := (es.map (meV θ)).toArray.filter fun e => !seen.toArray.contains e.born
        let old := left.filter (·.born < since)
        let new := left.filter (·.born ≥ since)
        let candidates := (if old.isEmpty then #[none] else #[]) ++ (old ++ new).map some
        match candidates[← choose (.mapNext candidates.size)]? with
        | some (some e) =>
          setObj (θ.blk r) (.mapIter (some (θ.blk m)) since (seen.toArray.push e.born) cl)
          pure (.tuple #[.bool true, e.key, e.val])
        | some none => pure (.tuple #[.bool false])
        | none => stuck "Next: no such candidate" : Sem Value).run P w = R → (Instr.next (.pointer (some ⟨θ.blk r, 0, none⟩)) false o.type).run P w = R := by
      intro R hR'
      rw [← hR']
      simp only [Instr.next, Sem.run_bind, getIt hm, Option.map_some, Result.andThen, run_getMap hmm, hnot, Bool.false_eq_true, if_false]
      rfl
    have hleft : (es.map (meV θ)).toArray.filter (fun e => !seen.toArray.contains e.born) = ((leftL seen es).map (meV θ)).toArray := by
      rw [List.filter_toArray']
      · rw [← leftL_eq]; simp
      · rfl
    unfold nxtK at e6
    split at e6
    · rename_i hl
      rw [put_eq] at e6
      have hkill : HR P w0 pd θ (setO h r .dead) nx w := hR.upd (a' := .dead) hh hb rfl rfl (fun _ _ => rfl) ⟨rfl, rfl, rfl⟩ trivial (by intro x hx; cases hx)
      refine ⟨.tu [.b false], .tuple #[.bool false], θ, _, nx, w, .value _, .refl θ, ⟨⟨trivial, trivial⟩, rfl⟩, hkill, e6, fin' (run ?_) hbas, rfl⟩
      have hc : (if (Array.filter (fun e : MapEntry => decide (e.born < since)) #[]).isEmpty = true then (#[none] : Array (Option MapEntry)) else #[]) ++
          Array.map some (Array.filter (fun e : MapEntry => decide (e.born < since)) #[] ++ Array.filter (fun e : MapEntry => decide (e.born ≥ since)) #[]) = #[none] := by simp
      simp only [hleft, hl, List.map_nil, hc]
      simp only [List.size_toArray, List.length_cons, List.length_nil, Nat.zero_add, Sem.run_bind, run_choose_one, Result.andThen]
      rfl
    · rename_i k v b hl
      obtain ⟨hlt, e7⟩ := br_t e6
      have hlt : b < since := by simpa [Nat.blt_eq] using hlt
      rw [appK_eq, put_eq] at e7
      have hme : ME.mk k v b ∈ es := leftL_sub (seen := seen) (by rw [hl]; exact List.mem_cons_self ..)
      refine ⟨.tu [.b true, k, v], .tuple #[.bool true, toV θ k, toV θ v], θ, _, nx, { w with heap := w.heap.setIfInBounds (θ.blk r) (.mapIter (some (θ.blk m)) since (seen.toArray.push b) cl) }, .value _, .refl θ, ⟨⟨trivial, (hes _ hme).1, (hes _ hme).2, trivial⟩, rfl⟩, ?_, e7, fin' (run ?_) hbas, rfl⟩
      · refine map_upd hR hh hb rfl rfl rfl hm ⟨?_, hk, hbas⟩
        rw [heap_set hm]; simp
      · have hset : (setObj (θ.blk r) (.mapIter (some (θ.blk m)) since (seen.toArray.push b) cl)).run P w = .ok () { w with heap := w.heap.setIfInBounds (θ.blk r) (.mapIter (some (θ.blk m)) since (seen.toArray.push b) cl) } := by
          simp [setObj, Sem.run, hm]
        have hc : (if (Array.filter (fun e : MapEntry => decide (e.born < since)) #[{ key := toV θ k, val := toV θ v, born := b }]).isEmpty = true then (#[none] : Array (Option MapEntry)) else #[]) ++
            Array.map some (Array.filter (fun e : MapEntry => decide (e.born < since)) #[{ key := toV θ k, val := toV θ v, born := b }] ++ Array.filter (fun e : MapEntry => decide (e.born ≥ since)) #[{ key := toV θ k, val := toV θ v, born := b }]) = #[some { key := toV θ k, val := toV θ v, born := b }] := by
          simp [hlt, show ¬ (since ≤ b) by omega]
        simp only [hleft, hl, List.map_cons, List.map_nil, meV, hc]
        simp only [List.size_toArray, List.length_cons, List.length_nil, Nat.zero_add, Sem.run_bind, run_choose_one, Result.andThen, List.getElem?_toArray, List.getElem?_cons_zero, hset]
        rfl
    · obtain ⟨l, hl⟩ : ∃ l, l = leftL seen es := ⟨_, rfl⟩
      rw [← hl] at e6 hleft
      have hne : l ≠ [] := by
        rintro rfl
        rename_i hn0 _
        exact hn0 hl.symm
      have hfk := forkN_true e6
      have hold : ∀ e ∈ l.map (meV θ), e.born < since := by
        intro e he
        obtain ⟨x, hx, rfl⟩ := List.mem_map.1 he
        obtain ⟨k, v, b⟩ := x
        exact (hfk _ _ _ hx).1
      have hc : (if (Array.filter (fun e : MapEntry => decide (e.born < since)) (l.map (meV θ)).toArray).isEmpty = true then (#[none] : Array (Option MapEntry)) else #[]) ++
          Array.map some (Array.filter (fun e : MapEntry => decide (e.born < since)) (l.map (meV θ)).toArray ++ Array.filter (fun e : MapEntry => decide (e.born ≥ since)) (l.map (meV θ)).toArray) = ((l.map (meV θ)).map some).toArray := by
        have h1 : Array.filter (fun e : MapEntry => decide (e.born < since)) (l.map (meV θ)).toArray = (l.map (meV θ)).toArray := by
          rw [List.filter_toArray, List.filter_eq_self.2 (fun e he => by simpa using hold e he)]
        have h2 : Array.filter (fun e : MapEntry => decide (e.born ≥ since)) (l.map (meV θ)).toArray = #[] := by
          rw [List.filter_toArray, List.filter_eq_nil_iff.2 (fun e he => by have := hold e he; simp; omega)]
        rw [h1, h2]
        cases l with
        | nil => exact absurd rfl hne
        | cons x l => simp
      obtain ⟨i, w2, hi, hch, hw2, hp2⟩ := run_choose_any (P := P) (w := w) (n := l.length) (List.length_pos_iff.2 hne)
      obtain ⟨x, hx⟩ : ∃ x, l[i]? = some x := ⟨_, List.getElem?_eq_getElem hi⟩
      obtain ⟨k, v, b⟩ := x
      have hmem : ME.mk k v b ∈ l := List.mem_of_getElem? hx
      obtain ⟨hlt, e7⟩ := hfk _ _ _ hmem
      have hme : ME.mk k v b ∈ es := leftL_sub (seen := seen) (by rw [← hl]; exact hmem)
      have hm2 : w2.heap[θ.blk r]? = some (.mapIter (some (θ.blk m)) since seen.toArray last) := by rw [hw2]; exact hm
      have hR2 : HR P w0 pd θ h nx w2 := hR.same hw2 hp2
      refine ⟨.tu [.b true, k, v], .tuple #[.bool true, toV θ k, toV θ v], θ, _, nx, { w2 with heap := w2.heap.setIfInBounds (θ.blk r) (.mapIter (some (θ.blk m)) since (seen.toArray.push b) cl) }, .value _, .refl θ, ⟨⟨trivial, (hes _ hme).1, (hes _ hme).2, trivial⟩, rfl⟩, ?_, e7, fin' (run ?_) hbas, rfl⟩
      · refine map_upd hR2 hh hb rfl rfl rfl hm2 ⟨?_, hk, hbas⟩
        rw [heap_set hm2]; simp
      · have hset : (setObj (θ.blk r) (.mapIter (some (θ.blk m)) since (seen.toArray.push b) cl)).run P w2 = .ok () { w2 with heap := w2.heap.setIfInBounds (θ.blk r) (.mapIter (some (θ.blk m)) since (seen.toArray.push b) cl) } := by
          simp [setObj, Sem.run, hm2]
        simp only [hleft, hc]
        simp only [List.size_toArray, List.length_map, Sem.run_bind, hch, Result.andThen, List.getElem?_toArray, List.getElem?_map, hx, Option.map_some, meV, hset]
        rfl
end
end Go.AM
