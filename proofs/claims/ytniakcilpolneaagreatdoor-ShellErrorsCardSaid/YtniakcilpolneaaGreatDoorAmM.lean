/-
  AM, 14: operations that act: stores, maps, iterations, conversions. Conditions: none.
-/
import Derived.Test.YtniakcilpolneaaGreatDoorAmK
import Derived.LaidEql
namespace Go.AM
open Go

/-- what an operation answers -/
def fin : Next → Option Value
  | .value v => some v
  | .skip => some Go.undef
  | _ => none
/-- an operation -/
def OpOk (P : Program) (o : Oper) (f : OpF) : Prop := ∀ en h nx κ w0 pd θ (a : Act) w, ER θ en a.tmps → HR P w0 pd θ h nx w → f en h nx κ = true →
  ∃ v u θ' h' nx' w' n, θ.le θ' ∧ VR θ' v u ∧ HR P w0 pd θ' h' nx' w' ∧ κ v h' nx' = true ∧ (execOp a.eval o).run P w = .ok n w' ∧ fin n = some u
section
variable {P : Program} {o : Oper} {x y z : XF} {X Y Z : Operand}
theorem ReadOk.op {f : OpF} (hf : ReadOk P o f) : OpOk P o f := fun en h nx κ w0 pd θ a w hE hR e =>
  let ⟨v, h1, h2⟩ := hf en h nx κ e
  let ⟨u, h3, h4⟩ := h2 θ a w w0 pd nx hE hR
  ⟨v, u, θ, h, nx, w, _, .refl θ, h3, hR, by have h5 := h1 h (Ext.refl h) nx κ; rw [h5] at e; exact e, h4, rfl⟩
theorem NewOk.op {f : OpF} (hf : NewOk P o f) : OpOk P o f := by
  intro en h nx κ w0 pd θ a w hE hR e
  obtain ⟨a0, v, h1, h2, h3, _, h5⟩ := hf en h nx κ e
  obtain ⟨u, θ', w', k1, k2, k3, k4⟩ := h5 w0 _ θ a w _ _ nx hE (hR.pended h2 a0) (List.mem_cons_self ..)
  refine ⟨v nx, u, θ', _, _, w', _, k1, k2, ?_, h3, k4, rfl⟩
  have : ((nx, a0) :: pd).filter (fun q => q.1 != nx) = pd := by
    rw [List.filter_cons]
    simp only [bne_self_eq_false, Bool.false_eq_true, if_false]
    apply List.filter_eq_self.2
    intro q hq
    have := (hR.pend q.1 q.2 hq).2.1
    simp; omega
  rw [this] at k3
  exact k3
theorem vr_undef (θ : Th) : VR θ undef Go.undef := ⟨trivial, rfl⟩

/-! ### Stores -/
theorem a_st {t : TypeId} {n : Nat} (hx : XOk x X) (hy : XOk y Y) (hn : sizeT P t = some n) (ho : o.op = .store t X Y) : OpOk P o (oSt x y n) := by
  intro en h nx κ w0 pd θ a w hE hR e
  obtain ⟨v, hv, hr⟩ := hx en
  obtain ⟨v2, hv2, hr2⟩ := hy en
  simp only [oSt, hv, hv2] at e
  obtain ⟨b, off, rfl, e1⟩ := asP_true e
  obtain ⟨_, e2, hcr⟩ := cellsK_true e1
  obtain ⟨hs, e3⟩ := br_t e2
  have hs' : (cellsV v2).length = n := by rw [← lenN_eq]; exact Nat.eq_of_beq_eq_true hs
  obtain ⟨q1, q2, q3⟩ := hcr (hr2 θ a hE)
  obtain ⟨hp, hh⟩ := (hr θ a hE).p
  obtain ⟨h', k1, k2, k3⟩ := wr_ok hR hh q1 q2 e3
  refine ⟨undef, Go.undef, θ, h', nx, _, .skip, .refl θ, vr_undef θ, k2, k1, ?_, rfl⟩
  have hsz : (a.eval Y).cells.size = n := by rw [← Array.length_toList, q3, toVs_length]; exact hs'
  have hst := k3.store (toVs_one q2) P
  simp only [execOp, ho, Instr.storeAt, hp, Instr.sureAddr, storeVar, Sem.run_bind, Sem.run_pure, Result.andThen, run_size hn, hsz, q3, hst, ne_eq, not_true, if_false]

/-! ### Maps -/
theorem run_setMap {w : World} {r : Nat} {es : Array MapEntry} {clock : Nat} (ob : Obj) (hb : w.heap[r]? = some (.map es clock)) : (setObj r ob).run P w = .ok () { w with heap := w.heap.setIfInBounds r ob } := by
  simp [setObj, Sem.run, hb]
theorem heap_set {w : World} {r : Nat} {ob ob' : Obj} (h : w.heap[r]? = some ob') : (({ w with heap := w.heap.setIfInBounds r ob } : World)).heap[r]? = some ob := by
  have : r < w.heap.size := (Array.getElem?_eq_some_iff.1 h).1
  simp [this]
/-- a map's object turned -/
theorem map_upd {w0 w : World} {pd : List (Nat × AO)} {θ : Th} {h : H} {nx : Nat} (hR : HR P w0 pd θ h nx w) {b : Nat} {a a' : AO} {ob ob' : Obj} (hh : θ.has b) (hb : obj h b = some a) (hw : a.wr = true) (hsh : a.sh = []) (hsh' : a'.sh = [])
    (hob : w.heap[θ.blk b]? = some ob') (hor : OR P θ { w with heap := w.heap.setIfInBounds (θ.blk b) ob } b a') : HR P w0 pd θ (setO h b a') nx { w with heap := w.heap.setIfInBounds (θ.blk b) ob } := by
  have := hR.upd hh hb hw (w' := { w with heap := w.heap.setIfInBounds (θ.blk b) ob }) (a' := a') (by simp) (fun c hc => by simp [Array.getElem?_setIfInBounds_ne (Ne.symm hc)]) ⟨rfl, rfl, rfl⟩ hor (by rw [hsh']; simp)
  rw [hsh] at this
  exact this
theorem setE_get {k v : AV} : ∀ {es : List ME} {i : Nat}, ∀ j, (setE k v es i)[j]? = if j = i then (es[i]?).map (fun | .mk _ _ b => .mk k v b) else es[j]?
  | [], i, j => by simp [setE]
  | .mk k' v' b :: es, 0, j => by
    cases j with
    | zero => simp [setE]
    | succ j => simp [setE]
  | e :: es, i + 1, j => by
    cases j with
    | zero => simp [setE]
    | succ j => simp [setE, setE_get (es := es) (i := i) j]
theorem setKy_get {k : AV} : ∀ {es : List ME} {i : Nat}, ∀ j, (setKy k es i)[j]? = if j = i then (es[i]?).map (fun | .mk _ v b => .mk k v b) else es[j]?
  | [], i, j => by simp [setKy]
  | .mk k' v' b :: es, 0, j => by
    cases j with
    | zero => simp [setKy]
    | succ j => simp [setKy]
  | e :: es, i + 1, j => by
    cases j with
    | zero => simp [setKy]
    | succ j => simp [setKy, setKy_get (es := es) (i := i) j]
theorem mem_of_get {es es' : List ME} {θ : Th} (h : ∀ e ∈ es, meOk θ e) {i : Nat} {f : ME → ME} (hf : ∀ e, es[i]? = some e → meOk θ (f e)) (hg : ∀ j, es'[j]? = if j = i then (es[i]?).map f else es[j]?) : ∀ e ∈ es', meOk θ e := by
  intro e he
  obtain ⟨j, hj⟩ := List.getElem?_of_mem he
  rw [hg j] at hj
  split at hj
  · obtain ⟨e', h1, rfl⟩ := Option.map_eq_some_iff.1 hj
    exact hf e' h1
  · exact h e (List.mem_of_getElem? hj)
theorem map_modify {es es' : List ME} {θ : Th} {i : Nat} {f : ME → ME} {g : MapEntry → MapEntry} (hg : ∀ j, es'[j]? = if j = i then (es[i]?).map f else es[j]?) (hfg : ∀ e, es[i]? = some e → meV θ (f e) = g (meV θ e)) :
    (es.map (meV θ)).toArray.modify i g = (es'.map (meV θ)).toArray := by
  apply Array.ext_getElem?
  intro j
  rw [Array.getElem?_modify]
  simp only [List.getElem?_toArray, List.getElem?_map, hg j]
  by_cases hj : i = j
  · subst hj
    rw [if_pos rfl, if_pos rfl]
    cases he : es[i]? with
    | none => rfl
    | some e => simp [hfg e he]
  · rw [if_neg hj, if_neg (Ne.symm hj)]
theorem keyStays {w : World} {old new : Value} (h : Instr.sameBits 10000 old new = true) : (Instr.keyThatStays old new).run P w = .ok new w := by
  simp [Instr.keyThatStays, h]
theorem a_mpu {t kt el : TypeId} {g : Bool} {ks : List Nat} (hx : XOk x X) (hy : XOk y Y) (hz : XOk z Z) (hu : P.underlying t = some (.map kt el)) (hf : flatT P kt = some (g, ks)) (ho : o.op = .mapUpdate t X Y Z ∨ o.op = .insert t X Y Z) : OpOk P o (oMpu g ks x y z) := by
  intro en h nx κ w0 pd θ a w hE hR e
  obtain ⟨v, hv, hr⟩ := hx en
  obtain ⟨k, hk, hrk⟩ := hy en
  obtain ⟨q, hq, hrq⟩ := hz en
  simp only [oMpu, hv, hk, hq] at e
  obtain ⟨b, rfl, e1⟩ := asM_true e
  obtain ⟨e2, _, hck⟩ := kyT_ok hf e1
  obtain ⟨ob, hb, e3⟩ := get_true e2
  obtain ⟨es, cl, rfl, e4⟩ := asMp_true e3
  obtain ⟨r, h1, h2⟩ := updK_true (eqT_det hf) e4
  rw [h2] at e4
  obtain ⟨hp, hh⟩ := (hr θ a hE).m
  obtain ⟨hm, hes⟩ := hR.obj_ hh hb
  obtain ⟨hfk, hsame⟩ := find_hit hf h1 (hrk θ a hE) hes w
  have hck := hck θ _ (hrk θ a hE) false w
  have run : (Instr.mapUpdate t (.map (some (θ.blk b))) (a.eval Y) (a.eval Z)).run P w = (do
      match r.map fun i => (i, toV θ (vat es i)) with
      | some (i, _) => do
        let key ← Instr.keyThatStays ((((es.map (meV θ)).toArray[i]?).map (·.key)).getD (a.eval Y)) (a.eval Y)
        setObj (θ.blk b) (.map ((es.map (meV θ)).toArray.modify i fun e => { e with key, val := a.eval Z }) cl)
      | none => setObj (θ.blk b) (.map ((es.map (meV θ)).toArray.push { key := a.eval Y, val := a.eval Z, born := cl }) (cl + 1)) : Sem Unit).run P w := by
    simp only [Instr.mapUpdate, Sem.run_bind, run_underlying hu, Result.andThen, run_getMap hm, hck, List.toList_toArray, hfk]
    cases r <;> rfl
  have fin' : ∀ {w'}, (Instr.mapUpdate t (.map (some (θ.blk b))) (a.eval Y) (a.eval Z)).run P w = .ok () w' → (execOp a.eval o).run P w = .ok .skip w' := by
    intro w' hw
    rcases ho with ho | ho <;> simp only [execOp, ho, hp, Sem.run_bind, hw, Result.andThen, Sem.run_pure]
  cases r with
  | none =>
    simp only [appK_eq, fnat_eq, put_eq] at e4
    refine ⟨undef, Go.undef, θ, _, nx, _, .skip, .refl θ, vr_undef θ, ?_, e4, fin' (run.trans (run_setMap _ hm)), rfl⟩
    refine map_upd hR hh hb rfl rfl rfl hm ⟨?_, ?_⟩
    · rw [heap_set hm]
      simp [meV, (hrk θ a hE).2, (hrq θ a hE).2]
    · intro e he
      rcases List.mem_append.1 he with he | he
      · exact hes e he
      · rw [List.mem_singleton.1 he]; exact ⟨(hrk θ a hE).1, (hrq θ a hE).1⟩
  | some i =>
    simp only [put_eq] at e4
    obtain ⟨e0, hi, hsb⟩ := hsame i rfl
    have hkey : (((es.map (meV θ)).toArray[i]?).map (·.key)).getD (a.eval Y) = (meV θ e0).key := by simp [hi]
    refine ⟨undef, Go.undef, θ, _, nx, { w with heap := w.heap.setIfInBounds (θ.blk b) (.map ((es.map (meV θ)).toArray.modify i fun e => { e with key := a.eval Y, val := a.eval Z }) cl) }, .skip, .refl θ, vr_undef θ, ?_, e4, fin' (run.trans ?_), rfl⟩
    rotate_left
    · simp only [Option.map_some, hkey, Sem.run_bind, keyStays hsb, Result.andThen]
      exact run_setMap _ hm
    · refine map_upd hR hh hb rfl rfl rfl hm ⟨?_, ?_⟩
      · rw [heap_set hm, map_modify setE_get]
        intro e _
        obtain ⟨k', v', b'⟩ := e
        simp [meV, (hrk θ a hE).2, (hrq θ a hE).2]
      · refine mem_of_get hes ?_ setE_get
        intro e _
        obtain ⟨k', v', b'⟩ := e
        exact ⟨(hrk θ a hE).1, (hrq θ a hE).1⟩
theorem a_mpe {t kt el : TypeId} {g : Bool} {ks : List Nat} {zz : AV} (hx : XOk x X) (hy : XOk y Y) (hu : P.underlying t = some (.map kt el)) (hf : flatT P kt = some (g, ks)) (hz : zeroV P el = some zz) (ho : o.op = .mapEntry t X Y) : OpOk P o (oMpe g ks x y zz) := by
  intro en h nx κ w0 pd θ a w hE hR e
  obtain ⟨v, hv, hr⟩ := hx en
  obtain ⟨k, hk, hrk⟩ := hy en
  simp only [oMpe, hv, hk] at e
  obtain ⟨b, rfl, e1⟩ := asM_true e
  obtain ⟨e2, _, hck⟩ := kyT_ok hf e1
  obtain ⟨ob, hb, e3⟩ := get_true e2
  obtain ⟨es, cl, rfl, e4⟩ := asMp_true e3
  obtain ⟨r, h1, h2⟩ := entK_true (eqT_det hf) e4
  rw [h2] at e4
  obtain ⟨zi, zv, z1, z2, z3⟩ := zeroV_some hz
  obtain ⟨hp, hh⟩ := (hr θ a hE).m
  obtain ⟨hm, hes⟩ := hR.obj_ hh hb
  obtain ⟨hfk, hsame⟩ := find_hit hf h1 (hrk θ a hE) hes w
  have hck := hck θ _ (hrk θ a hE) false w
  have hz' : (zeroValue el).run P w = .ok zv w := by simp [zeroValue, typeInfo, z1, z2]
  have fin' : ∀ {w' u}, (Instr.mapEntry t (.map (some (θ.blk b))) (a.eval Y)).run P w = .ok u w' → (execOp a.eval o).run P w = .ok (.value u) w' := by
    intro w' u hw
    simp only [execOp, ho, hp, Sem.run_bind, hw, Result.andThen, Sem.run_pure]
  cases r with
  | none =>
    simp only [appK_eq, fnat_eq, put_eq] at e4
    refine ⟨.tu [zz, .i 3 (.ofNat cl)], .tuple #[zv, goInt cl], θ, _, nx, _, .value _, .refl θ, ⟨⟨(z3 θ).1, trivial, trivial⟩, by rw [(z3 θ).2]; rfl⟩, ?_, e4, fin' (w' := { w with heap := w.heap.setIfInBounds (θ.blk b) (.map ((es.map (meV θ)).toArray.push { key := a.eval Y, val := zv, born := cl }) (cl + 1)) }) ?_, rfl⟩
    · refine map_upd hR hh hb rfl rfl rfl hm ⟨?_, ?_⟩
      · rw [heap_set hm]
        simp [meV, (hrk θ a hE).2, (z3 θ).2]
      · intro e he
        rcases List.mem_append.1 he with he | he
        · exact hes e he
        · rw [List.mem_singleton.1 he]; exact ⟨(hrk θ a hE).1, (z3 θ).1⟩
    · simp only [Instr.mapEntry, Sem.run_bind, run_underlying hu, Result.andThen, run_getMap hm, hck, List.toList_toArray, hfk, Option.map_none, hz', run_setMap _ hm, Sem.run_pure]
  | some i =>
    simp only [put_eq] at e4
    obtain ⟨e0, hi, hsb⟩ := hsame i rfl
    have hlt := h1.lt i rfl
    have hkey : (((es.map (meV θ)).toArray[i]?).map (·.key)).getD (a.eval Y) = (meV θ e0).key := by simp [hi]
    have hborn : (((es.map (meV θ)).toArray[i]?).map (fun e : MapEntry => (e.born : Int))).getD 0 = (bat es i : Int) := by
      unfold bat
      simp only [List.getElem?_toArray, List.getElem?_map, hi]
      obtain ⟨k', v', b'⟩ := e0
      rfl
    refine ⟨.tu [vat es i, .i 3 (.ofNat (bat es i))], .tuple #[toV θ (vat es i), goInt (bat es i)], θ, _, nx, _, .value _, .refl θ, ⟨⟨vat_ok hlt hes, trivial, trivial⟩, rfl⟩, ?_, e4, fin' (w' := { w with heap := w.heap.setIfInBounds (θ.blk b) (.map ((es.map (meV θ)).toArray.modify i fun e => { e with key := a.eval Y }) cl) }) ?_, rfl⟩
    · refine map_upd hR hh hb rfl rfl rfl hm ⟨?_, ?_⟩
      · rw [heap_set hm, map_modify setKy_get]
        intro e _
        obtain ⟨k', v', b'⟩ := e
        simp [meV, (hrk θ a hE).2]
      · refine mem_of_get hes ?_ setKy_get
        intro e he
        have := hes e (List.mem_of_getElem? he)
        obtain ⟨k', v', b'⟩ := e
        exact ⟨(hrk θ a hE).1, this.2⟩
    · simp only [Instr.mapEntry, Sem.run_bind, run_underlying hu, Result.andThen, run_getMap hm, hck, List.toList_toArray, hfk, Option.map_some, hkey, keyStays hsb, run_setMap _ hm, Sem.run_pure, hborn]
def ME.born : ME → Nat
  | .mk _ _ b => b
def ME.setV (v : AV) : ME → ME
  | .mk k _ b => .mk k v b
theorem ensK_true {s : Nat} {v : AV} : ∀ {es : List ME} {κ : List ME → R}, ensK s v es κ = true → ∃ (i : Nat) (e0 : ME), es[i]? = some e0 ∧ e0.born = s ∧ (∀ (j : Nat) (e : ME), j < i → es[j]? = some e → e.born ≠ s) ∧
    ∃ es' : List ME, κ es' = true ∧ ∀ j : Nat, es'[j]? = if j = i then (es[i]?).map (ME.setV v) else es[j]?
  | [], κ, e => by cases e
  | .mk k' v' b :: es, κ, e => by
    rcases br_true (show br (Nat.beq b s) (κ (.mk k' v b :: es)) (ensK s v es fun r => κ (.mk k' v' b :: r)) = true from e) with ⟨h1, h2⟩ | ⟨h1, h2⟩
    · refine ⟨0, _, rfl, Nat.eq_of_beq_eq_true h1, fun j _ hj => by omega, _, h2, fun j => ?_⟩
      cases j <;> simp [ME.setV]
    · obtain ⟨i, e0, k1, k2, k3, es', k4, k5⟩ := ensK_true h2
      refine ⟨i + 1, e0, by simpa using k1, k2, fun j e hj he => ?_, _, k4, fun j => ?_⟩
      · cases j with
        | zero =>
          simp at he; subst he
          intro hb
          have hb : b = s := hb
          subst hb
          simp at h1
        | succ j => exact k3 j e (by omega) (by simpa using he)
      · cases j with
        | zero => simp
        | succ j => simp [k5 j]
theorem a_ens {t : TypeId} (hx : XOk x X) (hy : XOk y Y) (hz : XOk z Z) (ho : o.op = .entryStore t X Y Z) : OpOk P o (oEns x y z) := by
  intro en h nx κ w0 pd θ a w hE hR e
  obtain ⟨v, hv, hr⟩ := hx en
  obtain ⟨k, hk, hrk⟩ := hy en
  obtain ⟨q, hq, hrq⟩ := hz en
  simp only [oEns, hv, hk, hq] at e
  obtain ⟨b, rfl, e1⟩ := asM_true e
  obtain ⟨kd, s, rfl, e2⟩ := asN_true e1
  obtain ⟨ob, hb, e3⟩ := get_true e2
  obtain ⟨es, cl, rfl, e4⟩ := asMp_true e3
  obtain ⟨i, e0, k1, k2, k3, es', k4, k5⟩ := ensK_true e4
  simp only [put_eq] at k4
  obtain ⟨hp, hh⟩ := (hr θ a hE).m
  obtain ⟨hm, hes⟩ := hR.obj_ hh hb
  have hfi : (es.map (meV θ)).toArray.findIdx? (fun e => (e.born : Int) == (Int.ofNat s)) = some i := by
    rw [List.findIdx?_toArray, List.findIdx?_eq_some_iff_getElem]
    have hlt : i < es.length := (List.getElem?_eq_some_iff.1 k1).1
    refine ⟨by simpa using hlt, ?_, fun j hj => ?_⟩
    · have : es[i] = e0 := (List.getElem?_eq_some_iff.1 k1).2
      obtain ⟨k', v', b'⟩ := e0
      have k2 : b' = s := k2
      simp only [List.getElem_map, this, meV]
      subst k2
      simp
    · have := k3 j _ hj (List.getElem?_eq_getElem (by omega))
      simp only [List.getElem_map]
      cases hej : es[j]'(by omega) with
      | mk k' v' b' =>
        rw [hej] at this
        have this : b' ≠ s := this
        simp only [meV]
        simp only [Int.ofNat_eq_natCast, beq_iff_eq, Int.natCast_inj]
        exact this
  refine ⟨undef, Go.undef, θ, _, nx, { w with heap := w.heap.setIfInBounds (θ.blk b) (.map ((es.map (meV θ)).toArray.modify i fun e => { e with val := a.eval Z }) cl) }, .skip, .refl θ, vr_undef θ, ?_, k4, ?_, rfl⟩
  · refine map_upd hR hh hb rfl rfl rfl hm ⟨?_, ?_⟩
    · rw [heap_set hm, map_modify k5]
      intro e _
      obtain ⟨k', v', b'⟩ := e
      simp [meV, ME.setV, (hrq θ a hE).2]
    · refine mem_of_get hes ?_ k5
      intro e he
      have := hes e (List.mem_of_getElem? he)
      obtain ⟨k', v', b'⟩ := e
      exact ⟨this.1, (hrq θ a hE).1⟩
  · have hY := (hrk θ a hE).i
    simp only [execOp, ho, hp, hY, Instr.entryStore, Sem.run_bind, run_getMap hm, Result.andThen, asInt, asIntOf, Sem.run_pure, hfi, run_setMap _ hm]
theorem erase_map {α β : Type} (f : α → β) : ∀ (l : List α) (i : Nat), (l.map f).eraseIdx i = (l.eraseIdx i).map f
  | [], i => by simp
  | x :: l, 0 => by simp
  | x :: l, i + 1 => by simp [erase_map f l i]
theorem a_dlt {t kt el : TypeId} {g : Bool} {ks : List Nat} {c : Call} {t2 : TypeId} (hx : XOk x X) (hy : XOk y Y) (hu : P.underlying t = some (.map kt el)) (hf : flatT P kt = some (g, ks)) (hc : c.callee = .builtin .delete) (ha : c.args.toList = [X, Y]) (ht : ∃ r, c.argTypes.toList = t :: r)
    (ho : o.op = .call c) : OpOk P o (oDlt g ks x y) := by
  intro en h nx κ w0 pd θ a w hE hR e
  obtain ⟨v, hv, hr⟩ := hx en
  obtain ⟨k, hk, hrk⟩ := hy en
  simp only [oDlt, hv, hk] at e
  obtain ⟨e2, _, hck⟩ := kyT_ok hf e
  obtain ⟨ca, cargs, ct⟩ := c
  have ha' : cargs = #[X, Y] := by cases cargs; simp_all
  obtain ⟨r, ht⟩ := ht
  have ht' : ct[0]? = some t := by rw [← Array.getElem?_toList, ht]; rfl
  simp only at hc
  subst ha' hc
  cases v <;> first | (cases e2; done) | skip
  · rename_i b
    obtain ⟨ob, hb, e3⟩ := get_true e2
    obtain ⟨es, cl, rfl, e4⟩ := asMp_true e3
    obtain ⟨r, h1, h2⟩ := delK_true (eqT_det hf) e4
    rw [h2] at e4
    obtain ⟨hp, hh⟩ := (hr θ a hE).m
    obtain ⟨hm, hes⟩ := hR.obj_ hh hb
    obtain ⟨hfk, _⟩ := find_hit hf h1 (hrk θ a hE) hes w
    have hck := hck θ _ (hrk θ a hE) (es.map (meV θ)).toArray.isEmpty w
    cases r with
    | none =>
      simp only [put_eq] at e4
      refine ⟨undef, .tuple #[], θ, _, nx, { w with heap := w.heap.setIfInBounds (θ.blk b) (.map (es.map (meV θ)).toArray cl) }, .value _, .refl θ, vr_undef θ, ?_, e4, ?_, rfl⟩
      · exact map_upd hR hh hb rfl rfl rfl hm ⟨heap_set hm, hes⟩
      · simp only [execOp, ho, resolve, invoke, builtin, Builtin.delete_, Sem.run_bind, Sem.run_pure, Result.andThen, ht', List.map_toArray, List.map_cons, List.map_nil, List.getElem?_toArray, List.getElem?_cons_zero, List.getElem?_cons_succ, run_underlying hu, hp, run_getMap hm, hck, List.toList_toArray, hfk, Option.map_none, run_setMap _ hm]
    | some i =>
      simp only [put_eq] at e4
      have hlt := h1.lt i rfl
      refine ⟨undef, .tuple #[], θ, _, nx, { w with heap := w.heap.setIfInBounds (θ.blk b) (.map ((es.map (meV θ)).toArray.eraseIdxIfInBounds i) cl) }, .value _, .refl θ, vr_undef θ, ?_, e4, ?_, rfl⟩
      · refine map_upd hR hh hb rfl rfl rfl hm ⟨?_, fun e he => hes e (List.mem_of_mem_eraseIdx he)⟩
        rw [heap_set hm]
        simp [Array.eraseIdxIfInBounds, hlt, erase_map]
      · simp only [execOp, ho, resolve, invoke, builtin, Builtin.delete_, Sem.run_bind, Sem.run_pure, Result.andThen, ht', List.map_toArray, List.map_cons, List.map_nil, List.getElem?_toArray, List.getElem?_cons_zero, List.getElem?_cons_succ, run_underlying hu, hp, run_getMap hm, hck, List.toList_toArray, hfk, Option.map_some, run_setMap _ hm]
  · have hck := hck θ _ (hrk θ a hE) true w
    have hp : a.eval X = .map none := (hr θ a hE).2
    refine ⟨undef, .tuple #[], θ, h, nx, w, .value _, .refl θ, vr_undef θ, hR, e2, ?_, rfl⟩
    simp only [execOp, ho, resolve, invoke, builtin, Builtin.delete_, Sem.run_bind, Sem.run_pure, Result.andThen, ht', List.map_toArray, List.map_cons, List.map_nil, List.getElem?_toArray, List.getElem?_cons_zero, List.getElem?_cons_succ, run_underlying hu, hp, hck]
theorem a_mkm {t : TypeId} (ho : o.op = .makeMap t none) : OpOk P o oMkm := by
  intro en h nx κ w0 pd θ a w hE hR e
  obtain ⟨hn, e1⟩ := newK_true e
  have hnx : ¬ θ.has nx := fun hx => Nat.lt_irrefl _ (hR.own nx hx).1
  obtain ⟨k1, k2⟩ := hR.new (w' := w.alloc (.map #[] 0)) (ob := .map #[] 0) rfl ⟨rfl, rfl, rfl⟩ hn (a := .mp [] 0) (bs := 0) (sz := 0) (es := 0) ⟨by
    rw [Th.put_blk]
    show (w.heap.push _)[w.heap.size]? = _
    simp, by simp⟩ (by intro x hx; cases hx)
  refine ⟨.m nx, .map (some w.heap.size), _, _, _, _, .value _, k2, ⟨Th.put_has .., by simp [toV]⟩, k1, e1, ?_, rfl⟩
  simp only [execOp, ho, Option.map_none, Instr.makeMap, Sem.run_bind, Sem.run_pure, Result.andThen, newObj]
  rfl

/-! ### Iterations over maps -/
theorem a_rng {t kt el : TypeId} (hx : XOk x X) (hu : P.underlying t = some (.map kt el)) (ho : o.op = .range t X) : OpOk P o (oRng x) := by
  intro en h nx κ w0 pd θ a w hE hR e
  obtain ⟨v, hv, hr⟩ := hx en
  simp only [oRng, hv] at e
  cases v <;> first | (cases e; done) | skip
  · rename_i b
    obtain ⟨ob, hb, e1⟩ := get_true e
    obtain ⟨es, cl, rfl, e2⟩ := asMp_true e1
    obtain ⟨hn, e3⟩ := newK_true e2
    obtain ⟨hp, hh⟩ := (hr θ a hE).m
    obtain ⟨hm, hes⟩ := hR.obj_ hh hb
    have hnx : ¬ θ.has nx := fun hx => Nat.lt_irrefl _ (hR.own nx hx).1
    have hbn : b ≠ nx := fun e => hnx (e ▸ hh)
    obtain ⟨k1, k2⟩ := hR.new (w' := w.alloc (.mapIter (some (θ.blk b)) cl #[] cl)) (ob := .mapIter (some (θ.blk b)) cl #[] cl) rfl ⟨rfl, rfl, rfl⟩ hn (a := .it (some b) cl [] cl) (bs := 0) (sz := 0) (es := 0) ⟨by
      rw [Th.put_blk]
      show (w.heap.push _)[w.heap.size]? = _
      simp [Th.put, hbn], fun k hk => by injection hk with hk; subst hk; exact .inr hh, by simp⟩ (by intro x hx; cases hx)
    refine ⟨.p nx 0, .pointer (some ⟨w.heap.size, 0, none⟩), _, _, _, _, .value _, k2, ⟨Th.put_has .., by simp [toV]⟩, k1, e3, ?_, rfl⟩
    simp only [execOp, ho, hp, Instr.range, run_underlying hu, run_getMap hm, Sem.run_bind, Sem.run_pure, Result.andThen, newObj]
    rfl
  · obtain ⟨hn, e3⟩ := newK_true e
    have hp : a.eval X = .map none := (hr θ a hE).2
    obtain ⟨k1, k2⟩ := hR.new (w' := w.alloc (.mapIter none 0 #[] 0)) (ob := .mapIter none 0 #[] 0) rfl ⟨rfl, rfl, rfl⟩ hn (a := .it none 0 [] 0) (bs := 0) (sz := 0) (es := 0) ⟨by
      rw [Th.put_blk]
      show (w.heap.push _)[w.heap.size]? = _
      simp, (fun k hk => nomatch hk), by simp⟩ (by intro x hx; cases hx)
    refine ⟨.p nx 0, .pointer (some ⟨w.heap.size, 0, none⟩), _, _, _, _, .value _, k2, ⟨Th.put_has .., by simp [toV]⟩, k1, e3, ?_, rfl⟩
    simp only [execOp, ho, hp, Instr.range, run_underlying hu, Sem.run_bind, Sem.run_pure, Result.andThen, newObj]
    rfl
theorem memN_eq (n : Nat) : ∀ l : List Nat, memN n l = l.contains n
  | [] => rfl
  | x :: l => by
    show (@Bool.rec (fun _ => Bool) (memN n l) true (Nat.beq x n)) = _
    rw [memN_eq n l, List.contains_cons]
    by_cases h : n = x
    · subst h; simp
    · have : Nat.beq x n = false := by cases hb : Nat.beq x n with
        | false => rfl
        | true => exact absurd (Nat.eq_of_beq_eq_true hb).symm h
      rw [this]; simp [h]
theorem leftL_eq {θ : Th} (seen : List Nat) : ∀ es : List ME, (es.map (meV θ)).filter (fun e => !seen.contains e.born) = (leftL seen es).map (meV θ)
  | [] => rfl
  | .mk k v b :: es => by
    have : leftL seen (.mk k v b :: es) = @Bool.rec (fun _ => List ME) (.mk k v b :: leftL seen es) (leftL seen es) (memN b seen) := rfl
    rw [this, memN_eq, List.map_cons, List.filter_cons, leftL_eq seen es]
    show (if (!seen.contains b) = true then _ else _) = _
    cases seen.contains b <;> rfl
theorem leftL_sub {seen : List Nat} : ∀ {es : List ME} {e : ME}, e ∈ leftL seen es → e ∈ es
  | .mk k v b :: es, e, h => by
    have : leftL seen (.mk k v b :: es) = @Bool.rec (fun _ => List ME) (.mk k v b :: leftL seen es) (leftL seen es) (memN b seen) := rfl
    rw [this] at h
    cases hm : memN b seen with
    | true => rw [hm] at h; exact List.mem_cons_of_mem _ (leftL_sub h)
    | false =>
      rw [hm] at h
      rcases List.mem_cons.1 h with h | h
      · rw [h]; exact List.mem_cons_self ..
      · exact List.mem_cons_of_mem _ (leftL_sub h)
theorem anyBelow_eq {θ : Th} (c : Nat) : ∀ es : List ME, anyBelow c es = (es.map (meV θ)).any (fun e => decide (e.born < c))
  | [] => rfl
  | .mk k v b :: es => by
    show (@Bool.rec (fun _ => Bool) (anyBelow c es) true (Nat.blt b c)) = _
    rw [anyBelow_eq c es, List.map_cons, List.any_cons]
    show _ = (decide (b < c) || _)
    have : Nat.blt b c = decide (b < c) := by rw [Bool.eq_iff_iff]; simp [Nat.blt_eq]
    rw [this]
    cases decide (b < c) <;> rfl
theorem run_choose_one {w : World} : (choose (.mapNext 1)).run P w = .ok 0 w := by simp [choose, Sem.run, Question.forced]
theorem run_choose_any {w : World} {n : Nat} (hn : 0 < n) : ∃ i w2, i < n ∧ (choose (.mapNext n)).run P w = .ok i w2 ∧ w2.heap = w.heap ∧ w2.os = w.os ∧ w2.tape = w.tape ∧ w2.output = w.output := by
  by_cases h : n ≤ 1
  · exact ⟨0, w, hn, by simp [choose, Sem.run, Question.forced, h], rfl, rfl, rfl, rfl⟩
  · exact ⟨w.tape w.drawn (.mapNext n) % n, { w with drawn := w.drawn + 1 }, Nat.mod_lt _ hn, by simp [choose, Sem.run, Question.forced, h, Question.cut], rfl, rfl, rfl, rfl⟩
theorem forkN_true {r m since : Nat} {seen : List Nat} {h : H} {nx : Nat} {κ : K} {clock : Nat} : ∀ {l : List ME}, forkN r m since seen h nx κ clock l = true → ∀ k v b, ME.mk k v b ∈ l → b < since ∧ κ (.tu [.b true, k, v]) (setO h r (.it (some m) since (seen ++ [b]) clock)) nx = true
  | .mk k' v' b' :: l, e, k, v, b, hm => by
    have e : br (Nat.blt b' since) (br (appK Nat seen [b'] fun seen => put r (.it (some m) since seen clock) h fun h => κ (.tu [.b true, k', v']) h nx) (forkN r m since seen h nx κ clock l) false) false = true := e
    obtain ⟨h1, e1⟩ := br_t e
    obtain ⟨h2, e2⟩ := br_t e1
    rcases List.mem_cons.1 hm with hm | hm
    · injection hm with i1 i2 i3
      subst i1 i2 i3
      rw [appK_eq, put_eq] at h2
      exact ⟨by simpa [Nat.blt_eq] using h1, h2⟩
    · exact forkN_true e2 k v b hm
theorem a_nxt (hx : XOk x X) (ho : o.op = .next X false) : OpOk P o (oNxt x) := by
  intro en h nx κ w0 pd θ a w hE hR e
  obtain ⟨v, hv, hr⟩ := hx en
  simp only [oNxt, hv] at e
  obtain ⟨r, off, rfl, e1⟩ := asP_true e
  obtain ⟨hoff, e2⟩ := br_t e1
  have hoff := Nat.eq_of_beq_eq_true hoff
  subst hoff
  obtain ⟨hp, hh⟩ := (hr θ a hE).p
  obtain ⟨ob, hb, e3⟩ := get_true e2
  have hor := hR.obj_ hh hb
  have fin' : ∀ {w' u}, (Instr.next (.pointer (some ⟨θ.blk r, 0, none⟩)) false o.type).run P w = .ok u w' → θ.bas r = 0 → (execOp a.eval o).run P w = .ok (.value u) w' := by
    intro w' u hw hbas
    simp only [execOp, ho, hp, hbas, Nat.add_zero, Sem.run_bind, hw, Result.andThen, Sem.run_pure]
  have getIt : ∀ {m s sn st}, w.heap[θ.blk r]? = some (.mapIter m s sn st) → (getObj (θ.blk r)).run P w = .ok (.mapIter m s sn st) w := by
    intro m s sn st hm
    simp [getObj, Sem.run, hm]
  cases ob <;> first | (cases e3; done) | skip
  rename_i m since seen last
  obtain ⟨hm, hk, hbas⟩ := hor
  cases m with
  | none =>
    refine ⟨.tu [.b false], .tuple #[.bool false], θ, h, nx, w, .value _, .refl θ, ⟨⟨trivial, trivial⟩, rfl⟩, hR, e3, fin' ?_ hbas, rfl⟩
    simp only [Instr.next, Sem.run_bind, getIt hm, Option.map_none, Result.andThen, Sem.run_pure]
  | some m =>
    have hmh := hk m rfl
    obtain ⟨ob2, hb2, e4⟩ := get_true e3
    obtain ⟨es, cl, rfl, e5⟩ := asMp_true e4
    obtain ⟨hmm, hes⟩ := hR.obj_ hmh hb2
    have hfull : (!seen.toArray.isEmpty && !(es.map (meV θ)).toArray.isEmpty && (es.map (meV θ)).toArray.all (·.born ≥ last)) = false ∧ nxtK r m since seen h nx κ es cl = true := by
      cases seen with
      | nil => exact ⟨rfl, e5⟩
      | cons s seen =>
        cases es with
        | nil => exact ⟨by simp, e5⟩
        | cons ee es =>
          obtain ⟨h1, h2⟩ := br_t e5
          refine ⟨?_, h2⟩
          rw [anyBelow_eq (θ := θ)] at h1
          rw [Bool.and_eq_false_iff]
          right
          obtain ⟨q, q1, q2⟩ := List.any_eq_true.1 h1
          rw [List.all_toArray]
          rw [← Bool.not_eq_true, List.all_eq_true]
          intro hall
          have := hall q q1
          simp at this q2
          omega
    obtain ⟨hnot, e6⟩ := hfull
    have run : ∀ {R : Result Value}, (do
        let left := (es.map (meV θ)).toArray.filter fun e => !seen.toArray.contains e.born
        let old := left.filter (·.born < since)
        let new := left.filter (·.born ≥ since)
        let candidates := (if old.isEmpty then #[none] else #[]) ++ (old ++ new).map some
        match candidates[← choose (.mapNext candidates.size)]? with
        | some (some e) =>
          setObj (θ.blk r) (.mapIter (some (θ.blk m)) since (seen.toArray.push e.born) cl)
          pure (.tuple #[.bool true, e.key, e.val])
        | some none => pure (.tuple #[.bool false])
        | none => stuck "Next: no such candidate" : Sem Value).run P w = R → (Instr.next (.pointer (some ⟨θ.blk r, 0, none⟩)) false o.type).run P w = R := by
      intro R hR'
      rw [← hR']
      simp only [Instr.next, Sem.run_bind, getIt hm, Option.map_some, Result.andThen, run_getMap hmm, hnot, Bool.false_eq_true, if_false]
      rfl
    have hleft : (es.map (meV θ)).toArray.filter (fun e => !seen.toArray.contains e.born) = ((leftL seen es).map (meV θ)).toArray := by
      rw [List.filter_toArray']
      · rw [← leftL_eq]; simp
      · rfl
    unfold nxtK at e6
    split at e6
    · rename_i hl
      rw [put_eq] at e6
      have hkill : HR P w0 pd θ (setO h r .dead) nx w := hR.upd (a' := .dead) hh hb rfl rfl (fun _ _ => rfl) ⟨rfl, rfl, rfl⟩ trivial (by intro x hx; cases hx)
      refine ⟨.tu [.b false], .tuple #[.bool false], θ, _, nx, w, .value _, .refl θ, ⟨⟨trivial, trivial⟩, rfl⟩, hkill, e6, fin' (run ?_) hbas, rfl⟩
      have hc : (if (Array.filter (fun e : MapEntry => decide (e.born < since)) #[]).isEmpty = true then (#[none] : Array (Option MapEntry)) else #[]) ++
          Array.map some (Array.filter (fun e : MapEntry => decide (e.born < since)) #[] ++ Array.filter (fun e : MapEntry => decide (e.born ≥ since)) #[]) = #[none] := by simp
      simp only [hleft, hl, List.map_nil, hc]
      simp only [List.size_toArray, List.length_cons, List.length_nil, Nat.zero_add, Sem.run_bind, run_choose_one, Result.andThen]
      rfl
    · rename_i k v b hl
      obtain ⟨hlt, e7⟩ := br_t e6
      have hlt : b < since := by simpa [Nat.blt_eq] using hlt
      rw [appK_eq, put_eq] at e7
      have hme : ME.mk k v b ∈ es := leftL_sub (seen := seen) (by rw [hl]; exact List.mem_cons_self ..)
      refine ⟨.tu [.b true, k, v], .tuple #[.bool true, toV θ k, toV θ v], θ, _, nx, { w with heap := w.heap.setIfInBounds (θ.blk r) (.mapIter (some (θ.blk m)) since (seen.toArray.push b) cl) }, .value _, .refl θ, ⟨⟨trivial, (hes _ hme).1, (hes _ hme).2, trivial⟩, rfl⟩, ?_, e7, fin' (run ?_) hbas, rfl⟩
      · refine map_upd hR hh hb rfl rfl rfl hm ⟨?_, hk, hbas⟩
        rw [heap_set hm]; simp
      · have hset : (setObj (θ.blk r) (.mapIter (some (θ.blk m)) since (seen.toArray.push b) cl)).run P w = .ok () { w with heap := w.heap.setIfInBounds (θ.blk r) (.mapIter (some (θ.blk m)) since (seen.toArray.push b) cl) } := by
          simp [setObj, Sem.run, hm]
        have hc : (if (Array.filter (fun e : MapEntry => decide (e.born < since)) #[{ key := toV θ k, val := toV θ v, born := b }]).isEmpty = true then (#[none] : Array (Option MapEntry)) else #[]) ++
            Array.map some (Array.filter (fun e : MapEntry => decide (e.born < since)) #[{ key := toV θ k, val := toV θ v, born := b }] ++ Array.filter (fun e : MapEntry => decide (e.born ≥ since)) #[{ key := toV θ k, val := toV θ v, born := b }]) = #[some { key := toV θ k, val := toV θ v, born := b }] := by
          simp [hlt, show ¬ (since ≤ b) by omega]
        simp only [hleft, hl, List.map_cons, List.map_nil, meV, hc]
        simp only [List.size_toArray, List.length_cons, List.length_nil, Nat.zero_add, Sem.run_bind, run_choose_one, Result.andThen, List.getElem?_toArray, List.getElem?_cons_zero, hset]
        rfl
    · obtain ⟨l, hl⟩ : ∃ l, l = leftL seen es := ⟨_, rfl⟩
      rw [← hl] at e6 hleft
      have hne : l ≠ [] := by
        rintro rfl
        rename_i hn0 _
        exact hn0 hl.symm
      have hfk := forkN_true e6
      have hold : ∀ e ∈ l.map (meV θ), e.born < since := by
        intro e he
        obtain ⟨x, hx, rfl⟩ := List.mem_map.1 he
        obtain ⟨k, v, b⟩ := x
        exact (hfk _ _ _ hx).1
      have hc : (if (Array.filter (fun e : MapEntry => decide (e.born < since)) (l.map (meV θ)).toArray).isEmpty = true then (#[none] : Array (Option MapEntry)) else #[]) ++
          Array.map some (Array.filter (fun e : MapEntry => decide (e.born < since)) (l.map (meV θ)).toArray ++ Array.filter (fun e : MapEntry => decide (e.born ≥ since)) (l.map (meV θ)).toArray) = ((l.map (meV θ)).map some).toArray := by
        have h1 : Array.filter (fun e : MapEntry => decide (e.born < since)) (l.map (meV θ)).toArray = (l.map (meV θ)).toArray := by
          rw [List.filter_toArray, List.filter_eq_self.2 (fun e he => by simpa using hold e he)]
        have h2 : Array.filter (fun e : MapEntry => decide (e.born ≥ since)) (l.map (meV θ)).toArray = #[] := by
          rw [List.filter_toArray, List.filter_eq_nil_iff.2 (fun e he => by have := hold e he; simp; omega)]
        rw [h1, h2]
        cases l with
        | nil => exact absurd rfl hne
        | cons x l => simp
      obtain ⟨i, w2, hi, hch, hw2, hp2⟩ := run_choose_any (P := P) (w := w) (n := l.length) (List.length_pos_iff.2 hne)
      obtain ⟨x, hx⟩ : ∃ x, l[i]? = some x := ⟨_, List.getElem?_eq_getElem hi⟩
      obtain ⟨k, v, b⟩ := x
      have hmem : ME.mk k v b ∈ l := List.mem_of_getElem? hx
      obtain ⟨hlt, e7⟩ := hfk _ _ _ hmem
      have hme : ME.mk k v b ∈ es := leftL_sub (seen := seen) (by rw [← hl]; exact hmem)
      have hm2 : w2.heap[θ.blk r]? = some (.mapIter (some (θ.blk m)) since seen.toArray last) := by rw [hw2]; exact hm
      have hR2 : HR P w0 pd θ h nx w2 := hR.same hw2 hp2
      refine ⟨.tu [.b true, k, v], .tuple #[.bool true, toV θ k, toV θ v], θ, _, nx, { w2 with heap := w2.heap.setIfInBounds (θ.blk r) (.mapIter (some (θ.blk m)) since (seen.toArray.push b) cl) }, .value _, .refl θ, ⟨⟨trivial, (hes _ hme).1, (hes _ hme).2, trivial⟩, rfl⟩, ?_, e7, fin' (run ?_) hbas, rfl⟩
      · refine map_upd hR2 hh hb rfl rfl rfl hm2 ⟨?_, hk, hbas⟩
        rw [heap_set hm2]; simp
      · have hset : (setObj (θ.blk r) (.mapIter (some (θ.blk m)) since (seen.toArray.push b) cl)).run P w2 = .ok () { w2 with heap := w2.heap.setIfInBounds (θ.blk r) (.mapIter (some (θ.blk m)) since (seen.toArray.push b) cl) } := by
          simp [setObj, Sem.run, hm2]
        simp only [hleft, hc]
        simp only [List.size_toArray, List.length_map, Sem.run_bind, hch, Result.andThen, List.getElem?_toArray, List.getElem?_map, hx, Option.map_some, meV, hset]
        rfl
end
end Go.AM
namespace Go.AM
open Go

section
variable {P : Program} {w0 w w' : World} {pd : List (Nat × AO)} {θ : Th} {h : H} {nx : Nat}
/-- a row that nothing is appended to again -/
theorem HR.mark (hr : HR P w0 pd θ h nx w) {o N es zl d : Nat} {z : List AV} {t : L (Option AV) d} {top : Bool} {sh : List Nat} (ho : θ.has o) (ha : obj h o = some (.ce N es z zl d t top sh)) :
    HR P w0 pd θ (setO h o (.ce N es z zl d t false sh)) nx w := by
  refine ⟨hr.lim, fun p hp => ?_, fun p q b b' hne hp hq hb hb' hw hl he => ?_, hr.size, hr.kept, hr.plain, fun p b hb => ?_, hr.nodup, hr.fresh.set (Nat.le_refl _) (hr.own o ho).1 (hr.lt32 ho), hr.glo⟩
  · obtain ⟨a1, a2, a3, b, a4, a5, a6⟩ := hr.own p hp
    by_cases e : p = o
    · subst e
      rw [ha] at a4; injection a4 with a4; subst a4
      exact ⟨a1, a2, a3, _, obj_set _ _ _, a5, a6⟩
    · exact ⟨a1, a2, a3, b, by rw [obj_set_ne _ _ (hr.lt32 ho) (hr.lt32 hp) e]; exact a4, a5, a6⟩
  · by_cases e : p = o
    · subst e
      rw [obj_set] at hb; injection hb with hb; subst hb; cases hw
    · rw [obj_set_ne _ _ (hr.lt32 ho) (hr.lt32 hp) e] at hb
      by_cases e' : q = o
      · subst e'
        rw [obj_set] at hb'; injection hb' with hb'; subst hb'
        obtain ⟨h1, h2, _⟩ := hr.apart p q b _ hne hp hq hb ha hw rfl he
        exact ⟨h1, h2, rfl⟩
      · rw [obj_set_ne _ _ (hr.lt32 ho) (hr.lt32 hq) e'] at hb'
        exact hr.apart p q b b' hne hp hq hb hb' hw hl he
  · obtain ⟨p1, p2, p3⟩ := hr.pend p b hb
    exact ⟨p1, p2, by rw [obj_set_ne _ _ (hr.lt32 ho) (Nat.lt_of_lt_of_le p2 hr.lim) (fun e => p1 (e ▸ ho))]; exact p3⟩
/-- all objects, where a row's block is turned beyond the row -/
theorem HR.keep (hr : HR P w0 pd θ h nx w) {o N es zl d : Nat} {z : List AV} {t : L (Option AV) d} {sh : List Nat} (ho : θ.has o) (ha : obj h o = some (.ce N es z zl d t true sh))
    (hoth : ∀ b, b ≠ θ.blk o → w'.heap[b]? = w.heap[b]?) (hblk : ∀ c ty fz, w.heap[θ.blk o]? = some (.cells c ty fz) → ∃ c', w'.heap[θ.blk o]? = some (.cells c' ty fz) ∧ c'.size = c.size ∧ ∀ i, i < θ.bas o + N → c'[i]? = c[i]?) :
    ∀ p b, θ.has p → obj h p = some b → OR P θ w' p b := by
  intro p b hp hb
  have hor := hr.obj_ hp hb
  by_cases e : θ.blk p = θ.blk o
  · have key : ∀ {n es' zl' d' : Nat} {z' : List AV} {t' : L (Option AV) d'} {top : Bool} {sh' : List Nat}, θ.bas p + n ≤ θ.bas o + N → OR P θ w p (.ce n es' z' zl' d' t' top sh') → OR P θ w' p (.ce n es' z' zl' d' t' top sh') := by
      intro n es' zl' d' z' t' top sh' hle ⟨c, ty, fz, h1, h2, h3, h4, h5, h6⟩
      rw [e] at h1
      obtain ⟨c', k1, k2, k3⟩ := hblk c ty fz h1
      refine ⟨c', ty, fz, by rw [e]; exact k1, h2, fun i hi => ?_, by rw [k2]; exact h4, by rw [k2]; exact h5, by rw [k2]; exact h6⟩
      obtain ⟨v, q1, q2, q3, q4⟩ := h3 i hi
      exact ⟨v, q1, q2, q3, by rw [k3 _ (by omega)]; exact q4⟩
    by_cases e' : p = o
    · subst e'
      rw [ha] at hb; injection hb with hb; subst hb
      exact key (Nat.le_refl _) hor
    · cases b with
      | dead => trivial
      | ce n es' z' zl' d' t' top sh' =>
        obtain ⟨_, h2, _⟩ := hr.apart o p _ _ (Ne.symm e') ho hp ha hb rfl rfl e.symm
        exact key h2 hor
      | sm l => exact absurd (hr.apart o p _ _ (Ne.symm e') ho hp ha hb rfl rfl e.symm).2.2 (by simp [AO.wr])
      | st t0 l => exact absurd (hr.apart o p _ _ (Ne.symm e') ho hp ha hb rfl rfl e.symm).2.2 (by simp [AO.wr])
      | bt t0 l => exact absurd (hr.apart o p _ _ (Ne.symm e') ho hp ha hb rfl rfl e.symm).2.2 (by simp [AO.wr])
      | mp a b => exact absurd (hr.apart o p _ _ (Ne.symm e') ho hp ha hb rfl rfl e.symm).2.2 (by simp [AO.wr])
      | it a1 b1 c1 d1 => exact absurd (hr.apart o p _ _ (Ne.symm e') ho hp ha hb rfl rfl e.symm).2.2 (by simp [AO.wr])
      | lp a1 b1 c1 d1 e1 f1 => exact absurd (hr.apart o p _ _ (Ne.symm e') ho hp ha hb rfl rfl e.symm).2.2 (by simp [AO.wr])
      | df a => exact absurd (hr.apart o p _ _ (Ne.symm e') ho hp ha hb rfl rfl e.symm).2.2 (by simp [AO.wr])
  · exact hor.mono (.refl θ) hp (hoth _ e)
/-- a row behind another one, in its block -/
theorem HR.grow (hr : HR P w0 pd θ h nx w) {o N es zl d : Nat} {z : List AV} {t : L (Option AV) d} {sh : List Nat} (ho : θ.has o) (ha : obj h o = some (.ce N es z zl d t true sh)) (hn : nx < 2097152)
    (hsz : w'.heap.size = w.heap.size) (hp' : w'.os = w.os ∧ w'.tape = w.tape ∧ w'.output = w.output)
    (hoth : ∀ b, b ≠ θ.blk o → w'.heap[b]? = w.heap[b]?) (hblk : ∀ c ty fz, w.heap[θ.blk o]? = some (.cells c ty fz) → ∃ c', w'.heap[θ.blk o]? = some (.cells c' ty fz) ∧ c'.size = c.size ∧ ∀ i, i < θ.bas o + N → c'[i]? = c[i]?)
    {n' es' zl' d' bs sz : Nat} {z' : List AV} {t' : L (Option AV) d'} (hle : θ.bas o + N ≤ bs + n') (hnew : OR P (θ.put nx (θ.blk o) bs sz es') w' nx (.ce n' es' z' zl' d' t' true (o :: sh))) :
    HR P w0 pd (θ.put nx (θ.blk o) bs sz es') (setO (setO h o (.ce N es z zl d t false sh)) nx (.ce n' es' z' zl' d' t' true (o :: sh))) (nx + 1) w' ∧ θ.le (θ.put nx (θ.blk o) bs sz es') := by
  have hnx : ¬ θ.has nx := fun hx => Nat.lt_irrefl _ (hr.own nx hx).1
  have hle' := Th.le_put hnx (θ.blk o) bs sz es'
  have hon : o ≠ nx := fun e => hnx (e ▸ ho)
  have hko := HR.keep (w' := w') hr ho ha hoth hblk
  have ob : ∀ p, θ.has p → p ≠ o → obj (setO (setO h o (.ce N es z zl d t false sh)) nx (.ce n' es' z' zl' d' t' true (o :: sh))) p = obj h p := fun p hp e => by
    rw [obj_set_ne _ _ hn (hr.lt32 hp) (fun e => hnx (e ▸ hp)), obj_set_ne _ _ (hr.lt32 ho) (hr.lt32 hp) e]
  have obo : obj (setO (setO h o (.ce N es z zl d t false sh)) nx (.ce n' es' z' zl' d' t' true (o :: sh))) o = some (.ce N es z zl d t false sh) := by
    rw [obj_set_ne _ _ hn (hr.lt32 ho) hon, obj_set]
  have hsh : ∀ x ∈ sh, θ.has x := by
    obtain ⟨_, _, _, b, h1, _, h2⟩ := hr.own o ho
    rw [ha] at h1; injection h1 with h1; subst h1; exact h2
  have ext : ∀ (c : AO) (p : Nat), θ.has p → c.ext (θ.put nx (θ.blk o) bs sz es') p = c.ext θ p := fun c p hp => by cases c <;> simp only [AO.ext, hle'.bas p hp]
  refine ⟨⟨by omega, fun p hp => ?_, fun p q b b' hne hp hq hb hb' hw hl he => ?_, by rw [hsz]; exact hr.size, fun b hb hi => ?_, ⟨hp'.1.trans hr.plain.1, hp'.2.1.trans hr.plain.2.1, hp'.2.2.trans hr.plain.2.2⟩, fun p b hb => ?_, hr.nodup, (hr.fresh.set (Nat.le_refl _) (hr.own o ho).1 (hr.lt32 ho)).set (by omega) (by omega) hn, hr.glo⟩, hle'⟩
  · by_cases e : p = nx
    · subst e
      obtain ⟨a1, a2, a3, _⟩ := hr.own o ho
      refine ⟨by omega, by rw [Th.put_blk]; exact a2, by rw [Th.put_blk, hsz]; exact a3, _, obj_set _ _ _, hnew, fun x hx => ?_⟩
      rcases List.mem_cons.1 hx with rfl | hx
      · exact hle'.has _ ho
      · exact hle'.has _ (hsh x hx)
    · have hp1 : θ.has p := hp.resolve_left e
      obtain ⟨a1, a2, a3, b, a4, _, a6⟩ := hr.own p hp1
      have hor := hko p b hp1 a4
      by_cases e' : p = o
      · subst e'
        rw [ha] at a4; injection a4 with a4; subst a4
        refine ⟨by omega, by rw [hle'.blk p hp1]; exact a2, by rw [hle'.blk p hp1, hsz]; exact a3, _, obo, ?_, fun x hx => hle'.has x (hsh x hx)⟩
        exact OR.mono (a := .ce N es z zl d t true sh) hle' hp1 rfl hor
      · exact ⟨by omega, by rw [hle'.blk p hp1]; exact a2, by rw [hle'.blk p hp1, hsz]; exact a3, b, by rw [ob p hp1 e']; exact a4, hor.mono hle' hp1 rfl, fun x hx => hle'.has x (a6 x hx)⟩
  · by_cases e : p = nx
    · subst e
      rw [obj_set] at hb; injection hb with hb; subst hb
      have hq1 : θ.has q := hq.resolve_left (Ne.symm hne)
      rw [Th.put_blk, hle'.blk q hq1] at he
      have hx : (AO.ce n' es' z' zl' d' t' true (o :: sh)).ext (θ.put p (θ.blk o) bs sz es') p = bs + n' := by simp [AO.ext]
      rw [hx, ext b' q hq1]
      by_cases e' : q = o
      · subst e'
        rw [obo] at hb'; injection hb' with hb'; subst hb'
        exact ⟨List.mem_cons_self .., hle, rfl⟩
      · rw [ob q hq1 e'] at hb'
        obtain ⟨h1, h2, h3⟩ := hr.apart o q _ b' (Ne.symm e') ho hq1 ha hb' rfl hl he
        exact ⟨List.mem_cons_of_mem _ h1, Nat.le_trans h2 hle, h3⟩
    · have hp1 : θ.has p := hp.resolve_left e
      by_cases ep : p = o
      · subst ep
        rw [obo] at hb; injection hb with hb; subst hb; cases hw
      · rw [ob p hp1 ep] at hb
        have hpo : θ.blk p ≠ θ.blk o := fun heq => by
          have := (hr.apart p o b _ ep hp1 ho hb ha hw rfl heq).2.2
          cases this
        by_cases eq : q = nx
        · subst eq
          rw [Th.put_blk, hle'.blk p hp1] at he
          exact absurd he hpo
        · have hq1 : θ.has q := hq.resolve_left eq
          rw [hle'.blk p hp1, hle'.blk q hq1] at he
          by_cases eqo : q = o
          · subst eqo; exact absurd he hpo
          · rw [ob q hq1 eqo] at hb'
            rw [ext b' q hq1, ext b p hp1]
            exact hr.apart p q b b' hne hp1 hq1 hb hb' hw hl he
  · have := (hr.own o ho).2.1
    rw [hoth b (fun e => by subst e; exact this.elim (fun h => by omega) hi)]; exact hr.kept b hb hi
  · obtain ⟨p1, p2, p3⟩ := hr.pend p b hb
    refine ⟨fun hx => hx.elim (fun e => by omega) p1, by omega, ?_⟩
    rw [obj_set_ne _ _ hn (Nat.lt_of_lt_of_le p2 hr.lim) (by omega), obj_set_ne _ _ (hr.lt32 ho) (Nat.lt_of_lt_of_le p2 hr.lim) (fun e => p1 (e ▸ ho))]
    exact p3
/-- an empty end of a row -/
theorem HR.tail (hr : HR P w0 pd θ h nx w) {o N es zl d : Nat} {z : List AV} {t : L (Option AV) d} {sh : List Nat} (ho : θ.has o) (ha : obj h o = some (.ce N es z zl d t true sh)) (hn : nx < 2097152)
    {es' bs sz : Nat} (hle : bs ≤ θ.bas o + N) (hnew : OR P (θ.put nx (θ.blk o) bs sz es') w nx (.ce 0 es' [] 0 0 none false [])) :
    HR P w0 pd (θ.put nx (θ.blk o) bs sz es') (setO (setO h o (.ce N es z zl d t true (nx :: sh))) nx (.ce 0 es' [] 0 0 none false [])) (nx + 1) w ∧ θ.le (θ.put nx (θ.blk o) bs sz es') := by
  have hnx : ¬ θ.has nx := fun hx => Nat.lt_irrefl _ (hr.own nx hx).1
  have hle' := Th.le_put hnx (θ.blk o) bs sz es'
  have hon : o ≠ nx := fun e => hnx (e ▸ ho)
  have ob : ∀ p, θ.has p → p ≠ o → obj (setO (setO h o (.ce N es z zl d t true (nx :: sh))) nx (.ce 0 es' [] 0 0 none false [])) p = obj h p := fun p hp e => by
    rw [obj_set_ne _ _ hn (hr.lt32 hp) (fun e => hnx (e ▸ hp)), obj_set_ne _ _ (hr.lt32 ho) (hr.lt32 hp) e]
  have obo : obj (setO (setO h o (.ce N es z zl d t true (nx :: sh))) nx (.ce 0 es' [] 0 0 none false [])) o = some (.ce N es z zl d t true (nx :: sh)) := by
    rw [obj_set_ne _ _ hn (hr.lt32 ho) hon, obj_set]
  have hsh : ∀ x ∈ sh, θ.has x := by
    obtain ⟨_, _, _, b, h1, _, h2⟩ := hr.own o ho
    rw [ha] at h1; injection h1 with h1; subst h1; exact h2
  have ext : ∀ (c : AO) (p : Nat), θ.has p → c.ext (θ.put nx (θ.blk o) bs sz es') p = c.ext θ p := fun c p hp => by cases c <;> simp only [AO.ext, hle'.bas p hp]
  refine ⟨⟨by omega, fun p hp => ?_, fun p q b b' hne hp hq hb hb' hw hl he => ?_, hr.size, hr.kept, hr.plain, fun p b hb => ?_, hr.nodup, (hr.fresh.set (Nat.le_refl _) (hr.own o ho).1 (hr.lt32 ho)).set (by omega) (by omega) hn, hr.glo⟩, hle'⟩
  · by_cases e : p = nx
    · subst e
      obtain ⟨a1, a2, a3, _⟩ := hr.own o ho
      exact ⟨by omega, by rw [Th.put_blk]; exact a2, by rw [Th.put_blk]; exact a3, _, obj_set _ _ _, hnew, fun x hx => by cases hx⟩
    · have hp1 : θ.has p := hp.resolve_left e
      obtain ⟨a1, a2, a3, b, a4, hor, a6⟩ := hr.own p hp1
      by_cases e' : p = o
      · subst e'
        rw [ha] at a4; injection a4 with a4; subst a4
        refine ⟨by omega, by rw [hle'.blk p hp1]; exact a2, by rw [hle'.blk p hp1]; exact a3, _, obo, ?_, fun x hx => ?_⟩
        · exact OR.mono (a := .ce N es z zl d t true sh) hle' hp1 rfl hor
        · rcases List.mem_cons.1 hx with rfl | hx
          · exact Th.put_has ..
          · exact hle'.has x (hsh x hx)
      · exact ⟨by omega, by rw [hle'.blk p hp1]; exact a2, by rw [hle'.blk p hp1]; exact a3, b, by rw [ob p hp1 e']; exact a4, hor.mono hle' hp1 rfl, fun x hx => hle'.has x (a6 x hx)⟩
  · by_cases e : p = nx
    · subst e
      rw [obj_set] at hb; injection hb with hb; subst hb; cases hw
    · have hp1 : θ.has p := hp.resolve_left e
      by_cases ep : p = o
      · subst ep
        rw [obo] at hb; injection hb with hb; subst hb
        by_cases eq : q = nx
        · subst eq
          rw [obj_set] at hb'; injection hb' with hb'; subst hb'
          refine ⟨List.mem_cons_self .., ?_, rfl⟩
          have hx : (AO.ce 0 es' [] 0 0 none false []).ext (θ.put q (θ.blk p) bs sz es') q = bs := by simp [AO.ext]
          rw [hx, ext _ p hp1]
          exact hle
        · have hq1 : θ.has q := hq.resolve_left eq
          rw [ob q hq1 (Ne.symm hne)] at hb'
          rw [hle'.blk p hp1, hle'.blk q hq1] at he
          rw [ext b' q hq1, ext _ p hp1]
          obtain ⟨h1, h2, h3⟩ := hr.apart p q _ b' hne hp1 hq1 ha hb' rfl hl he
          exact ⟨List.mem_cons_of_mem _ h1, h2, h3⟩
      · rw [ob p hp1 ep] at hb
        have hpo : θ.blk p ≠ θ.blk o := fun heq => by
          have := (hr.apart p o b _ ep hp1 ho hb ha hw rfl heq).2.2
          cases this
        by_cases eq : q = nx
        · subst eq
          rw [Th.put_blk, hle'.blk p hp1] at he
          exact absurd he hpo
        · have hq1 : θ.has q := hq.resolve_left eq
          rw [hle'.blk p hp1, hle'.blk q hq1] at he
          by_cases eqo : q = o
          · subst eqo; exact absurd he hpo
          · rw [ob q hq1 eqo] at hb'
            rw [ext b' q hq1, ext b p hp1]
            exact hr.apart p q b b' hne hp1 hq1 hb hb' hw hl he
  · obtain ⟨p1, p2, p3⟩ := hr.pend p b hb
    refine ⟨fun hx => hx.elim (fun e => by omega) p1, by omega, ?_⟩
    rw [obj_set_ne _ _ hn (Nat.lt_of_lt_of_le p2 hr.lim) (by omega), obj_set_ne _ _ (hr.lt32 ho) (Nat.lt_of_lt_of_le p2 hr.lim) (fun e => p1 (e ▸ ho))]
    exact p3
end

section
variable {P : Program} {o : Oper} {x y z : XF} {X Y Z : Operand}
/-! ### What else acts -/
theorem a_s2b {s d el : TypeId} (hx : XOk x X) (hs : P.underlying s = some .string) (hd : P.underlying d = some (.slice el)) (he : P.underlying el = some (.int .u8)) (ho : o.op = .convert s d X) : OpOk P o (oS2b x) := by
  intro en h nx κ w0 pd θ a w hE hR e
  obtain ⟨v, hv, hr⟩ := hx en
  simp only [oS2b, hv] at e
  obtain ⟨l, rfl, e1⟩ := asS_true e
  have ofb : ∀ (l : List Nat) (κ : List AV → R), ofBytes l κ = κ (l.map fun m => .i 4 (.ofNat m)) := by
    intro l
    induction l with
    | nil => intro κ; rfl
    | cons m l ih => intro κ; exact ih _
  simp only [ofb, fnat_eq, lenN_eq] at e1
  obtain ⟨hn, e2⟩ := newK_true e1
  obtain ⟨hp, hb⟩ := (hr θ a hE).s
  have hnx : ¬ θ.has nx := fun hx => Nat.lt_irrefl _ (hR.own nx hx).1
  have hok : ∀ θ, Oks θ (l.map fun m => AV.i 4 (.ofNat m)) := fun θ => Oks_iff.2 fun v hv => by obtain ⟨m, _, rfl⟩ := List.mem_map.1 hv; trivial
  have hone : (l.map fun m => AV.i 4 (.ofNat m)).all one = true := List.all_eq_true.2 fun v hv => by obtain ⟨m, _, rfl⟩ := List.mem_map.1 hv; rfl
  -- the row
  obtain ⟨cap, hcap0⟩ : ∃ n, n = (Question.appendCap (bytesOf l).size 0 el).cut (w.tape w.drawn (Question.appendCap (bytesOf l).size 0 el)) := ⟨_, rfl⟩
  obtain ⟨c, hc0⟩ : ∃ c : Array Value, c = (bytesOf l).data.map (fun b => Value.int .u8 b.toNat) ++ Array.replicate (cap - (bytesOf l).size) (.int .u8 0) := ⟨_, rfl⟩
  have hcap : l.length ≤ cap := by
    rw [hcap0]
    show l.length ≤ (bytesOf l).size + _
    rw [bytes_size]; omega
  have hcs : c.size = cap := by
    rw [hc0, Array.size_append, Array.size_map, Array.size_replicate]
    have : (bytesOf l).data.size = l.length := by rw [← bytes_size l]; rfl
    rw [this, bytes_size]; omega
  have hci : ∀ i, i < l.length → ∀ θ, c[i]? = ((l.map fun m => AV.i 4 (.ofNat m))[i]?).map (toV θ) := by
    intro i hi θ
    rw [hc0]
    have hsz : (bytesOf l).data.size = l.length := by rw [← bytes_size l]; rfl
    rw [Array.getElem?_append_left (by rw [Array.size_map, hsz]; exact hi)]
    have hm : l[i] < 256 := hb _ (List.getElem_mem hi)
    simp [bytesOf, hi, toV, kindOf, Nat.mod_eq_of_lt hm]
  obtain ⟨w1, hw1⟩ : ∃ w1 : World, w1 = { w with drawn := w.drawn + 1, heap := w.heap.push (.cells c el (c.size, c.size + 1)) } := ⟨_, rfl⟩
  obtain ⟨k1, k2⟩ := hR.new (w' := w1) (ob := .cells c el (c.size, c.size + 1)) (by rw [hw1]) (by rw [hw1]; exact ⟨rfl, rfl, rfl⟩) hn (a := .ce l.length 1 (l.map fun m => .i 4 (.ofNat m)) l.length (deep l.length) (E (deep l.length)) true []) (bs := 0) (sz := cap) (es := 1) (by
    refine ⟨c, el, (c.size, c.size + 1), ?_, deep_ge _, fun i hi => ?_, .inr (Nat.le_refl _), fun h => by omega, fun _ => ⟨by simp, by rw [Th.put_siz]; exact hcap, by rw [Th.put_bas, Th.put_siz, hcs]; omega⟩⟩
    · rw [Th.put_blk, hw1]
      show (w.heap.push _)[w.heap.size]? = _
      simp
    · refine ⟨.i 4 (.ofNat l[i]), ?_, trivial, rfl, ?_⟩
      · rw [cellO_E, Nat.mod_eq_of_lt hi]; simp [hi]
      · rw [Th.put_bas, Nat.zero_add, hci i hi θ]; simp [hi, toV]) (by intro x hx; cases hx)
  refine ⟨.sl nx 0 l.length none, .slice (some ⟨w.heap.size, 0, none⟩) l.length cap, _, _, _, w1, .value _, k2, ⟨Th.put_has .., by simp [toV]⟩, k1, e2, ?_, rfl⟩
  have hlen : (bytesOf l).size = l.length := bytes_size l
  have hf : (Question.appendCap (bytesOf l).size 0 el).forced = false := rfl
  simp only [execOp, ho, hp, convert, Sem.run_bind, run_underlying hs, run_underlying hd, run_underlying he, Result.andThen, Conv.stringToBytes, choose, Sem.run, hf, Bool.false_eq_true, if_false, newRow, newObj, markStringish, shape, Sem.run_pure]
  have hsh : World.shape? { w with drawn := w.drawn + 1, heap := w.heap.push (.cells c el) } w.heap.size = some (el, c.size) := by simp [World.shape?]
  have hfz : World.freeze { w with drawn := w.drawn + 1, heap := w.heap.push (.cells c el) } { block := w.heap.size, off := c.size } 1 = w1 := by
    have : (w.heap.push (Obj.cells c el)).modify w.heap.size (fun
        | .cells c' elem (lo, hi) => .cells c' elem (if lo == hi then (c.size, c.size + 1) else (min lo c.size, max hi (c.size + 1)))
        | o => o) = w.heap.push (.cells c el (c.size, c.size + 1)) := by
      apply Array.ext_getElem?
      intro i
      rw [Array.getElem?_modify]
      by_cases hi : w.heap.size = i
      · subst hi; simp
      · rw [if_neg hi]
        by_cases hl : i < w.heap.size
        · rw [Array.getElem?_push_lt hl, Array.getElem?_push_lt hl]
        · rw [Array.getElem?_eq_none (by simp; omega), Array.getElem?_eq_none (by simp; omega)]
    unfold World.freeze
    rw [if_neg (by decide)]
    rw [hw1]
    show ({ w with drawn := w.drawn + 1, heap := _ } : World) = { w with drawn := w.drawn + 1, heap := _ }
    congr 1
  rw [← hcap0, ← hc0, hsh]
  simp only [freeze, Sem.run]
  rw [hfz, hlen]
end
end Go.AM
