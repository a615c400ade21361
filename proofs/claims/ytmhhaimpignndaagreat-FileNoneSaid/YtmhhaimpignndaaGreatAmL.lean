/-
  AM, 13: operations that lay something new. Conditions: none.
-/
import Derived.Test.YtmhhaimpignndaaGreatAmK
namespace Go.AM
open Go

/-- what is to be laid still -/
theorem HR.pended {P : Program} {w0 w : World} {pd : List (Nat × AO)} {θ : Th} {h : H} {nx : Nat} (hr : HR P w0 pd θ h nx w) (hn : nx < 32768) (a : AO) : HR P w0 ((nx, a) :: pd) θ (setO h nx a) (nx + 1) w := by
  have hnx : ¬ θ.has nx := fun hx => Nat.lt_irrefl _ (hr.own nx hx).1
  have hob : ∀ o, θ.has o → obj (setO h nx a) o = obj h o := fun o ho => obj_set_ne h a hn (hr.lt32 ho) (fun e => hnx (e ▸ ho))
  have hpd : ∀ o b, (o, b) ∈ pd → o ≠ nx := fun o b hb e => by have := (hr.pend o b hb).2.1; omega
  refine ⟨by omega, fun o ho => ?_, fun o o' b b' hne ho ho' hb hb' => ?_, hr.size, hr.kept, hr.plain, fun o b hb => ?_, ?_, hr.fresh.set (by omega) (by omega) hn⟩
  · obtain ⟨a1, a2, a3, b, a4, a5, a6⟩ := hr.own o ho
    exact ⟨by omega, a2, a3, b, by rw [hob o ho]; exact a4, a5, a6⟩
  · rw [hob o ho] at hb
    rw [hob o' ho'] at hb'
    exact hr.apart o o' b b' hne ho ho' hb hb'
  · rcases List.mem_cons.1 hb with hb | hb
    · injection hb with h1 h2; subst h1 h2
      exact ⟨hnx, by omega, obj_set _ _ _⟩
    · obtain ⟨p1, p2, p3⟩ := hr.pend o b hb
      exact ⟨p1, by omega, by rw [obj_set_ne h a hn (Nat.lt_of_lt_of_le p2 hr.lim) (hpd o b hb)]; exact p3⟩
  · simp only [List.map_cons, List.nodup_cons]
    refine ⟨fun hm => ?_, hr.nodup⟩
    obtain ⟨⟨o, b⟩, hb, he⟩ := List.mem_map.1 hm
    exact hpd o b hb he
def clip (o : Nat) : Nat := if o < 32768 then o else 28672 + o % 4096
theorem clip_lt (o : Nat) : clip o < 32768 := by unfold clip; split <;> omega
theorem obj_clip (h : H) (o : Nat) : obj h o = obj h (clip o) := by
  unfold clip
  split
  · rfl
  · rename_i ho
    show getL (Option AO) 4 (o % 8 ^ 4) (ch (o / 8 ^ 4) (h : N8 (L (Option AO) 4))) = getL (Option AO) 4 ((28672 + o % 4096) % 8 ^ 4) (ch ((28672 + o % 4096) / 8 ^ 4) (h : N8 (L (Option AO) 4)))
    have e1 : (28672 + o % 4096) % 8 ^ 4 = o % 8 ^ 4 := by omega
    have e2 : (28672 + o % 4096) / 8 ^ 4 = 7 := by omega
    obtain ⟨k, e3⟩ : ∃ k, o / 8 ^ 4 = k + 7 := ⟨o / 8 ^ 4 - 7, by omega⟩
    rw [e1, e2, e3]
    have : ∀ t : N8 (L (Option AO) 4), ch (k + 7) t = ch 7 t := by intro t; cases t; rfl
    exact congrArg _ (this _)
theorem HR.ext_new {P : Program} {w0 w : World} {pd : List (Nat × AO)} {θ : Th} {h : H} {nx : Nat} (hr : HR P w0 pd θ h nx w) (hn : nx < 32768) (a : AO) : Ext h (setO h nx a) := by
  intro o b hb
  rw [obj_clip] at hb ⊢
  have hlt := hr.fresh _ _ (clip_lt o) hb
  rw [obj_set_ne h a hn (clip_lt o) (by omega)]
  exact hb
/-- it is laid, in a new block -/
theorem HR.real {P : Program} {w0 w w' : World} {pd : List (Nat × AO)} {θ : Th} {h : H} {nx : Nat} (hr : HR P w0 pd θ h nx w) {o : Nat} {a : AO} (hp : (o, a) ∈ pd) {ob : Obj} (hh : w'.heap = w.heap.push ob)
    (hpl : w'.os = w.os ∧ w'.tape = w.tape ∧ w'.output = w.output) {bs sz es : Nat} (ha : OR P (θ.put o w.heap.size bs sz es) w' o a) (hsh : a.sh = []) :
    HR P w0 (pd.filter fun q => q.1 != o) (θ.put o w.heap.size bs sz es) h nx w' ∧ θ.le (θ.put o w.heap.size bs sz es) := by
  obtain ⟨hno, holt, hobj⟩ := hr.pend o a hp
  have hle := Th.le_put hno w.heap.size bs sz es
  have hold : ∀ b, b < w.heap.size → w'.heap[b]? = w.heap[b]? := fun b hb => by rw [hh, Array.getElem?_push_lt hb, Array.getElem?_eq_getElem hb]
  refine ⟨⟨hr.lim, ?_, ?_, ?_, ?_, ?_, ?_, ?_, hr.fresh⟩, hle⟩
  · intro p hpp
    by_cases e : p = o
    · subst e
      exact ⟨holt, .inl (by rw [Th.put_blk]; exact hr.size), by rw [Th.put_blk, hh]; simp, a, hobj, ha, fun x hx => by rw [hsh] at hx; cases hx⟩
    · have ho' : θ.has p := hpp.resolve_left e
      obtain ⟨a1, a2, a3, b, a4, a5, a6⟩ := hr.own p ho'
      exact ⟨a1, by rw [hle.blk p ho']; exact a2, by rw [hle.blk p ho', hh]; simp; omega, b, a4, a5.mono hle ho' (hold _ a3), fun x hx => hle.has x (a6 x hx)⟩
  · intro p p' b b' hne h1 h2 hb hb' hw hl heq
    by_cases e : p = o
    · subst e
      have h' : θ.has p' := h2.resolve_left (fun e => hne e.symm)
      rw [Th.put_blk, hle.blk p' h'] at heq
      have := (hr.own p' h').2.2.1
      omega
    · have q1 : θ.has p := h1.resolve_left e
      by_cases e' : p' = o
      · subst e'
        rw [Th.put_blk, hle.blk p q1] at heq
        have := (hr.own p q1).2.2.1
        omega
      · have q2 : θ.has p' := h2.resolve_left e'
        rw [hle.blk p q1, hle.blk p' q2] at heq
        have := hr.apart p p' b b' hne q1 q2 hb hb' hw hl heq
        refine ⟨this.1, ?_⟩
        have hx : ∀ (c : AO) (p : Nat), θ.has p → c.ext (θ.put o w.heap.size bs sz es) p = c.ext θ p := fun c p hp => by cases c <;> simp only [AO.ext, hle.bas p hp]
        rw [hx b' p' q2, hx b p q1]; exact this.2
  · rw [hh]; simp; have := hr.size; omega
  · intro b hb hi; rw [hold b (Nat.lt_of_lt_of_le hb hr.size)]; exact hr.kept b hb hi
  · exact ⟨hpl.1.trans hr.plain.1, hpl.2.1.trans hr.plain.2.1, hpl.2.2.trans hr.plain.2.2⟩
  · intro p b hb
    obtain ⟨hb1, hb2⟩ := List.mem_filter.1 hb
    obtain ⟨p1, p2, p3⟩ := hr.pend p b hb1
    refine ⟨fun hx => hx.elim (fun e => ?_) p1, p2, p3⟩
    simp [e] at hb2
  · exact (List.Sublist.map _ List.filter_sublist).nodup hr.nodup

/-- an operation that lays something new -/
def NewOk (P : Program) (o : Oper) (f : OpF) : Prop := ∀ en h nx κ, f en h nx κ = true →
  ∃ (a0 : AO) (v : Nat → AV), a0.sh = [] ∧ nx < 32768 ∧ κ (v nx) (setO h nx a0) (nx + 1) = true ∧ (∀ h' nx' κ', nx' < 32768 → f en h' nx' κ' = κ' (v nx') (setO h' nx' a0) (nx' + 1)) ∧
    ∀ w0 pd θ (a : Act) w h1 nx1 o', ER θ en a.tmps → HR P w0 pd θ h1 nx1 w → (o', a0) ∈ pd →
      ∃ u θ' w', θ.le θ' ∧ VR θ' (v o') u ∧ HR P w0 (pd.filter fun q => q.1 != o') θ' h1 nx1 w' ∧ (execOp a.eval o).run P w = .ok (.value u) w'
theorem newK_true {a : AO} {h : H} {nx : Nat} {κ : Nat → H → Nat → R} (e : newK a h nx κ = true) : nx < 32768 ∧ κ nx (setO h nx a) (nx + 1) = true := by
  obtain ⟨h1, h2⟩ := br_t e
  refine ⟨by simpa [Nat.blt_eq] using h1, ?_⟩
  rw [put_eq, fnat_eq] at h2
  exact h2
theorem newK_eq {a : AO} {h : H} {nx : Nat} (hn : nx < 32768) (κ : Nat → H → Nat → R) : newK a h nx κ = κ nx (setO h nx a) (nx + 1) := by
  unfold newK
  rw [show Nat.blt nx 32768 = true by simpa [Nat.blt_eq] using hn]
  show put nx a h _ = _
  rw [put_eq, fnat_eq]
theorem deep_ge (n : Nat) : n ≤ 8 ^ deep n := by
  unfold deep
  cases h1 : Nat.ble n 8 with
  | true => have := Nat.le_of_ble_eq_true h1; show n ≤ 8 ^ 1; omega
  | false =>
    cases h2 : Nat.ble n 64 with
    | true => have := Nat.le_of_ble_eq_true h2; show n ≤ 8 ^ 2; omega
    | false =>
      cases h3 : Nat.ble n 512 with
      | true => have := Nat.le_of_ble_eq_true h3; show n ≤ 8 ^ 3; omega
      | false =>
        cases h4 : Nat.ble n 4096 with
        | true => have := Nat.le_of_ble_eq_true h4; show n ≤ 8 ^ 4; omega
        | false =>
          cases h5 : Nat.ble n 32768 with
          | true => have := Nat.le_of_ble_eq_true h5; show n ≤ 8 ^ 5; omega
          | false =>
            cases h6 : Nat.ble n 2097152 with
            | true => have := Nat.le_of_ble_eq_true h6; show n ≤ 8 ^ 7; omega
            | false =>
              show n ≤ 8 ^ n
              exact Nat.le_of_lt (Nat.lt_pow_self (by omega))
/-- an object of n cells, as it is laid -/
noncomputable def newO (l : List AV) (n : Nat) : AO := @Bool.rec (fun _ => AO) (.ce n 0 l n (deep n) (E (deep n)) true []) (.sm l) (Nat.ble n 16)
theorem newL_eq (l : List AV) (n : Nat) (h : H) (nx : Nat) (κ : Nat → H → Nat → R) : newL l n h nx κ = newK (newO l n) h nx κ := by
  unfold newL newO
  cases Nat.ble n 16 <;> rfl
theorem newO_sh (l : List AV) (n : Nat) : (newO l n).sh = [] := by unfold newO; cases Nat.ble n 16 <;> rfl
theorem cellO_E {z : List AV} {zl d i : Nat} : cellO z zl d (E d) i = z[i % zl]? := by
  unfold cellO E
  rw [getL_repL]
theorem OR_newO {P : Program} {θ : Th} {w : World} {o : Nat} {l : List AV} {ty : TypeId} (hb : w.heap[θ.blk o]? = some (.cells (toVs θ l).toArray ty (0, 0))) (hbas : θ.bas o = 0) (hl : Oks θ l) (h1 : l.all one = true) : OR P θ w o (newO l l.length) := by
  unfold newO
  cases hn : Nat.ble l.length 16 with
  | true => exact ⟨ty, hb, hbas, hl, h1⟩
  | false =>
    refine ⟨_, ty, (0, 0), hb, deep_ge _, fun i hi => ⟨l[i], ?_, Oks_iff.1 hl _ (List.getElem_mem hi), List.all_eq_true.1 h1 _ (List.getElem_mem hi), ?_⟩, .inl rfl, fun _ => ⟨hbas, by simp, fun _ => rfl⟩, fun h => absurd rfl h⟩
    · rw [cellO_E, Nat.mod_eq_of_lt hi]; exact List.getElem?_eq_getElem hi
    · rw [hbas, Nat.zero_add, List.getElem?_toArray, toVs_get, List.getElem?_eq_getElem hi]; rfl
section
variable {P : Program} {o : Oper} {x y : XF} {X Y : Operand}
theorem toVs_mono {θ θ' : Th} (h : θ.le θ') {l : List AV} (hl : Oks θ l) : toVs θ' l = toVs θ l ∧ Oks θ' l := monos h l hl
/-- a block of cells laid for an object -/
theorem lay_cells {w0 w w' : World} {pd : List (Nat × AO)} {θ : Th} {h : H} {nx : Nat} (hr : HR P w0 pd θ h nx w) {o' : Nat} {l : List AV} {ty : TypeId} (hp : (o', newO l l.length) ∈ pd) (hw : w' = w.alloc (.cells (toVs θ l).toArray ty)) (hl : Oks θ l) (h1 : l.all one = true) :
    HR P w0 (pd.filter fun q => q.1 != o') (θ.put o' w.heap.size 0 0 0) h nx w' ∧ θ.le (θ.put o' w.heap.size 0 0 0) := by
  subst hw
  have hno := (hr.pend o' _ hp).1
  have hle := Th.le_put hno w.heap.size 0 0 0
  refine hr.real hp (w' := w.alloc (.cells (toVs θ l).toArray ty)) (ob := .cells (toVs θ l).toArray ty) rfl ⟨rfl, rfl, rfl⟩ ?_ (newO_sh _ _)
  refine OR_newO (ty := ty) ?_ (by simp) (toVs_mono hle hl).2 h1
  rw [Th.put_blk, (toVs_mono hle hl).1]
  show (w.heap.push _)[w.heap.size]? = _
  simp
theorem n_al {el : TypeId} {z : List AV} (hz : zeroT P el = some z) (ho : o.op = .alloc el) : NewOk P o (oAl z z.length) := by
  intro en h nx κ e
  obtain ⟨ti, zv, i1, i2, i3, i4⟩ := zeroT_some hz
  have e : newL z z.length h nx (fun o h nx => κ (.p o 0) h nx) = true := e
  rw [newL_eq] at e
  obtain ⟨hn, e1⟩ := newK_true e
  refine ⟨newO z z.length, fun o => .p o 0, newO_sh _ _, hn, e1, fun h' nx' κ' hn' => ?_, fun w0 pd θ a w h1 nx1 o' hE hR hp => ?_⟩
  · show newL z z.length h' nx' _ = _
    rw [newL_eq, newK_eq hn']
  · obtain ⟨k1, k2⟩ := lay_cells hR hp (ty := el) rfl (i4 θ).1 i3
    refine ⟨.pointer (some ⟨w.heap.size, 0, none⟩), _, _, k2, ⟨Th.put_has .., by simp [toV]⟩, k1, ?_⟩
    simp [execOp, ho, Instr.alloc, zeroValue, typeInfo, i1, i2, newVar, newRow, (i4 θ).2]
theorem n_bx {el : TypeId} (hx : XOk x X) (ho : o.op = .box el X) : NewOk P o (oBx x) := by
  intro en h nx κ e
  obtain ⟨v, hv, hr⟩ := hx en
  simp only [oBx, hv] at e
  obtain ⟨hc, e1, hcr⟩ := cellsK_true e
  simp only [fnat_eq, lenN_eq, newL_eq] at e1
  obtain ⟨hn, e2⟩ := newK_true e1
  refine ⟨newO (cellsV v) (cellsV v).length, fun o => .p o 0, newO_sh _ _, hn, e2, fun h' nx' κ' hn' => ?_, fun w0 pd θ a w h1 nx1 o' hE hR hp => ?_⟩
  · simp only [oBx, hv, hc, fnat_eq, lenN_eq, newL_eq, newK_eq hn']
  · obtain ⟨q1, q2, q3⟩ := hcr (hr θ a hE)
    obtain ⟨k1, k2⟩ := lay_cells hR hp (ty := el) rfl q1 q2
    refine ⟨.pointer (some ⟨w.heap.size, 0, none⟩), _, _, k2, ⟨Th.put_has .., by simp [toV]⟩, k1, ?_⟩
    have hcs : (a.eval X).cells = (toVs θ (cellsV v)).toArray := by rw [← q3]
    simp [execOp, ho, Instr.box, newVar, newRow, hcs]
theorem rep_get {α : Type} {l : List α} : ∀ (n i : Nat), i < n * l.length → (rep n l)[i]? = l[i % l.length]?
  | 0, i, h => by simp at h
  | n + 1, i, h => by
    rw [rep]
    by_cases hi : i < l.length
    · rw [List.getElem?_append_left hi, Nat.mod_eq_of_lt hi]
    · rw [List.getElem?_append_right (by omega), rep_get n _ (by rw [Nat.succ_mul] at h; omega)]
      congr 1
      rw [← Nat.mod_eq_sub_mod (by omega)]
theorem rep_length {α : Type} (l : List α) : ∀ n, (rep n l).length = n * l.length
  | 0 => by simp [rep]
  | n + 1 => by rw [rep, List.length_append, rep_length l n, Nat.succ_mul]; omega
theorem rep_all {p : AV → Bool} {l : List AV} (h : l.all p = true) : ∀ n, (rep n l).all p = true
  | 0 => rfl
  | n + 1 => by rw [rep, List.all_append, h, rep_all h n]; rfl
theorem rep_oks {θ : Th} {l : List AV} (h : Oks θ l) : ∀ n, Oks θ (rep n l)
  | 0 => trivial
  | n + 1 => Oks_append.2 ⟨h, rep_oks h n⟩
/-- noughts of rows -/
theorem zeros_eq {θ : Th} {z : List AV} {zc : Array Value} (hz : zc = (toVs θ z).toArray) (n : Nat) : (Array.range (n * z.length)).map (fun i => zc[i % zc.size]!) = (toVs θ (rep n z)).toArray := by
  have hsz : zc.size = z.length := by rw [hz]; simp
  apply Array.ext_getElem?
  intro i
  by_cases hi : i < n * z.length
  · have hz0 : 0 < z.length := by rcases Nat.eq_zero_or_pos z.length with h | h; · rw [h] at hi; omega
                                  · exact h
    have hlt : i % z.length < z.length := Nat.mod_lt _ hz0
    rw [Array.getElem?_map, Array.getElem?_range, if_pos hi]
    simp only [Option.map_some, List.getElem?_toArray, toVs_get, rep_get n i hi, hsz]
    rw [List.getElem?_eq_getElem hlt]
    subst hz
    simp only [Option.map_some, Option.some.injEq]
    rw [getElem!_pos _ _ (by simpa using hlt)]
    simp [toVs_map]
  · rw [Array.getElem?_eq_none (by simp; omega), Array.getElem?_eq_none (by simp [rep_length]; omega)]
theorem n_bsl {t el : TypeId} {len s : Nat} {ps : Array (Nat × Operand)} {pts : List Pt} {z : List AV} (hu : P.underlying t = some (.slice el)) (hz : zeroT P el = some z) (hs : sizeT P el = some s) (hzs : z.length = s) (hb : len * s ≤ 2 ^ 24)
    (hp : parts (fun i => some (i * s, s)) ps.toList = some pts) (ho : o.op = .buildSlice t len ps) : NewOk P o (oBsl (rep len z) (len * s) len (dP pts)) := by
  intro en h nx κ e
  subst hzs
  obtain ⟨ti, zv, i1, i2, i3, i4⟩ := zeroT_some hz
  obtain ⟨l, k1, k2, k3⟩ := fill_ok (place' := fun i => some (i * z.length, z.length)) (fun i r hr => hr) hp e
  have hll : l.length = len * z.length := by rw [k2, rep_length]
  have e : newL l (len * z.length) h nx (fun o h nx => κ (.sl o 0 len (some len)) h nx) = true := by
    have := k1 fun l => newL l (len * z.length) h nx (fun o h nx => κ (.sl o 0 len (some len)) h nx)
    rw [← this]; exact e
  rw [newL_eq, ← hll] at e
  obtain ⟨hn, e1⟩ := newK_true e
  refine ⟨newO l l.length, fun o => .sl o 0 len (some len), newO_sh _ _, hn, e1, fun h' nx' κ' hn' => ?_, fun w0 pd θ a w h1 nx1 o' hE hR hp' => ?_⟩
  · refine (k1 _).trans ?_
    rw [newL_eq, ← hll, newK_eq hn']
  · obtain ⟨j1, j2, j3⟩ := k3 θ a hE (rep_oks (i4 θ).1 _) (rep_all i3 _)
    obtain ⟨q1, q2⟩ := lay_cells hR hp' (ty := el) rfl j1 j2
    refine ⟨.slice (some ⟨w.heap.size, 0, none⟩) len len, _, _, q2, ⟨Th.put_has .., by simp [toV]⟩, q1, ?_⟩
    have hps : (ps.map fun (i, x) => (i, a.eval x)).toList = ps.toList.map fun q => (q.1, a.eval q.2) := by simp
    have hn24 : ¬ (len * z.length > 2 ^ 24) := by omega
    have hz' : (zeroValue el).run P w = .ok zv w := by simp [zeroValue, typeInfo, i1, i2]
    by_cases h0 : len * z.length = 0
    · have hrow : (Array.range (len * z.length)).map (fun i => (#[] : Array Value)[i % (#[] : Array Value).size]!) = (toVs θ (rep len z)).toArray := by
        have : rep len z = [] := List.eq_nil_of_length_eq_zero (by rw [rep_length]; exact h0)
        rw [this, h0]; simp [toVs]
      simp only [execOp, ho, Instr.buildSlice, Sem.run_bind, run_underlying hu, Result.andThen, run_size hs, if_neg hn24, if_pos h0, Sem.run_pure, hps, hrow, j3, newRow, newObj]
      rfl
    · have hrow := zeros_eq (i4 θ).2 len
      simp only [execOp, ho, Instr.buildSlice, Sem.run_bind, run_underlying hu, Result.andThen, run_size hs, if_neg hn24, if_neg h0, Sem.run_pure, hz', hps, hrow, j3, newRow, newObj]
      rfl
theorem n_mks {t el : TypeId} {s b : Nat} {z : List AV} (hx : XOk x X) (hy : XOk y Y) (hu : P.underlying t = some (.slice el)) (hz : zeroT P el = some z) (hs : sizeT P el = some s) (hzs : z.length = s) (hs0 : 0 < s) (hb : bytesT P el = some b)
    (ho : o.op = .makeSlice t X Y) : NewOk P o (oMks x y s z b) := by
  intro en h nx κ e
  subst hzs
  obtain ⟨v, hv, hr⟩ := hx en
  obtain ⟨v2, hv2, hr2⟩ := hy en
  simp only [oMks, hv, hv2] at e
  obtain ⟨kl, l, rfl, e1⟩ := asN_true e
  obtain ⟨kc, c, rfl, e2⟩ := asN_true e1
  obtain ⟨h1, e3⟩ := br_t e2
  obtain ⟨h2, e4⟩ := br_t e3
  obtain ⟨h3, e5⟩ := br_t e4
  rw [fnat_eq] at e5
  obtain ⟨hn, e6⟩ := newK_true e5
  have h1' : l ≤ c := Nat.le_of_ble_eq_true h1
  have h2' : c ≤ 9223372036854775807 := Nat.le_of_ble_eq_true h2
  have h3' : b * c ≤ 281474976710656 := Nat.le_of_ble_eq_true h3
  obtain ⟨ti, zv, i1, i2, i3, i4⟩ := zeroT_some hz
  have hdo : ∀ h' nx' κ', nx' < 32768 → oMks x y z.length z b en h' nx' κ' = κ' (.sl nx' 0 l (some c)) (setO h' nx' (.ce (c * z.length) 0 z z.length (deep (c * z.length)) (E (deep (c * z.length))) true [])) (nx' + 1) := by
    intro h' nx' κ' hn'
    simp only [oMks, hv, hv2]
    show br (Nat.ble l c) (br _ (br _ (fnat (Nat.mul c z.length) fun n => newK _ h' nx' fun o h nx => κ' (.sl o 0 l (some c)) h nx) false) false) false = _
    rw [h1, h2, h3, fnat_eq]
    show newK _ h' nx' (fun o h nx => κ' (.sl o 0 l (some c)) h nx) = _
    rw [newK_eq hn']
    rfl
  refine ⟨.ce (c * z.length) 0 z z.length (deep (c * z.length)) (E (deep (c * z.length))) true [], fun o => .sl o 0 l (some c), rfl, hn, e6, hdo, fun w0 pd θ a w hh nx1 o' hE hR hp => ?_⟩
  have hno := (hR.pend o' _ hp).1
  have hle := Th.le_put hno w.heap.size 0 0 0
  have hwr : ∀ n : Nat, n ≤ c → IntKind.i64.wrap (n : Int) = n := fun n hn => by
    have := wrap_nat (k := 3) (m := n) (by show n < 9223372036854775808; omega)
    exact this
  have hkd : kindOf kl = kindOf kl := rfl
  obtain ⟨q1, q2⟩ := hR.real hp (ob := .cells (toVs θ (rep c z)).toArray el) (w' := w.alloc (.cells (toVs θ (rep c z)).toArray el)) rfl ⟨rfl, rfl, rfl⟩ (bs := 0) (sz := 0) (es := 0) (by
    refine ⟨(toVs θ (rep c z)).toArray, el, (0, 0), ?_, deep_ge _, fun i hi => ?_, .inl rfl, fun _ => ⟨by simp, by simp [rep_length], fun _ => rfl⟩, fun h => absurd rfl h⟩
    · rw [Th.put_blk]
      show (w.heap.push _)[w.heap.size]? = _
      simp
    · have hm : i % z.length < z.length := Nat.mod_lt _ hs0
      refine ⟨z[i % z.length], ?_, (toVs_mono hle (i4 θ).1).2 |> fun h => Oks_iff.1 h _ (List.getElem_mem hm), List.all_eq_true.1 i3 _ (List.getElem_mem hm), ?_⟩
      · rw [cellO_E]; exact List.getElem?_eq_getElem hm
      · rw [Th.put_bas, Nat.zero_add, List.getElem?_toArray, toVs_get, rep_get c i hi, List.getElem?_eq_getElem hm]
        simp only [Option.map_some, Option.some.injEq]
        exact (mono hle _ (Oks_iff.1 (i4 θ).1 _ (List.getElem_mem hm))).1.symm) rfl
  refine ⟨.slice (some ⟨w.heap.size, 0, none⟩) l c, _, _, q2, ⟨Th.put_has .., by simp [toV]⟩, q1, ?_⟩
  have hX := (hr θ a hE).i
  have hY := (hr2 θ a hE).i
  obtain ⟨bi, hb1, hb2⟩ : ∃ i, P.info? el = some i ∧ i.bytes = b := by
    unfold bytesT at hb
    exact Option.map_eq_some_iff.1 hb
  have hti : bi = ti := by rw [i1] at hb1; injection hb1 with hb1; exact hb1.symm
  subst hti
  have hw1 := hwr l h1'
  have hw2 := hwr c (Nat.le_refl _)
  have t1 : ¬ ((c : Int) < 0) := by omega
  have t2 : ¬ ((bi.bytes : Int) * (c : Int) > 2 ^ 48) := by
    rw [hb2]
    rw [← Int.natCast_mul]
    have : (2 : Int) ^ 48 = 281474976710656 := by decide
    omega
  have t3 : ¬ ((l : Int) < 0) := by omega
  have t4 : ¬ ((l : Int) > (c : Int)) := by omega
  have hz' : (zeroValue el).run P w = .ok zv w := by simp [zeroValue, typeInfo, i1, i2]
  by_cases h0 : c * z.length = 0
  · have hrow : (Array.range (c * z.length)).map (fun i => (#[] : Array Value)[i % (#[] : Array Value).size]!) = (toVs θ (rep c z)).toArray := by
      have : rep c z = [] := List.eq_nil_of_length_eq_zero (by rw [rep_length]; exact h0)
      rw [this, h0]; simp [toVs]
    simp only [execOp, ho, Instr.makeSlice, Sem.run_bind, run_underlying hu, Result.andThen, hX, hY, asInt, asIntOf, Sem.run_pure, typeInfo, run_program, i1, Int.ofNat_eq_natCast, hw1, hw2, t1, t2, t3, t4, decide_false, Bool.or_false, Bool.false_or, Bool.false_eq_true, if_false, run_askRoom, Int.toNat_natCast, run_size hs, if_pos h0, hrow, newRow, newObj]
    rfl
  · have hrow := zeros_eq (i4 θ).2 c
    simp only [execOp, ho, Instr.makeSlice, Sem.run_bind, run_underlying hu, Result.andThen, hX, hY, asInt, asIntOf, Sem.run_pure, typeInfo, run_program, i1, Int.ofNat_eq_natCast, hw1, hw2, t1, t2, t3, t4, decide_false, Bool.or_false, Bool.false_or, Bool.false_eq_true, if_false, run_askRoom, Int.toNat_natCast, run_size hs, if_neg h0, hz', hrow, newRow, newObj]
    rfl
end
end Go.AM
