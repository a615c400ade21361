/-
  AM, 18b: what a strings.Builder does. Conditions: none.
-/
import Derived.Test.YtniakcilpolneaaGreatDoorAmNb
import Derived.Test.YtniakcilpolneaaGreatDoorAmLn
import Derived.Lib.Builder
import Derived.Lib.UnsafeStr
import Derived.Lib.MakeNoZero
import Derived.Lib.Bytealg
namespace Go.AM
open Go

section
variable {P : Program} {o : Oper} {x y z : XF} {X Y Z : Operand}
theorem n_als {el : TypeId} {z : List AV} (hz : zeroT P el = some z) (ho : o.op = .alloc el) : NewOk P o (oAls el z) := by
  intro en h nx κ e
  obtain ⟨ti, zv, i1, i2, i3, i4⟩ := zeroT_some hz
  obtain ⟨hn, e1⟩ := newK_true e
  refine ⟨.st el z, fun o => .p o 0, rfl, hn, e1, fun h' nx' κ' hn' => newK_eq hn' _, fun w0 pd θ a w h1 nx1 o' hE hR hp => ?_⟩
  have hno := (hR.pend o' _ hp).1
  have hle := Th.le_put hno w.heap.size 0 0 0
  obtain ⟨k1, k2⟩ := hR.real hp (w' := w.alloc (.cells (toVs θ z).toArray el)) (ob := .cells (toVs θ z).toArray el) (bs := 0) (sz := 0) (es := 0) rfl ⟨rfl, rfl, rfl⟩ (by
    refine ⟨?_, by simp, (toVs_mono hle (i4 θ).1).2, i3⟩
    rw [Th.put_blk, (toVs_mono hle (i4 θ).1).1]
    show (w.heap.push _)[w.heap.size]? = _
    simp) rfl
  refine ⟨.pointer (some ⟨w.heap.size, 0, none⟩), _, _, k2, ⟨Th.put_has .., by simp [toV]⟩, k1, ?_⟩
  simp [execOp, ho, Instr.alloc, zeroValue, typeInfo, i1, i2, newVar, newRow, (i4 θ).2]
theorem n_bxs {el : TypeId} (hx : XOk x X) (ho : o.op = .box el X) : NewOk P o (oBxs el x) := by
  intro en h nx κ e
  obtain ⟨v, hv, hr⟩ := hx en
  simp only [oBxs, hv] at e
  obtain ⟨hc, e1, hcr⟩ := cellsK_true e
  obtain ⟨hn, e2⟩ := newK_true e1
  refine ⟨.st el (cellsV v), fun o => .p o 0, rfl, hn, e2, fun h' nx' κ' hn' => ?_, fun w0 pd θ a w h1 nx1 o' hE hR hp => ?_⟩
  · simp only [oBxs, hv, hc, newK_eq hn']
  · obtain ⟨q1, q2, q3⟩ := hcr (hr θ a hE)
    have hno := (hR.pend o' _ hp).1
    have hle := Th.le_put hno w.heap.size 0 0 0
    obtain ⟨k1, k2⟩ := hR.real hp (w' := w.alloc (.cells (toVs θ (cellsV v)).toArray el)) (ob := .cells (toVs θ (cellsV v)).toArray el) (bs := 0) (sz := 0) (es := 0) rfl ⟨rfl, rfl, rfl⟩ (by
      refine ⟨?_, by simp, (toVs_mono hle q1).2, q2⟩
      rw [Th.put_blk, (toVs_mono hle q1).1]
      show (w.heap.push _)[w.heap.size]? = _
      simp) rfl
    refine ⟨.pointer (some ⟨w.heap.size, 0, none⟩), _, _, k2, ⟨Th.put_has .., by simp [toV]⟩, k1, ?_⟩
    have hcs : (a.eval X).cells = (toVs θ (cellsV v)).toArray := by rw [← q3]
    simp [execOp, ho, Instr.box, newVar, newRow, hcs]
theorem pinK_true {t off n : Nat} {κ : R} : ∀ {ok : List (Nat × Nat × Nat)}, pinK ok t off n κ = true → (t, off, n) ∈ ok ∧ κ = true
  | (a, b, c) :: ok, e => by
    have e : br (Nat.beq a t) (br (Nat.beq b off) (br (Nat.beq c n) κ (pinK ok t off n κ)) (pinK ok t off n κ)) (pinK ok t off n κ) = true := e
    have ih : pinK ok t off n κ = true → (t, off, n) ∈ (a, b, c) :: ok ∧ κ = true := fun h => ⟨List.mem_cons_of_mem _ (pinK_true h).1, (pinK_true h).2⟩
    rcases br_true e with ⟨h1, e1⟩ | ⟨_, e1⟩
    · rcases br_true e1 with ⟨h2, e2⟩ | ⟨_, e2⟩
      · rcases br_true e2 with ⟨h3, e3⟩ | ⟨_, e3⟩
        · rw [← Nat.eq_of_beq_eq_true h1, ← Nat.eq_of_beq_eq_true h2, ← Nat.eq_of_beq_eq_true h3]
          exact ⟨List.mem_cons_self .., e3⟩
        · exact ih e3
      · exact ih e2
    · exact ih e1
theorem b_cvp {s d u : TypeId} {j : TypeInfo} {ok : List (Nat × Nat × Nat)} (hx : XOk x X) (hs : P.underlying s = some .unsafePointer) (hd : P.underlying d = some (.pointer u)) (hu : P.info? u = some j)
    (hok : ∀ t off n, (t, off, n) ∈ ok → liesAt P P.depth t (n / P.cellsOf t) off u 1 = true) (ho : o.op = .convert s d X) : OpOk P o (oCvp ok x) := by
  intro en h nx κ w0 pd θ a w hE hR e
  obtain ⟨v, hv, hr⟩ := hx en
  simp only [oCvp, hv] at e
  cases v <;> first | (cases e; done) | skip
  · rename_i ob off
    obtain ⟨hX, hh⟩ := (hr θ a hE).p
    obtain ⟨ab, hab, e1⟩ := get_true e
    cases ab <;> first | (cases e1; done) | skip
    rename_i t l
    obtain ⟨h1, h2, h3, h4⟩ := hR.obj_ hh hab
    have e1 : fnat (lenN AV l) (fun n => br (Nat.blt off n) (pinK ok t off n (κ (.p ob off) h nx)) false) = true := e1
    rw [fnat_eq, lenN_eq] at e1
    obtain ⟨g1, e2⟩ := br_t e1
    obtain ⟨g2, e3⟩ := pinK_true e2
    refine ⟨.p ob off, .pointer (some ⟨θ.blk ob, θ.bas ob + off, none⟩), θ, h, nx, w, .value _, .refl θ, ⟨hh, rfl⟩, hR, e3, ?_, rfl⟩
    have hl : (toVs θ l).toArray.size = l.length := by simp
    have hrun := Lib.run_from_unsafe (P := P) w (src := s) (dst := d) (e := t) (cells := l.length) ⟨θ.blk ob, θ.bas ob + off, none⟩ hs hd hu (by simp [World.shape?, h1]) (by rw [h2, Nat.zero_add]; exact hok _ _ _ g2)
    simp [execOp, ho, hX, hrun]
  · have hX : a.eval X = .pointer none := (hr θ a hE).2
    refine ⟨.np, .pointer none, θ, h, nx, w, .value _, .refl θ, ⟨trivial, rfl⟩, hR, e, ?_, rfl⟩
    simp [execOp, ho, hX, convert, Conv.unsafePointer, run_underlying hs, run_underlying hd]
theorem b_nes (hx : XOk x X) (he : ExtC P o Extern.AbiNoEscape.same [X]) : OpOk P o (oMv x) := by
  intro en h nx κ w0 pd θ a w hE hR e
  obtain ⟨v, hv, hr⟩ := hx en
  simp only [oMv, hv] at e
  exact ⟨v, a.eval X, θ, h, nx, w, .value _, .refl θ, hr θ a hE, hR, e, he.run rfl, rfl⟩
/-- a byte -/
def byt (m : Nat) : Value := .int .u8 (m : Int)
theorem toVs_byt (θ : Th) (l : List Nat) : toVs θ (l.map fun m => AV.i 4 (.ofNat m)) = l.map byt := by
  apply List.ext_getElem?
  intro i
  rw [toVs_get, List.getElem?_map, List.getElem?_map, Option.map_map]
  cases l[i]? <;> rfl
theorem byt_one (l : List Nat) : ∀ v ∈ l.map byt, v.cells = #[v] := by
  intro v hv
  obtain ⟨m, _, rfl⟩ := List.mem_map.1 hv
  rfl
theorem OR_bt {θ : Th} {w : World} {ob : Nat} {c : Array Value} {ty : TypeId} {fz : Nat × Nat} {l : List Nat} (hb : w.heap[θ.blk ob]? = some (.cells c ty fz)) (h0 : θ.bas ob = 0) (h1 : θ.esz ob = 1) (h2 : θ.siz ob = c.size) (hle : l.length ≤ c.size)
    (hc : ∀ i, i < l.length → c[i]? = (l.map byt)[i]?) (h256 : ∀ x ∈ l, x < 256) (hf : Fz fz c.size) : OR P θ w ob (.bt ty l) :=
  ⟨c, fz, hb, h0, h1, h2, hle, fun i x hx => by
    have hi := (List.getElem?_eq_some_iff.1 hx).1
    refine ⟨?_, h256 x (List.mem_of_getElem? hx)⟩
    rw [hc i hi, List.getElem?_map, hx]; rfl, hf⟩
theorem growB {w0 w : World} {pd : List (Nat × AO)} {θ : Th} {h : H} {nx : Nat} (hR : HR P w0 pd θ h nx w) (hn : nx < 2097152) {t tx ty el : TypeId} {bytes : Nat} {z : List AV} (hs : sizeT P el = some 1) (hb : bytesT P el = some bytes) (hz : zeroT P el = some z) (hzl : z.length = 1)
    {base : Option Addr} {sLen sCap m : Nat} {old new : List Nat} {u : Value} (hlo : old.length = sLen) (hln : new.length = m) (h1o : ∀ x ∈ old, x < 256) (h1n : ∀ x ∈ new, x < 256)
    (hold : (Builtin.firstCells 1 sLen (.slice base sLen sCap)).run P w.drew = .ok (old.map byt).toArray w.drew) (hsrc : Apd P t tx ty el u m (new.map byt) w) (hcap : sCap < sLen + m)
    (hneed : sLen + m ≤ 1073741824) (hby : (sLen + m) * bytes ≤ 70368744177664) :
    ∃ v θ' w', θ.le θ' ∧ VR θ' (.sl nx 0 (sLen + m) none) v ∧ HR P w0 pd θ' (setO h nx (.bt el (old ++ new))) (nx + 1) w' ∧ (Builtin.append_ #[t, tx] ty #[.slice base sLen sCap, u]).run P w = .ok v w' := by
  obtain ⟨ti, zv, i1, i2, i3, i4⟩ := zeroT_some hz
  obtain ⟨ti', j1, j2⟩ := sizeT_info hs
  have : ti' = ti := by rw [i1] at j1; injection j1 with j1; exact j1.symm
  subst this
  obtain ⟨ti'', j3, j4⟩ : ∃ i, P.info? el = some i ∧ i.bytes = bytes := by
    unfold bytesT at hb
    exact Option.map_eq_some_iff.1 hb
  have : ti'' = ti' := by rw [i1] at j3; injection j3 with j3; exact j3.symm
  subst this
  subst j4
  have h63 : ((sLen + m : Nat) : Int) ≤ 9223372036854775807 := by omega
  have hfit := growslice_fits (need := sLen + m) (old := sCap) (bytes := ti''.bytes) hcap (by omega)
  have hr := hsrc.grow i1 i2 (by rw [j2]; exact hold) hcap h63 hfit
  obtain ⟨G, hG⟩ : ∃ G, G = grownCap w (sLen + m) sCap el := ⟨_, rfl⟩
  have hge : sLen + m ≤ G := by rw [hG]; exact grownCap_ge w (sLen + m) sCap el
  rw [← hG] at hr
  obtain ⟨c, hc⟩ : ∃ c, c = (old.map byt ++ new.map byt).toArray ++ Builtin.zeroCells zv.cells (G - (sLen + m)) := ⟨_, rfl⟩
  rw [← hc] at hr
  have hzs : zv.cells.size = 1 := by rw [(i4 θ).2]; simp [hzl]
  have hcs : c.size = G := by
    rw [hc]
    simp only [Array.size_append, List.size_toArray, List.length_append, List.length_map, hlo, hln, size_zeroCells, hzs]
    omega
  obtain ⟨k1, k2⟩ := hR.new (w' := w.drew.alloc (.cells c el)) (ob := .cells c el) rfl ⟨rfl, rfl, rfl⟩ hn (a := .bt el (old ++ new)) (bs := 0) (sz := G) (es := 1) (by
    refine OR_bt (c := c) (fz := (0, 0)) ?_ (by simp) (by simp) (by rw [Th.put_siz, hcs]) (by rw [List.length_append, hlo, hln, hcs]; exact hge) (fun i hi => ?_) (fun x hx => (List.mem_append.1 hx).elim (h1o x) (h1n x)) (.inl rfl)
    · rw [Th.put_blk]
      show (w.heap.push _)[w.heap.size]? = _
      simp
    · rw [hc, ← List.map_append, Array.getElem?_append_left (by simpa using hi), List.getElem?_toArray]) (fun x hx => by cases hx)
  refine ⟨_, _, _, k2, ⟨Th.put_has .., ?_⟩, k1, hr⟩
  simp only [toV, Th.put_blk, Th.put_bas, Th.put_siz, Th.put_esz, Nat.zero_add, Nat.sub_zero, Nat.div_one]
theorem b_apb {t tx el : TypeId} {bytes : Nat} {zz : List AV} {c : Call} (hx : XOk x X) (hy : XOk y Y) (hu : P.underlying t = some (.slice el)) (hk : (∃ e', P.underlying tx = some (.slice e')) ∨ P.underlying tx = some .string)
    (hs : sizeT P el = some 1) (hb : bytesT P el = some bytes) (hz : zeroT P el = some zz) (hzl : zz.length = 1) (hc : c.callee = .builtin .append) (ha : c.args.toList = [X, Y]) (ht : c.argTypes.toList = [t, tx]) (ho : o.op = .call c) : OpOk P o (oApb el bytes x y) := by
  intro en h nx κ w0 pd θ a w hE hR e
  obtain ⟨v, hv, hr⟩ := hx en
  obtain ⟨v2, hv2, hr2⟩ := hy en
  simp only [oApb, hv, hv2] at e
  obtain ⟨vs, m, e1, hln, hon, h1n, hsrc, _⟩ := src_ok hR (hr2 θ a hE) e hk
  obtain ⟨new, _, e2, rfl, hb256⟩ := bytesK_true e1
  obtain ⟨ti, i1, i2⟩ := sizeT_info hs
  have hlm : new.length = m := by simpa using hln
  rw [toVs_byt, ← i2] at hsrc
  have hap := src_apd (ty := o.type) hu i1 hsrc
  have run : ∀ {u w'}, (Builtin.append_ #[t, tx] o.type #[a.eval X, a.eval Y]).run P w = .ok u w' → (execOp a.eval o).run P w = .ok (.value u) w' := by
    intro u w' hw
    obtain ⟨ca, cargs, ct⟩ := c
    have ha' : cargs = #[X, Y] := by cases cargs; simp_all
    have ht' : ct = #[t, tx] := by cases ct; simp_all
    simp only at hc
    subst ha' ht' hc
    simp only [execOp, ho, resolve, invoke, builtin, Sem.run_bind, Sem.run_pure, Result.andThen, List.map_toArray, List.map_cons, List.map_nil, hw]
  cases v <;> first | (cases e2; done) | skip
  · rename_i ob off len cap
    cases cap with
    | some cp => cases e2
    | none =>
      obtain ⟨hX, hhas⟩ := (hr θ a hE).sln
      obtain ⟨g0, e3⟩ := br_t e2
      have g0 : off = 0 := Nat.eq_of_beq_eq_true g0
      subst g0
      obtain ⟨ab, hab, e4⟩ := get_true e3
      cases ab <;> first | (cases e4; done) | skip
      rename_i t' l
      obtain ⟨g1, e5⟩ := br_t e4
      have g1 : t' = el := Nat.eq_of_beq_eq_true g1
      subst g1
      obtain ⟨g2, e6⟩ := br_t e5
      rw [lenN_eq] at g2
      have g2 : l.length = len := Nat.eq_of_beq_eq_true g2
      rw [fnat_eq] at e6
      obtain ⟨_, f2, f3, e7⟩ := fits_true e6
      rw [appK_eq, put_eq] at e7
      obtain ⟨hn, e8⟩ := newK_true e7
      obtain ⟨cc, fz, o1, o2, o3, o4, o5, o6, o7⟩ := hR.obj_ hhas hab
      have hl256 : ∀ x ∈ l, x < 256 := fun x hx => by obtain ⟨i, hi⟩ := List.getElem?_of_mem hx; exact (o6 i x hi).2
      have hci : ∀ i, i < l.length → cc[i]? = (l.map byt)[i]? := fun i hi => by
        rw [(o6 i _ (List.getElem?_eq_getElem hi)).1, List.getElem?_map, List.getElem?_eq_getElem hi]; rfl
      rw [o2, o3, o4, Nat.sub_zero, Nat.div_one, Nat.zero_add] at hX
      by_cases hroom : len + m ≤ cc.size
      · have hrun := hap.room (b := θ.blk ob) (off := 0) (sLen := len) (sCap := cc.size) i1 hroom
          (fun j hj => by
            rw [List.length_map, hlm] at hj
            rw [i2, cell_of_row w _ _ _ _ _ o1, Array.getElem?_eq_getElem (by omega)]; rfl)
          (fun j hj => by
            rw [List.length_map, hlm] at hj
            simp only [World.frozen?, o1]; rw [i2]; exact o7.free _ (by omega))
        rw [i2, Nat.zero_add, Nat.mul_one] at hrun
        obtain ⟨c', s1, s2, s3⟩ := setCells_blk (θ.blk ob) t' fz (new.map byt) len w cc o1 (by rw [List.length_map, hlm]; omega)
        obtain ⟨k1, k2⟩ := hR.drop (w' := w.setCells (θ.blk ob) len (new.map byt)) hhas hab rfl rfl (setCells_plain _ _ _ _).2 (fun b hb => setCells_other _ _ _ _ b hb) (setCells_plain _ _ _ _).1
        obtain ⟨q1, q2⟩ := k1.newAt hhas k2 hn (a := .bt t' (l ++ new)) (bs := 0) (sz := cc.size) (es := 1) (by
          refine OR_bt (c := c') (fz := fz) (by rw [Th.put_blk]; exact s1) (by simp) (by simp) (by rw [Th.put_siz, s2]) (by rw [List.length_append, g2, hlm, s2]; exact hroom) (fun i hi => ?_) (fun x hx => (List.mem_append.1 hx).elim (hl256 x) (hb256 x)) (by rw [s2]; exact o7)
          rw [List.length_append, hlm] at hi
          rw [s3, List.map_append]
          by_cases hio : i < l.length
          · rw [if_neg (by omega), hci i hio, List.getElem?_append_left (by simpa using hio)]
          · rw [if_pos (by rw [List.length_map, hlm]; omega), List.getElem?_append_right (by simpa using hio), List.length_map, g2]) rfl
        refine ⟨.sl nx 0 (len + m) none, _, _, _, _, _, .value _, q2, ⟨Th.put_has .., rfl⟩, q1, e8, run (by rw [hX]; exact hrun), ?_⟩
        show some _ = some _
        simp only [toV, Th.put_blk, Th.put_bas, Th.put_siz, Th.put_esz, Nat.add_zero, Nat.sub_zero, Nat.div_one]
      · obtain ⟨k1, _⟩ := hR.drop (w' := w) hhas hab rfl rfl rfl (fun _ _ => rfl) ⟨rfl, rfl, rfl⟩
        have hold : (Builtin.firstCells 1 len (.slice (some ⟨θ.blk ob, 0, none⟩) len cc.size)).run P w.drew = .ok (l.map byt).toArray w.drew :=
          run_firstCells_some w.drew 1 len ⟨θ.blk ob, 0, none⟩ len _ (l.map byt) (by rw [List.length_map]; omega) (fun j u hj => by
            rw [Addr.add_lit, cell_of_heap (w := w) (w' := w.drew) rfl, cell_of_row w _ _ _ _ _ o1, Nat.zero_add, hci j (by have := (List.getElem?_eq_some_iff.1 hj).1; simpa using this)]
            exact hj)
        obtain ⟨v, θ', w', q1, q2, q3, q4⟩ := growB (ty := o.type) k1 hn hs hb hz hzl g2 hlm hl256 hb256 hold hap (by omega) f2 f3
        exact ⟨_, v, θ', _, _, w', .value v, q1, q2, q3, e8, run (by rw [hX]; exact q4), rfl⟩
  · have hX : a.eval X = .slice none 0 0 := (hr θ a hE).2
    obtain ⟨_, f2, f3, e3⟩ := fits_true e2
    obtain ⟨g1, e4⟩ := br_f e3
    have hm : m ≠ 0 := fun h => by subst h; cases g1
    obtain ⟨hn, e5⟩ := newK_true e4
    obtain ⟨v, θ', w', q1, q2, q3, q4⟩ := growB (ty := o.type) hR hn hs hb hz hzl (sLen := 0) (old := []) (new := new) rfl hlm (fun x hx => by cases hx) hb256 (run_firstCells_none w.drew 1 0 0 0) hap (by omega) (by omega) (by rw [Nat.zero_add]; exact f3)
    rw [Nat.zero_add] at q2
    exact ⟨_, v, θ', _, _, w', .value v, q1, q2, q3, e5, run (by rw [hX]; exact q4), rfl⟩
theorem u8_eq {a b : Nat} (ha : a < 256) (hb : b < 256) : (UInt8.ofNat a == UInt8.ofNat b) = Nat.beq a b := by
  have h1 : (UInt8.ofNat a).toNat = a := by simp [Nat.mod_eq_of_lt ha]
  have h2 : (UInt8.ofNat b).toNat = b := by simp [Nat.mod_eq_of_lt hb]
  cases h : Nat.beq a b with
  | true => rw [Nat.eq_of_beq_eq_true h]; simp
  | false =>
    have : a ≠ b := fun e => by subst e; simp at h
    rw [beq_eq_false_iff_ne]
    intro e
    exact this (by rw [← h1, ← h2, e])
theorem br_eq (c : Bool) (a b : R) : br c a b = if c then a else b := by cases c <;> rfl
theorem cntL_aux {c : Nat} (hc : c < 256) {κ : Nat → R} : ∀ (l : List Nat) (n : Nat), (∀ x ∈ l, x < 256) →
    @List.rec Nat (fun _ => Nat → R) (fun n => κ n) (fun x _ ih n => br (Nat.beq x c) (fnat (Nat.succ n) ih) (ih n)) l n = κ (n + Lib.countByte (l.map UInt8.ofNat) (UInt8.ofNat c))
  | [], n, _ => by simp [Lib.countByte]
  | x :: l, n, h => by
    have hx := h x (List.mem_cons_self ..)
    have ih := fun n => cntL_aux hc (κ := κ) l n (fun y hy => h y (List.mem_cons_of_mem _ hy))
    show br (Nat.beq x c) (fnat (Nat.succ n) _) (_ : R) = _
    rw [fnat_eq, br_eq, ih, ih]
    unfold Lib.countByte
    rw [List.map_cons, List.count_cons, u8_eq hx hc]
    by_cases hb : Nat.beq x c = true
    · rw [if_pos hb, if_pos hb]; congr 1; omega
    · rw [if_neg hb, if_neg hb]; congr 1
theorem idxL_aux {c : Nat} (hc : c < 256) {κ : Int → R} : ∀ (l : List Nat) (n : Nat), (∀ x ∈ l, x < 256) →
    @List.rec Nat (fun _ => Nat → R) (fun _ => κ (.negSucc 0)) (fun x _ ih n => br (Nat.beq x c) (κ (.ofNat n)) (fnat (Nat.succ n) ih)) l n =
      κ (if Lib.indexByte (l.map UInt8.ofNat) (UInt8.ofNat c) = -1 then -1 else Lib.indexByte (l.map UInt8.ofNat) (UInt8.ofNat c) + n)
  | [], n, _ => by simp [Lib.indexByte]
  | x :: l, n, h => by
    have hx := h x (List.mem_cons_self ..)
    have ih := fun n => idxL_aux hc (κ := κ) l n (fun y hy => h y (List.mem_cons_of_mem _ hy))
    show br (Nat.beq x c) (κ (.ofNat n)) (fnat (Nat.succ n) _) = _
    rw [fnat_eq, br_eq, ih]
    have hge := Lib.indexByte_ge (l.map UInt8.ofNat) (UInt8.ofNat c)
    have e : Lib.indexByte ((x :: l).map UInt8.ofNat) (UInt8.ofNat c) = if Nat.beq x c then 0 else if Lib.indexByte (l.map UInt8.ofNat) (UInt8.ofNat c) == -1 then -1 else Lib.indexByte (l.map UInt8.ofNat) (UInt8.ofNat c) + 1 := by
      rw [List.map_cons, Lib.indexByte, u8_eq hx hc]
    rw [e]
    by_cases h1 : Nat.beq x c = true
    · simp [h1]
    · simp only [h1, Bool.false_eq_true, if_false]
      by_cases h2 : Lib.indexByte (l.map UInt8.ofNat) (UInt8.ofNat c) = -1
      · simp [h2]
      · have h3 : (Lib.indexByte (l.map UInt8.ofNat) (UInt8.ofNat c) == -1) = false := by rw [beq_eq_false_iff_ne]; exact h2
        have h4 : ¬ (Lib.indexByte (l.map UInt8.ofNat) (UInt8.ofNat c) + 1 = -1) := by omega
        simp only [h2, h3, h4, if_false, Bool.false_eq_true]
        congr 1
        omega
theorem asKN {k : Nat} {κ : Nat → R} {v : AV} (e : asK k (fun n => @Int.rec (fun _ => R) κ (fun _ => false) n) v = true) : ∃ n : Nat, v = .i k (.ofNat n) ∧ κ n = true := by
  obtain ⟨n, rfl, e1⟩ := asK_true e
  cases n with
  | ofNat n => exact ⟨n, rfl, e1⟩
  | negSucc n => cases e1
theorem b_cnt (hx : XOk x X) (hy : XOk y Y) (he : ExtC P o Extern.BytealgCount.count [X, Y]) : OpOk P o (oCnt x y) := by
  intro en h nx κ w0 pd θ a w hE hR e
  obtain ⟨v, hv, hr⟩ := hx en
  obtain ⟨v2, hv2, hr2⟩ := hy en
  simp only [oCnt, hv, hv2] at e
  obtain ⟨l, rfl, e1⟩ := asS_true e
  obtain ⟨c, rfl, e2⟩ := asKN e1
  obtain ⟨g, e3⟩ := br_t e2
  have hc : c < 256 := by simpa [Nat.blt_eq] using g
  obtain ⟨hX, hl⟩ := (hr θ a hE).s
  have hY := (hr2 θ a hE).i
  rw [show cntL c l _ = _ from cntL_aux hc l 0 hl, Nat.zero_add] at e3
  refine ⟨.i 3 (.ofNat (Lib.countByte (l.map UInt8.ofNat) (UInt8.ofNat c))), .int .i64 (Lib.countByte (l.map UInt8.ofNat) (UInt8.ofNat c) : Nat), θ, h, nx, w, .value _, .refl θ, ⟨trivial, rfl⟩, hR, e3, he.run ?_, rfl⟩
  have := Lib.run_countString (P := P) (bytesOf l) (c : Int) w
  show (Extern.BytealgCount.count #[a.eval X, a.eval Y]).run P w = _
  rw [hX, hY]
  exact this
theorem b_idx (hx : XOk x X) (hy : XOk y Y) (he : ExtC P o Extern.BytealgIndexByte.indexByte [X, Y]) : OpOk P o (oIdx x y) := by
  intro en h nx κ w0 pd θ a w hE hR e
  obtain ⟨v, hv, hr⟩ := hx en
  obtain ⟨v2, hv2, hr2⟩ := hy en
  simp only [oIdx, hv, hv2] at e
  obtain ⟨l, rfl, e1⟩ := asS_true e
  obtain ⟨c, rfl, e2⟩ := asKN e1
  obtain ⟨g, e3⟩ := br_t e2
  have hc : c < 256 := by simpa [Nat.blt_eq] using g
  obtain ⟨hX, hl⟩ := (hr θ a hE).s
  have hY := (hr2 θ a hE).i
  rw [show idxL c l _ = _ from idxL_aux hc l 0 hl] at e3
  have hi : (if Lib.indexByte (l.map UInt8.ofNat) (UInt8.ofNat c) = -1 then -1 else Lib.indexByte (l.map UInt8.ofNat) (UInt8.ofNat c) + ((0 : Nat) : Int)) = Lib.indexByte (l.map UInt8.ofNat) (UInt8.ofNat c) := by
    split
    · rename_i h; exact h.symm
    · simp
  rw [hi] at e3
  refine ⟨.i 3 (Lib.indexByte (l.map UInt8.ofNat) (UInt8.ofNat c)), .int .i64 (Lib.indexByte (l.map UInt8.ofNat) (UInt8.ofNat c)), θ, h, nx, w, .value _, .refl θ, ⟨trivial, rfl⟩, hR, e3, he.run ?_, rfl⟩
  have := Lib.run_indexByteString (P := P) (bytesOf l) (c : Int) w
  show (Extern.BytealgIndexByte.indexByte #[a.eval X, a.eval Y]).run P w = _
  rw [hX, hY]
  exact this
theorem b_mnz {t el : TypeId} {ps : Array TypeId} (hx : XOk x X) (ht : P.underlying t = some (.slice el)) (he : ExtC P o (Extern.BytealgMakeNoZero.makeNoZero ps #[t]) [X]) : OpOk P o (oMnz el x) := by
  intro en h nx κ w0 pd θ a w hE hR e
  obtain ⟨v, hv, hr⟩ := hx en
  simp only [oMnz, hv] at e
  obtain ⟨n, rfl, e1⟩ := asKN e
  obtain ⟨g, e2⟩ := br_t e1
  have g : n ≤ 1073741824 := Nat.le_of_ble_eq_true g
  obtain ⟨hn, e3⟩ := newK_true e2
  have hX := (hr θ a hE).i
  obtain ⟨cs, hrun, hle, _⟩ := Lib.run_makeNoZero (P := P) w ps t el ht n (by omega)
  obtain ⟨k1, k2⟩ := hR.new (w' := w.drew.drew.alloc (.cells cs el)) (ob := .cells cs el) rfl ⟨rfl, rfl, rfl⟩ hn (a := .bt el []) (bs := 0) (sz := cs.size) (es := 1) (by
    refine OR_bt (c := cs) (fz := (0, 0)) ?_ (by simp) (by simp) (by rw [Th.put_siz]) (Nat.zero_le _) (fun i hi => by cases hi) (fun x hx => by cases hx) (.inl rfl)
    rw [Th.put_blk]
    show (w.heap.push _)[w.heap.size]? = _
    simp) (fun x hx => by cases hx)
  refine ⟨.sl nx 0 n none, .slice (some ⟨w.heap.size, 0, none⟩) n cs.size, _, _, _, _, .value _, k2, ⟨Th.put_has .., by simp [toV]⟩, k1, e3, he.run ?_, rfl⟩
  show (Extern.BytealgMakeNoZero.makeNoZero ps #[t] #[a.eval X]).run P w = _
  rw [hX]
  exact hrun
theorem b_usd {ts : List TypeId} {c : Call} (hx : XOk x X) (hc : c.callee = .builtin .unsafeSliceData) (ha : c.args.toList = [X]) (ht : c.argTypes.toList = ts) (ho : o.op = .call c) : OpOk P o (oUsd x) := by
  intro en h nx κ w0 pd θ a w hE hR e
  obtain ⟨v, hv, hr⟩ := hx en
  simp only [oUsd, hv] at e
  have run : ∀ {u w'}, (Builtin.unsafeSliceData_ c.argTypes o.type #[a.eval X]).run P w = .ok u w' → (execOp a.eval o).run P w = .ok (.value u) w' := by
    intro u w' hw
    obtain ⟨ca, cargs, ct⟩ := c
    have ha' : cargs = #[X] := by cases cargs; simp_all
    simp only at hc
    subst ha' hc
    simp only [execOp, ho, resolve, invoke, builtin, Sem.run_bind, Sem.run_pure, Result.andThen, List.map_toArray, List.map_cons, List.map_nil, hw]
  cases v <;> first | (cases e; done) | skip
  · rename_i ob off len cap
    cases cap with
    | some cp => cases e
    | none =>
      obtain ⟨hX, hhas⟩ := (hr θ a hE).sln
      obtain ⟨g0, e3⟩ := br_t e
      have g0 : off = 0 := Nat.eq_of_beq_eq_true g0
      subst g0
      obtain ⟨ab, hab, e4⟩ := get_true e3
      cases ab <;> first | (cases e4; done) | skip
      rename_i t' l
      cases l with
      | nil => cases e4
      | cons q l =>
        obtain ⟨cc, fz, o1, o2, o3, o4, o5, o6, o7⟩ := hR.obj_ hhas hab
        rw [o3, o4, Nat.sub_zero, Nat.div_one] at hX
        have hcs : cc.size ≠ 0 := by simp at o5; omega
        exact ⟨.p ob 0, .pointer (some ⟨θ.blk ob, θ.bas ob + 0, none⟩), θ, h, nx, w, .value _, .refl θ, ⟨hhas, rfl⟩, hR, e4, run (by rw [hX]; exact Lib.run_unsafeSliceData_row (P := P) w _ _ _ _ _ hcs), rfl⟩
  · have hX : a.eval X = .slice none 0 0 := (hr θ a hE).2
    exact ⟨.np, .pointer none, θ, h, nx, w, .value _, .refl θ, ⟨trivial, rfl⟩, hR, e, run (by rw [hX]; exact Lib.run_unsafeSliceData_nil (P := P) w _ _ _ _), rfl⟩
theorem byt_u8 {l : List Nat} (h : ∀ x ∈ l, x < 256) : Lib.byteCells (l.map UInt8.ofNat) = l.map byt := by
  unfold Lib.byteCells
  rw [List.map_map]
  refine List.map_congr_left fun x hx => ?_
  have : (UInt8.ofNat x).toNat = x := by simp [Nat.mod_eq_of_lt (h x hx)]
  simp only [Function.comp, this, byt]
theorem b_ust {pt it el : TypeId} {c : Call} (hx : XOk x X) (hy : XOk y Y) (hp : P.underlying pt = some (.pointer el)) (hs : sizeT P el = some 1) (hc : c.callee = .builtin .unsafeString) (ha : c.args.toList = [X, Y]) (ht : c.argTypes.toList = [pt, it]) (ho : o.op = .call c) : OpOk P o (oUst el x y) := by
  intro en h nx κ w0 pd θ a w hE hR e
  obtain ⟨v, hv, hr⟩ := hx en
  obtain ⟨v2, hv2, hr2⟩ := hy en
  simp only [oUst, hv, hv2] at e
  obtain ⟨n, rfl, e1⟩ := asKN e
  have hY := (hr2 θ a hE).i
  have run : ∀ {u w'}, (Builtin.unsafeString_ #[pt, it] o.type #[a.eval X, a.eval Y]).run P w = .ok u w' → (execOp a.eval o).run P w = .ok (.value u) w' := by
    intro u w' hw
    obtain ⟨ca, cargs, ct⟩ := c
    have ha' : cargs = #[X, Y] := by cases cargs; simp_all
    have ht' : ct = #[pt, it] := by cases ct; simp_all
    simp only at hc
    subst ha' ht' hc
    simp only [execOp, ho, resolve, invoke, builtin, Sem.run_bind, Sem.run_pure, Result.andThen, List.map_toArray, List.map_cons, List.map_nil, hw]
  cases v <;> first | (cases e1; done) | skip
  · rename_i ob off
    obtain ⟨hX, hhas⟩ := (hr θ a hE).p
    obtain ⟨g0, e3⟩ := br_t e1
    have g0 : off = 0 := Nat.eq_of_beq_eq_true g0
    subst g0
    obtain ⟨ab, hab, e4⟩ := get_true e3
    cases ab <;> first | (cases e4; done) | skip
    rename_i t' l
    obtain ⟨g1, e5⟩ := br_t e4
    have g1 : t' = el := Nat.eq_of_beq_eq_true g1
    subst g1
    obtain ⟨g2, e6⟩ := br_t e5
    rw [lenN_eq] at g2
    have g2 : l.length = n := Nat.eq_of_beq_eq_true g2
    subst g2
    obtain ⟨g3, e7⟩ := br_t e6
    obtain ⟨g4, e8⟩ := br_t e7
    have g3 : 0 < l.length := by simpa [Nat.blt_eq] using g3
    have g4 : l.length < 1073741824 := by simpa [Nat.blt_eq] using g4
    rw [put_eq] at e8
    obtain ⟨cc, fz, o1, o2, o3, o4, o5, o6, o7⟩ := hR.obj_ hhas hab
    have hl256 : ∀ x ∈ l, x < 256 := fun x hx => by obtain ⟨i, hi⟩ := List.getElem?_of_mem hx; exact (o6 i x hi).2
    obtain ⟨k1, _⟩ := hR.drop (w' := w.freeze ⟨θ.blk ob, 0, none⟩ l.length) hhas hab rfl rfl (by unfold World.freeze; split <;> simp)
      (fun b hb => by unfold World.freeze; split <;> simp [Array.getElem?_modify, Ne.symm hb]) (by unfold World.freeze; split <;> exact ⟨rfl, rfl, rfl⟩)
    have hcell : ∀ (j : Nat) (x : UInt8), (l.map UInt8.ofNat)[j]? = some x → w.cell? ((⟨θ.blk ob, 0, none⟩ : Addr).add j) = some (.int .u8 x.toNat) := by
      intro j x hx
      rw [List.getElem?_map] at hx
      obtain ⟨m, hm, rfl⟩ := Option.map_eq_some_iff.1 hx
      obtain ⟨q1, q2⟩ := o6 j m hm
      rw [Addr.add_lit, cell_of_row w _ _ _ _ _ o1, Nat.zero_add, q1]
      simp [Nat.mod_eq_of_lt q2]
    have hrun := Lib.run_unsafeString_row (P := P) w pt it o.type t' hp (by obtain ⟨i, i1, i2⟩ := sizeT_info hs; simp [Program.cellsOf, i1, i2]) (θ.blk ob) cc.size (by simp [World.shape?, o1]) (l.map UInt8.ofNat) (by intro h; have : l = [] := List.map_eq_nil_iff.1 h; subst this; simp at g3)
      (by simpa using o5) (by rw [List.length_map]; omega) hcell
    rw [List.length_map] at hrun
    refine ⟨.s l, .string (bytesOf l), θ, _, nx, _, .value _, .refl θ, ⟨hl256, rfl⟩, k1, e8, run ?_, rfl⟩
    rw [hX, hY, o2, Nat.zero_add]
    exact hrun
  · have hX : a.eval X = .pointer none := (hr θ a hE).2
    obtain ⟨g, e3⟩ := br_t e1
    have g : n = 0 := Nat.eq_of_beq_eq_true g
    subst g
    refine ⟨.s [], .string (bytesOf []), θ, h, nx, w, .value _, .refl θ, ⟨fun x hx => (by cases hx), rfl⟩, hR, e3, run ?_, rfl⟩
    rw [hX, hY]
    exact Lib.run_unsafeString_none (P := P) w pt it o.type none
theorem b_cap {t el : TypeId} {c : Call} (hx : XOk x X) (hu : P.underlying t = some (.slice el)) (hc : c.callee = .builtin .cap) (ha : c.args.toList = [X]) (ht : c.argTypes.toList = [t]) (ho : o.op = .call c) : OpOk P o (oCap x) := by
  intro en h nx κ w0 pd θ a w hE hR e
  obtain ⟨v, hv, hr⟩ := hx en
  simp only [oCap, hv] at e
  have run : ∀ {b : Option Addr} {n : Nat × Nat}, a.eval X = .slice b n.1 n.2 → (execOp a.eval o).run P w = .ok (.value (goInt n.2)) w := by
    intro b n hw
    obtain ⟨ca, cargs, ct⟩ := c
    have ha' : cargs = #[X] := by cases cargs; simp_all
    have ht' : ct = #[t] := by cases ct; simp_all
    simp only at hc
    subst ha' ht' hc
    simp [execOp, ho, resolve, invoke, builtin, hw, Builtin.cap_, run_underlying hu]
  cases v <;> first | (cases e; done) | skip
  · rename_i ob off len cap
    cases cap with
    | none => cases e
    | some cp =>
      have hX := (hr θ a hE).sls.1
      exact ⟨.i 3 (.ofNat cp), goInt cp, θ, h, nx, w, .value _, .refl θ, ⟨trivial, rfl⟩, hR, e, run (n := (len, cp)) hX, rfl⟩
  · have hX : a.eval X = .slice none 0 0 := (hr θ a hE).2
    exact ⟨.i 3 (.ofNat 0), goInt (0 : Nat), θ, h, nx, w, .value _, .refl θ, ⟨trivial, rfl⟩, hR, e, run (n := (0, 0)) hX, rfl⟩
theorem b_cpn {t el : TypeId} {size : Nat} {c : Call} (hx : XOk x X) (hy : XOk y Y) (hu : P.underlying t = some (.slice el)) (hs : sizeT P el = some size) (hc : c.callee = .builtin .copy) (ha : c.args.toList = [X, Y]) (ht : ∃ r, c.argTypes.toList = t :: r) (ho : o.op = .call c)
    (hk : ∃ tx, (∃ e', P.underlying tx = some (.slice e')) ∨ P.underlying tx = some .string) : OpOk P o (oCpn x y) := by
  intro en h nx κ w0 pd θ a w hE hR e
  obtain ⟨v, hv, hr⟩ := hx en
  obtain ⟨v2, hv2, hr2⟩ := hy en
  simp only [oCpn, hv, hv2] at e
  obtain ⟨tx, hk⟩ := hk
  cases v2 <;> first | (cases e; done) | skip
  have run : ∀ {b n m}, a.eval X = .slice b n m → (execOp a.eval o).run P w = .ok (.value (goInt (0 : Nat))) w := by
    intro b n m hX
    obtain ⟨new, k, e1, hon, h1n, hlen, first⟩ := srcN_ok (h := h) (size := size) (lim := 0) (κ := fun _ m => Nat.beq m 0) hR (hr2 θ a hE) rfl hk
    have hk0 : k = 0 := Nat.eq_of_beq_eq_true e1
    subst hk0
    obtain ⟨ca, cargs, ct⟩ := c
    have ha' : cargs = #[X, Y] := by cases cargs; simp_all
    obtain ⟨r, ht⟩ := ht
    have ht' : ct[0]? = some t := by rw [← Array.getElem?_toList, ht]; rfl
    simp only at hc
    subst ha' hc
    have hf := first 0 (Nat.zero_le _) (Nat.zero_le _)
    have : (Builtin.copy_ ct o.type #[a.eval X, a.eval Y]).run P w = .ok (goInt (0 : Nat)) w := by
      simp only [Builtin.copy_, ht', hX, List.getElem?_toArray, List.getElem?_cons_zero, List.getElem?_cons_succ, Sem.run_bind, run_underlying hu, Result.andThen, hlen, run_size hs]
      rw [show Nat.min 0 n = 0 from Nat.zero_min n, hf]
      simp only [Sem.run_bind, Result.andThen]
      cases b with
      | none => rfl
      | some A =>
        have : toVs θ (new.take (0 * size)) = [] := by simp [toVs]
        rw [this]
        rfl
    simp only [execOp, ho, resolve, invoke, builtin, Sem.run_bind, Sem.run_pure, Result.andThen, List.map_toArray, List.map_cons, List.map_nil, this]
  cases v <;> first | (cases e; done) | skip
  · obtain ⟨_, cc, hX⟩ := (hr θ a hE).sl
    exact ⟨.i 3 (.ofNat 0), goInt (0 : Nat), θ, h, nx, w, .value _, .refl θ, ⟨trivial, rfl⟩, hR, e, run hX, rfl⟩
  · have hX : a.eval X = .slice none 0 0 := (hr θ a hE).2
    exact ⟨.i 3 (.ofNat 0), goInt (0 : Nat), θ, h, nx, w, .value _, .refl θ, ⟨trivial, rfl⟩, hR, e, run hX, rfl⟩
/-- all of them -/
theorem ext_ok {c : Call} {f : FuncId} {fn : Func} {xs : List AM.X} (hxs : omap trX c.args.toList = some xs) (ho : o.op = .call c) (hc : c.callee = .value (.func f)) (hf : P.funcs[f]? = some fn) (hb : fn.body.isNone = true) (hog : (fn.origin == fn.name || fn.origin == "") = true) :
    OpOk P o (dI (trExt fn.name xs)) := by
  have hbad : OpOk P o oBad := fun en h nx κ w0 pd θ a w _ _ e => by cases e
  have mk : ∀ {n : String} {e : Array Value → Sem Value}, fn.name = n → (n == "runtime.NumGoroutine") = false → (Extern.allNextRows.lookup n).isNone = true → (Extern.allGenericRows.lookup n).isNone = true → (Extern.allTypedRows.lookup n).isNone = true → Extern.allRows.lookup n = some e → ExtC P o e c.args.toList :=
    fun hn h0 h1 h2 h3 h4 => extC ho hc hf hb hog hn h0 h1 h2 h3 h4
  obtain ⟨hlen, hget⟩ := omap_some hxs
  unfold trExt
  split
  · have hnil : c.args.toList = [] := List.eq_nil_of_length_eq_zero (by simpa using hlen)
    split
    · rename_i hn
      have := mk (e := fun _ => do mark .disable; pure Extern.Race.none_) (eq_of_beq hn) (by kernel_rfl) (by kernel_rfl) (by kernel_rfl) (by kernel_rfl) (by kernel_rfl)
      rw [hnil] at this
      exact a_nop this (fun w => rfl)
    · split
      · rename_i hn
        have := mk (e := fun _ => do mark .enable; pure Extern.Race.none_) (eq_of_beq hn) (by kernel_rfl) (by kernel_rfl) (by kernel_rfl) (by kernel_rfl) (by kernel_rfl)
        rw [hnil] at this
        exact a_nop this (fun w => rfl)
      · exact hbad
  · rename_i x
    obtain ⟨Y, hY⟩ : ∃ Y, c.args.toList = [Y] := List.length_eq_one_iff.1 (by simpa using hlen)
    obtain ⟨x', hx1, hx2⟩ := hget 0 Y (by rw [hY]; rfl)
    have : x' = x := by simpa using hx1.symm
    subst this
    have hx := x_ok hx2
    rw [hY] at mk
    split
    · rename_i hn; exact a_ald hx (mk (eq_of_beq hn) (by kernel_rfl) (by kernel_rfl) (by kernel_rfl) (by kernel_rfl) (by kernel_rfl))
    · split
      · rename_i hn; exact a_ald hx (mk (eq_of_beq hn) (by kernel_rfl) (by kernel_rfl) (by kernel_rfl) (by kernel_rfl) (by kernel_rfl))
      · split
        · rename_i hn; exact a_ald hx (mk (eq_of_beq hn) (by kernel_rfl) (by kernel_rfl) (by kernel_rfl) (by kernel_rfl) (by kernel_rfl))
        · split
          · rename_i hn; exact a_ald hx (mk (eq_of_beq hn) (by kernel_rfl) (by kernel_rfl) (by kernel_rfl) (by kernel_rfl) (by kernel_rfl))
          · split
            · rename_i hn; exact a_nopp (m := .acquire) hx (mk (eq_of_beq hn) (by kernel_rfl) (by kernel_rfl) (by kernel_rfl) (by kernel_rfl) (by kernel_rfl))
            · split
              · rename_i hn; exact a_nopp (m := .release) hx (mk (eq_of_beq hn) (by kernel_rfl) (by kernel_rfl) (by kernel_rfl) (by kernel_rfl) (by kernel_rfl))
              · split
                · rename_i hn; exact a_nopp (m := .releaseMerge) hx (mk (eq_of_beq hn) (by kernel_rfl) (by kernel_rfl) (by kernel_rfl) (by kernel_rfl) (by kernel_rfl))
                · split
                  · rename_i hn; exact b_nes hx (mk (eq_of_beq hn) (by kernel_rfl) (by kernel_rfl) (by kernel_rfl) (by kernel_rfl) (by kernel_rfl))
                  · exact hbad
  · rename_i x y
    obtain ⟨U, V, hY⟩ : ∃ U V, c.args.toList = [U, V] := len_two (by simpa using hlen)
    obtain ⟨x', hx1, hx2⟩ := hget 0 U (by rw [hY]; rfl)
    obtain ⟨y', hy1, hy2⟩ := hget 1 V (by rw [hY]; rfl)
    have : x' = x := by simpa using hx1.symm
    subst this
    have : y' = y := by simpa using hy1.symm
    subst this
    have hx := x_ok hx2
    have hy := x_ok hy2
    rw [hY] at mk
    split
    · rename_i hn; exact a_ast hx hy (mk (eq_of_beq hn) (by kernel_rfl) (by kernel_rfl) (by kernel_rfl) (by kernel_rfl) (by kernel_rfl))
    · split
      · rename_i hn; exact a_ast hx hy (mk (eq_of_beq hn) (by kernel_rfl) (by kernel_rfl) (by kernel_rfl) (by kernel_rfl) (by kernel_rfl))
      · split
        · rename_i hn; exact a_ast hx hy (mk (eq_of_beq hn) (by kernel_rfl) (by kernel_rfl) (by kernel_rfl) (by kernel_rfl) (by kernel_rfl))
        · split
          · rename_i hn; exact a_aad hx hy (mk (eq_of_beq hn) (by kernel_rfl) (by kernel_rfl) (by kernel_rfl) (by kernel_rfl) (by kernel_rfl))
          · split
            · rename_i hn; exact a_aad hx hy (mk (eq_of_beq hn) (by kernel_rfl) (by kernel_rfl) (by kernel_rfl) (by kernel_rfl) (by kernel_rfl))
            · split
              · rename_i hn; exact a_aad hx hy (mk (eq_of_beq hn) (by kernel_rfl) (by kernel_rfl) (by kernel_rfl) (by kernel_rfl) (by kernel_rfl))
              · split
                · rename_i hn; exact b_cnt hx hy (mk (eq_of_beq hn) (by kernel_rfl) (by kernel_rfl) (by kernel_rfl) (by kernel_rfl) (by kernel_rfl))
                · split
                  · rename_i hn; exact b_idx hx hy (mk (eq_of_beq hn) (by kernel_rfl) (by kernel_rfl) (by kernel_rfl) (by kernel_rfl) (by kernel_rfl))
                  · exact hbad
  · rename_i x y z
    obtain ⟨U, V, W, hY⟩ : ∃ U V W, c.args.toList = [U, V, W] := len_three (by simpa using hlen)
    obtain ⟨x', hx1, hx2⟩ := hget 0 U (by rw [hY]; rfl)
    obtain ⟨y', hy1, hy2⟩ := hget 1 V (by rw [hY]; rfl)
    obtain ⟨z', hz1, hz2⟩ := hget 2 W (by rw [hY]; rfl)
    have : x' = x := by simpa using hx1.symm
    subst this
    have : y' = y := by simpa using hy1.symm
    subst this
    have : z' = z := by simpa using hz1.symm
    subst this
    have hx := x_ok hx2
    have hy := x_ok hy2
    have hz := x_ok hz2
    rw [hY] at mk
    split
    · rename_i hn; exact a_acs hx hy hz (mk (eq_of_beq hn) (by kernel_rfl) (by kernel_rfl) (by kernel_rfl) (by kernel_rfl) (by kernel_rfl))
    · split
      · rename_i hn; exact a_acs hx hy hz (mk (eq_of_beq hn) (by kernel_rfl) (by kernel_rfl) (by kernel_rfl) (by kernel_rfl) (by kernel_rfl))
      · split
        · rename_i hn; exact a_acs hx hy hz (mk (eq_of_beq hn) (by kernel_rfl) (by kernel_rfl) (by kernel_rfl) (by kernel_rfl) (by kernel_rfl))
        · exact hbad
  · exact hbad
end
end Go.AM
namespace Go.AM
open Go

/-- an operation, by its class -/
def Cls (P : Program) (o : Oper) (i : I) : Prop := match clsI i with
  | 0 => PureOk P o (dI i)
  | 1 => ReadOk P o (dI i)
  | 2 => NewOk P o (dI i)
  | _ => OpOk P o (dI i)
section
variable {P : Program} {o : Oper}
theorem Cls.op {i : I} (h : Cls P o i) : OpOk P o (dI i) := by
  unfold Cls at h
  split at h
  · exact h.read.op
  · exact h.op
  · exact h.op
  · exact h
theorem cls_bad : Cls P o .bad := fun en h nx κ w0 pd θ a w _ _ e => by cases e
theorem bad_ok {C : I → Prop} (hb : C .bad) {x : Option I} (h : ∀ i, x = some i → C i) : C (bad .bad x) := by
  cases x with
  | none => exact hb
  | some i => exact h i rfl
theorem map2_some {α β γ : Type} {f : α → β → γ} {a : Option α} {b : Option β} {r : γ} (h : map2 f a b = some r) : ∃ x y, a = some x ∧ b = some y ∧ r = f x y := by
  cases a <;> cases b <;> first | (cases h; done) | skip
  injection h with h
  exact ⟨_, _, rfl, rfl, h.symm⟩
theorem map3_some {α β γ δ : Type} {f : α → β → γ → δ} {a : Option α} {b : Option β} {c : Option γ} {r : δ} (h : map3 f a b c = some r) : ∃ x y z, a = some x ∧ b = some y ∧ c = some z ∧ r = f x y z := by
  cases a <;> cases b <;> cases c <;> first | (cases h; done) | skip
  injection h with h
  exact ⟨_, _, _, rfl, rfl, rfl, h.symm⟩
theorem flat_agg {t : TypeId} {g : Bool} {ks : List Nat} {fs : Array Field} (hu : P.underlying t = some (.struct fs)) (h : flatT P t = some (g, ks)) : g = true := by
  rcases flatT_some h with ⟨_, c, _, hc⟩ | ⟨hg, _⟩
  · obtain ⟨d, hd, hk⟩ := flatC_some hc
    rw [hu] at hd
    injection hd with hd
    subst hd
    rcases hk with ⟨k, h1, _⟩ | ⟨h1, _⟩ | ⟨h1, _⟩ <;> cases h1
  · exact hg
theorem flat_agga {t el : TypeId} {g : Bool} {ks : List Nat} {n : Nat} (hu : P.underlying t = some (.array n el)) (h : flatT P t = some (g, ks)) : g = true := by
  rcases flatT_some h with ⟨_, c, _, hc⟩ | ⟨hg, _⟩
  · obtain ⟨d, hd, hk⟩ := flatC_some hc
    rw [hu] at hd
    injection hd with hd
    subst hd
    rcases hk with ⟨k, h1, _⟩ | ⟨h1, _⟩ | ⟨h1, _⟩ <;> cases h1
  · exact hg
theorem cls_bin {op : BinOp} {t t2 : TypeId} {x y : Operand} (ho : o.op = .binOp op t x y t2) : Cls P o (trBin P op t x y) := by
  unfold trBin
  refine bad_ok cls_bad fun i hi => ?_
  obtain ⟨a, b, ha, hb, rfl⟩ := map2_some hi
  have hx := x_ok ha
  have hy := x_ok hb
  split
  · rename_i k hu
    exact p_bin (k := kn k) hx hy ho
  · exact p_bs hx hy ho
  · rename_i hu
    cases op <;> first | exact cls_bad | skip
    · exact p_bb (neg := false) hx hy hu ho
    · exact p_bb (neg := true) hx hy hu ho
  · rename_i fs hu
    have key : ∀ neg, o.op = .binOp (if neg then .neq else .eql) t x y t2 → Cls P o (match flatT2 P t with | some ks => .eqs neg true ks a b | none => .bad) := by
      intro neg ho'
      split
      · rename_i ks hf
        exact p_eqs (neg := neg) hx hy (eqOk_flat2 hf) ⟨_, hu, fun k => by simp⟩ rfl ho'
      · exact cls_bad
    cases op <;> first | exact cls_bad | skip
    · exact key false ho
    · exact key true ho
  · rename_i nn el hu
    have key : ∀ neg, o.op = .binOp (if neg then .neq else .eql) t x y t2 → Cls P o (match flatT P t with | some (g, ks) => .eqs neg g ks a b | none => .bad) := by
      intro neg ho'
      split
      · rename_i g ks hf
        exact p_eqs (neg := neg) hx hy (eqOk_flat hf) ⟨_, hu, fun k => by simp⟩ (flat_agga hu hf) ho'
      · exact cls_bad
    cases op <;> first | exact cls_bad | skip
    · exact key false ho
    · exact key true ho
  · rename_i ms hu
    split
    · rename_i hc
      have hc : isC x = true ∨ isC y = true := by simpa using hc
      cases op <;> first | exact cls_bad | skip
      · exact a_eqn (neg := false) hx hy (tc := 4) ⟨⟨ms, hu⟩, hc⟩ ho
      · exact a_eqn (neg := true) hx hy (tc := 4) ⟨⟨ms, hu⟩, hc⟩ ho
    · exact cls_bad
  · rename_i e hu
    split
    · exact cls_bad
    · rename_i hs
      have : ∃ n, sizeT P e = some n ∧ n ≠ 0 := by
        cases h : sizeT P e with
        | none => rw [h] at hs; exact absurd rfl hs
        | some n => rw [h] at hs; exact ⟨n, rfl, fun hn => hs (by rw [hn]; rfl)⟩
      obtain ⟨n, h1, h2⟩ := this
      cases op <;> first | exact cls_bad | skip
      · exact a_eqn (neg := false) hx hy (tc := 0) ⟨e, n, hu, h1, h2⟩ ho
      · exact a_eqn (neg := true) hx hy (tc := 0) ⟨e, n, hu, h1, h2⟩ ho
  · rename_i e hu
    cases op <;> first | exact cls_bad | skip
    · exact a_eqn (neg := false) hx hy (tc := 1) ⟨e, hu⟩ ho
    · exact a_eqn (neg := true) hx hy (tc := 1) ⟨e, hu⟩ ho
  · rename_i k e hu
    cases op <;> first | exact cls_bad | skip
    · exact a_eqn (neg := false) hx hy (tc := 2) ⟨k, e, hu⟩ ho
    · exact a_eqn (neg := true) hx hy (tc := 2) ⟨k, e, hu⟩ ho
  · rename_i a b c hu
    cases op <;> first | exact cls_bad | skip
    · exact a_eqn (neg := false) hx hy (tc := 3) ⟨a, b, c, hu⟩ ho
    · exact a_eqn (neg := true) hx hy (tc := 3) ⟨a, b, c, hu⟩ ho
  · exact cls_bad
theorem args_one {c : Call} {x : X} (h : omap trX c.args.toList = some [x]) : ∃ Y, c.args.toList = [Y] ∧ trX Y = some x := by
  obtain ⟨h1, h2⟩ := omap_some h
  obtain ⟨Y, hY⟩ : ∃ Y, c.args.toList = [Y] := List.length_eq_one_iff.1 (by simpa using h1)
  obtain ⟨x', q1, q2⟩ := h2 0 Y (by rw [hY]; rfl)
  have : x' = x := by simpa using q1.symm
  subst this
  exact ⟨Y, hY, q2⟩
theorem args_two {c : Call} {x y : X} (h : omap trX c.args.toList = some [x, y]) : ∃ U V, c.args.toList = [U, V] ∧ trX U = some x ∧ trX V = some y := by
  obtain ⟨h1, h2⟩ := omap_some h
  obtain ⟨U, V, hY⟩ := len_two (l := c.args.toList) (by simpa using h1)
  obtain ⟨x', q1, q2⟩ := h2 0 U (by rw [hY]; rfl)
  obtain ⟨y', q3, q4⟩ := h2 1 V (by rw [hY]; rfl)
  have : x' = x := by simpa using q1.symm
  subst this
  have : y' = y := by simpa using q3.symm
  subst this
  exact ⟨U, V, hY, q2, q4⟩
theorem cls_builtin {ps : String} {b : Builtin} {c : Call} {xs : List X} (hxs : omap trX c.args.toList = some xs) (hc : c.callee = .builtin b) (ho : o.op = .call c) : Cls P o (trB P ps b c.argTypes.toList xs) := by
  unfold trB
  split
  · rename_i t x ht
    obtain ⟨Y, hY, hx⟩ := args_one hxs
    split
    · rename_i hu; exact r_lens (x_ok hx) hu hc hY ht ho
    · rename_i e hu; exact r_lenl (x_ok hx) hu hc hY ht ho
    · rename_i k e hu; exact r_lenm (x_ok hx) hu hc hY ht ho
    · exact cls_bad
  · exact p_mm (mx := false) (xs_ok hxs) hc ho
  · exact p_mm (mx := true) (xs_ok hxs) hc ho
  · rename_i t u x y ht
    obtain ⟨U, V, hY, hx, hy⟩ := args_two hxs
    have go : ∀ e, P.underlying t = some (.slice e) → ((∃ e', P.underlying u = some (.slice e')) ∨ P.underlying u = some .string) → Cls P o (bad .bad (map3 (fun s b z => if posA ps then (if s == 1 then if z.length == 1 then .apb e b x y else .bad else .bad) else if z.length == s then .apn x y s b else .bad) (sizeT P e) (bytesT P e) (zeroT P e))) := by
      intro e hu hk
      refine bad_ok cls_bad fun i hi => ?_
      obtain ⟨s, b, z, h1, h2, h3, rfl⟩ := map3_some hi
      split
      · split
        · rename_i hs
          split
          · rename_i hz
            exact b_apb (x_ok hx) (x_ok hy) hu hk (by rw [h1, eq_of_beq hs]) h2 h3 (eq_of_beq hz) hc hY ht ho
          · exact cls_bad
        · exact cls_bad
      · split
        · rename_i hz
          exact a_apn (x_ok hx) (x_ok hy) hu hk h1 h2 h3 (eq_of_beq hz) hc hY ht ho
        · exact cls_bad
    split
    · rename_i e e' hu hu2; exact go e hu (.inl ⟨e', hu2⟩)
    · rename_i e hu hu2; exact go e hu (.inr hu2)
    · rename_i e k hu hu2
      refine bad_ok cls_bad fun i hi => ?_
      obtain ⟨s, b, z, h1, h2, h3, rfl⟩ := map3_some hi
      split
      · rename_i hz
        exact a_apz (x_ok hx) (x_ok hy) hu hu2 h1 h2 h3 (eq_of_beq hz) hc hY ht ho
      · exact cls_bad
    · exact cls_bad
  · rename_i t x ht
    obtain ⟨Y, hY, hx⟩ := args_one hxs
    split
    · rename_i e hu
      refine bad_ok cls_bad fun i hi => ?_
      obtain ⟨z, hz, rfl⟩ := Option.map_eq_some_iff.1 hi
      exact a_clr (x_ok hx) hu hz hc hY ht ho
    · exact cls_bad
  · rename_i t r x y ht
    obtain ⟨U, V, hY, hx, hy⟩ := args_two hxs
    split
    · rename_i e hu
      refine bad_ok cls_bad fun i hi => ?_
      obtain ⟨s, hs, rfl⟩ := Option.map_eq_some_iff.1 hi
      split
      · exact b_cpn (x_ok hx) (x_ok hy) hu hs hc hY ⟨r, ht⟩ ho ⟨t, .inl ⟨e, hu⟩⟩
      · exact a_cpy (x_ok hx) (x_ok hy) hu hs hc hY ⟨r, ht⟩ ho ⟨t, .inl ⟨e, hu⟩⟩
    · exact cls_bad
  · rename_i t x ht
    obtain ⟨Y, hY, hx⟩ := args_one hxs
    split
    · rename_i e hu; exact b_cap (x_ok hx) hu hc hY ht ho
    · exact cls_bad
  · rename_i x
    obtain ⟨Y, hY, hx⟩ := args_one hxs
    exact b_usd (x_ok hx) hc hY rfl ho
  · rename_i t u x y ht
    obtain ⟨U, V, hY, hx, hy⟩ := args_two hxs
    split
    · rename_i e hu
      split
      · rename_i s hs
        split
        · rename_i h1
          exact b_ust (x_ok hx) (x_ok hy) hu (by rw [hs, eq_of_beq h1]) hc hY ht ho
        · exact cls_bad
      · exact cls_bad
    · exact cls_bad
  · rename_i t r x k ht
    obtain ⟨U, V, hY, hx, hy⟩ := args_two hxs
    split
    · rename_i kt e hu
      split
      · rename_i g ks hf
        exact a_dlt (t2 := t) (x_ok hx) (x_ok hy) hu hf hc hY ⟨r, ht⟩ ho
      · exact cls_bad
    · exact cls_bad
  · exact cls_bad
theorem optX_no {m : Option X} {mx : Option Operand} : (match m with | none => true | some _ => false) = true → optX mx = some m → mx = none := by
  intro hn hm
  cases mx with
  | none => rfl
  | some mx =>
    unfold optX at hm
    simp only at hm
    obtain ⟨b, _, rfl⟩ := Option.map_eq_some_iff.1 hm
    cases hn
theorem optX_no2 {m : Option X} {mx : Option Operand} : (match m with | none => true | some _ => false) = false → optX mx = some m → mx ≠ none := by
  intro hn hm hx
  subst hx
  unfold optX at hm
  simp only [Option.some.injEq] at hm
  subst hm
  cases hn
theorem cls_slice {dr : Bool} {t : TypeId} {x : Operand} {lo qi mx : Option Operand} (hop : o.op = .slice t x lo qi mx) (hmh : qi = none → mx = none) : Cls P o (bad .bad (trSl P dr t x lo qi mx)) := by
    refine bad_ok cls_bad fun i hi => ?_
    unfold trSl at hi
    split at hi
    · rename_i e hu
      split at hi
      · rename_i a s ha hs
        obtain ⟨l, h, m, hl, hh, hm, rfl⟩ := map3_some hi
        cases dr with
        | false => exact a_slc (x_ok ha) (bd_ok hl) (bd_ok hh) (bd_ok hm) (fun hn => optX_no hn hm) (fun hn => optX_no2 hn hm) hmh hu hs hop
        | true => exact r_slr (x_ok ha) (bd_ok hl) (bd_ok hh) (bd_ok hm) (fun hn => optX_no hn hm) (fun hn => optX_no2 hn hm) hmh hu hs hop
      · cases hi
    · rename_i hu
      cases mx with
      | some m => cases hi
      | none =>
        obtain ⟨a, l, h, ha, hl, hh, rfl⟩ := map3_some hi
        exact p_sls (x_ok ha) (bd_ok hl) (bd_ok hh) hu hop
    · rename_i n e hu
      split at hi
      · rename_i a s ha hs
        obtain ⟨l, h, m, hl, hh, hm, rfl⟩ := map3_some hi
        exact p_sla (x_ok ha) (bd_ok hl) (bd_ok hh) (bd_ok hm) hmh hu hs hop
      · cases hi
    · cases hi
theorem pinL_ok {u t off n : Nat} (h : (t, off, n) ∈ pinL P u) : liesAt P P.depth t (n / P.cellsOf t) off u 1 = true := (List.mem_filter.1 h).2
theorem extT {c : Call} {f : FuncId} {fn : Func} {n : String} {row : Array TypeId → Array TypeId → Array Value → Sem Value} (ho : o.op = .call c) (hc : c.callee = .value (.func f)) (hf : P.funcs[f]? = some fn) (hb : fn.body.isNone = true) (hog : (fn.origin == fn.name || fn.origin == "") = true) (hn : fn.name = n)
    (h0 : (n == "runtime.NumGoroutine") = false) (h1 : (Extern.allNextRows.lookup n).isNone = true) (h2 : (Extern.allGenericRows.lookup n).isNone = true) (h3 : Extern.allTypedRows.lookup n = some row) : ExtC P o (row fn.params fn.resultTypes) c.args.toList where
  run := by
    intro a w w' v hrun
    have hfind : Extern.find fn = some (row fn.params fn.resultTypes) := by
      unfold Extern.find
      have h2 : Extern.allGenericRows.lookup n = none := by simpa using h2
      simp [hn, h2, h3]
    refine ext_run ho hc hf hb (by rw [hn]; exact h0) (next_none hn hog h1 (by kernel_rfl)) hfind ?_
    have : (c.args.toList.map a.eval).toArray = c.args.map a.eval := by apply Array.ext'; simp
    rw [this] at hrun
    exact hrun
theorem mnz_ok {c : Call} {f : FuncId} {fn : Func} {xs : List AM.X} (hxs : omap trX c.args.toList = some xs) (ho : o.op = .call c) (hc : c.callee = .value (.func f)) (hf : P.funcs[f]? = some fn) (hb : fn.body.isNone = true) (hog : (fn.origin == fn.name || fn.origin == "") = true)
    (hn : (fn.name == "internal/bytealg.MakeNoZero") = true) : Cls P o (mnzI P fn xs) := by
  have he := extT (row := Extern.BytealgMakeNoZero.makeNoZero) ho hc hf hb hog (eq_of_beq hn) (by kernel_rfl) (by kernel_rfl) (by kernel_rfl) (by kernel_rfl)
  unfold mnzI
  split
  · rename_i x t ht
    obtain ⟨Y, hY, hx⟩ := args_one hxs
    split
    · rename_i e hu
      have ht' : fn.resultTypes = #[t] := by apply Array.ext'; exact ht
      rw [ht', hY] at he
      exact b_mnz (x_ok hx) hu he
    · exact cls_bad
  · exact cls_bad
theorem cls_ok {dr : Bool} {ps : String} : Cls P o (trI P dr ps o.op) := by
  cases hop : o.op <;> (try exact cls_bad) <;> unfold trI
  case move x =>
    refine bad_ok cls_bad fun i hi => ?_
    obtain ⟨a, ha, rfl⟩ := Option.map_eq_some_iff.1 hi
    exact p_mv (x_ok ha) (.inl hop)
  case assign x =>
    refine bad_ok cls_bad fun i hi => ?_
    obtain ⟨a, ha, rfl⟩ := Option.map_eq_some_iff.1 hi
    exact p_mv (x_ok ha) (.inr hop)
  case pick c x y =>
    refine bad_ok cls_bad fun i hi => ?_
    obtain ⟨a, b, d, ha, hb, hd, rfl⟩ := map3_some hi
    exact p_pick (x_ok ha) (x_ok hb) (x_ok hd) hop
  case alloc e =>
    refine bad_ok cls_bad fun i hi => ?_
    obtain ⟨z, hz, rfl⟩ := Option.map_eq_some_iff.1 hi
    split
    · exact n_als hz hop
    · exact n_al hz hop
  case box e x =>
    refine bad_ok cls_bad fun i hi => ?_
    obtain ⟨a, ha, rfl⟩ := Option.map_eq_some_iff.1 hi
    split
    · exact n_bxs (x_ok ha) hop
    · exact n_bx (x_ok ha) hop
  case build t ps =>
    refine bad_ok cls_bad fun i hi => ?_
    split at hi
    · rename_i fs z hu hz
      split at hi
      · rename_i hs
        obtain ⟨pts, hp, rfl⟩ := Option.map_eq_some_iff.1 hi
        exact p_blds hu hz hs hp hop
      · cases hi
    · rename_i n e z hu hz
      split at hi
      · rename_i hs
        obtain ⟨pts, hp, rfl⟩ := Option.map_eq_some_iff.1 hi
        obtain ⟨s, hs⟩ := Option.isSome_iff_exists.1 hs
        exact p_blda hu hz hs hp hop
      · cases hi
    · cases hi
  case buildSlice t len ps =>
    refine bad_ok cls_bad fun i hi => ?_
    split at hi
    · rename_i e hu
      split at hi
      · rename_i z s hz hs
        split at hi
        · rename_i hc
          simp only [Bool.and_eq_true, beq_iff_eq, decide_eq_true_eq] at hc
          obtain ⟨pts, hp, rfl⟩ := Option.map_eq_some_iff.1 hi
          exact n_bsl hu hz hs hc.1 hc.2 hp hop
        · cases hi
      · cases hi
    · cases hi
  case load t x =>
    refine bad_ok cls_bad fun i hi => ?_
    obtain ⟨a, s, g, ha, hs, hg, rfl⟩ := map3_some hi
    cases g with
    | true => exact r_ld (x_ok ha) hg hs hop
    | false => exact r_ld1 (x_ok ha) hg hop
  case store t x y =>
    refine bad_ok cls_bad fun i hi => ?_
    obtain ⟨a, b, s, ha, hb, hs, rfl⟩ := map3_some hi
    exact a_st (x_ok ha) (x_ok hb) hs hop
  case nilCheck x =>
    refine bad_ok cls_bad fun i hi => ?_
    obtain ⟨a, ha, rfl⟩ := Option.map_eq_some_iff.1 hi
    exact p_nc (x_ok ha) hop
  case binOp op t x y t2 => exact cls_bin hop
  case unOp op t x =>
    refine bad_ok cls_bad fun i hi => ?_
    obtain ⟨a, ha, rfl⟩ := Option.map_eq_some_iff.1 hi
    cases op
    case not => exact p_nt (x_ok ha) hop
    case neg => exact p_ng (x_ok ha) hop
    case xor => exact p_cm (x_ok ha) hop
    case plus => exact cls_bad
  case convert s d x =>
    refine bad_ok cls_bad fun i hi => ?_
    obtain ⟨a, ha, rfl⟩ := Option.map_eq_some_iff.1 hi
    split
    · rename_i k1 k hs hd
      exact p_cvi (k0 := 0) (x_ok ha) hs (by rw [kind_kn]; exact hd) hop
    · rename_i e hs hd
      split
      · rename_i h8
        have he : P.underlying e = some (.int .u8) := by
          unfold isU8 at h8
          split at h8
          · assumption
          · cases h8
        exact r_b2s (x_ok ha) hs he hd hop
      · exact cls_bad
    · rename_i e hs hd
      split
      · rename_i h8
        have he : P.underlying e = some (.int .u8) := by
          unfold isU8 at h8
          split at h8
          · assumption
          · cases h8
        exact a_s2b (x_ok ha) hs hd he hop
      · exact cls_bad
    · rename_i hs hd
      exact p_sid (x_ok ha) hs hd hop
    · rename_i e e2 hs hd
      split
      · rename_i h8
        simp only [Bool.and_eq_true] at h8
        have hsd : s = d := eq_of_beq h8.1
        subst hsd
        have he : P.underlying e = some (.int .u8) := by
          have h8 := h8.2
          unfold isU8 at h8
          split at h8
          · assumption
          · cases h8
        exact a_msh (x_ok ha) hs he hop
      · exact cls_bad
    · rename_i e hs hd
      split
      · exact cls_bad
      · rename_i hn
        have : ∃ n, sizeT P e = some n ∧ n ≠ 0 := by
          cases h : sizeT P e with
          | none => rw [h] at hn; exact absurd rfl hn
          | some n => rw [h] at hn; exact ⟨n, rfl, fun h0 => hn (by rw [h0]; rfl)⟩
        obtain ⟨n, h1, h2⟩ := this
        exact a_uptr (x_ok ha) hs hd h1 h2 hop
    · rename_i u hs hd
      split
      · rename_i hu
        obtain ⟨j, hj⟩ := Option.isSome_iff_exists.1 hu
        exact b_cvp (x_ok ha) hs hd hj (fun t off n h => pinL_ok h) hop
      · exact cls_bad
    · exact cls_bad
  case sliceToArrayPointer t x =>
    refine bad_ok cls_bad fun i hi => ?_
    split at hi
    · rename_i n e hu
      obtain ⟨a, ha, rfl⟩ := Option.map_eq_some_iff.1 hi
      exact p_s2a (x_ok ha) hu hop
    · cases hi
  case makeInterface t x =>
    refine bad_ok cls_bad fun i hi => ?_
    obtain ⟨a, ha, rfl⟩ := Option.map_eq_some_iff.1 hi
    split
    · exact cls_bad
    · rename_i d hd hu
      exact p_mki (x_ok ha) hu (fun ms h => by subst h; exact hd ms rfl) hop
    · exact cls_bad
  case makeFunc fn first cs =>
    cases fn <;> try exact cls_bad
    rename_i f
    show Cls P o (if first.size == 0 then _ else _)
    split
    · rename_i hf
      have hf : first = #[] := by simpa using hf
      subst hf
      refine bad_ok cls_bad fun i hi => ?_
      obtain ⟨xs, hxs, rfl⟩ := Option.map_eq_some_iff.1 hi
      exact p_mkf (xs_ok hxs) hop
    · exact cls_bad
  case makeMap t r =>
    cases r with
    | none => exact a_mkm hop
    | some r => exact cls_bad
  case makeSlice t x y =>
    refine bad_ok cls_bad fun i hi => ?_
    split at hi
    · rename_i e hu
      split at hi
      · rename_i z s hz hs
        split at hi
        · rename_i hc
          simp only [Bool.and_eq_true, beq_iff_eq, decide_eq_true_eq] at hc
          obtain ⟨a, b, c, ha, hb, hcc, rfl⟩ := map3_some hi
          exact n_mks (x_ok ha) (x_ok hb) hu hz hs hc.1 hc.2 hcc hop
        · cases hi
      · cases hi
    · cases hi
  case slice t x lo qi mx =>
    cases qi with
    | none => cases mx with
      | none => exact cls_slice hop (fun _ => rfl)
      | some m => exact cls_bad
    | some q => cases mx with
      | none => exact cls_slice hop (fun h => nomatch h)
      | some m => exact cls_slice hop (fun h => nomatch h)
  case fieldAddr t x f =>
    refine bad_ok cls_bad fun i hi => ?_
    split at hi
    · rename_i fs hu
      split at hi
      · rename_i fd hf
        split at hi
        · cases hi
        · rename_i hn
          have : ∃ n, sizeT P fd.type = some n ∧ n ≠ 0 := by
            cases h : sizeT P fd.type with
            | none => rw [h] at hn; exact absurd rfl hn
            | some n => rw [h] at hn; exact ⟨n, rfl, fun h0 => hn (by rw [h0]; rfl)⟩
          obtain ⟨n, h1, h2⟩ := this
          obtain ⟨a, ha, rfl⟩ := Option.map_eq_some_iff.1 hi
          exact p_fa (x_ok ha) hu hf h1 h2 rfl hop
      · cases hi
    · cases hi
  case field t x f =>
    refine bad_ok cls_bad fun i hi => ?_
    split at hi
    · rename_i fs hu
      split at hi
      · rename_i fd hf
        obtain ⟨a, s, g, ha, hs, hg, rfl⟩ := map3_some hi
        cases g with
        | true => exact p_fld (x_ok ha) hu hf hs hg rfl hop
        | false => exact p_fl1 (x_ok ha) hu hf hg rfl hop
      · cases hi
    · cases hi
  case indexAddr t x y =>
    refine bad_ok cls_bad fun i hi => ?_
    split at hi
    · rename_i e hu
      obtain ⟨a, b, s, ha, hb, hs, rfl⟩ := map3_some hi
      exact p_ias (x_ok ha) (x_ok hb) hu hs hop
    · rename_i n e hu
      obtain ⟨a, b, s, ha, hb, hs, rfl⟩ := map3_some hi
      exact p_iaa (x_ok ha) (x_ok hb) hu hs hop
    · cases hi
  case index t x y =>
    refine bad_ok cls_bad fun i hi => ?_
    split at hi
    · rename_i hu
      obtain ⟨a, b, ha, hb, rfl⟩ := map2_some hi
      exact p_ixs (x_ok ha) (x_ok hb) hu hop
    · cases hi
  case lookup t x k ok =>
    refine bad_ok cls_bad fun i hi => ?_
    split at hi
    · rename_i kt e hu
      split at hi
      · rename_i g ks hf
        obtain ⟨a, b, z, ha, hb, hz, rfl⟩ := map3_some hi
        exact r_lkp (x_ok ha) (x_ok hb) hu hf hz hop
      · cases hi
    · cases hi
  case mapUpdate t m k v =>
    refine bad_ok cls_bad fun i hi => ?_
    split at hi
    · rename_i kt e hu
      split at hi
      · rename_i g ks hf
        obtain ⟨a, b, c, ha, hb, hc, rfl⟩ := map3_some hi
        exact a_mpu (x_ok ha) (x_ok hb) (x_ok hc) hu hf (.inl hop)
      · cases hi
    · cases hi
  case insert t m k v =>
    refine bad_ok cls_bad fun i hi => ?_
    split at hi
    · rename_i kt e hu
      split at hi
      · rename_i g ks hf
        obtain ⟨a, b, c, ha, hb, hc, rfl⟩ := map3_some hi
        exact a_mpu (x_ok ha) (x_ok hb) (x_ok hc) hu hf (.inr hop)
      · cases hi
    · cases hi
  case mapEntry t m k =>
    refine bad_ok cls_bad fun i hi => ?_
    split at hi
    · rename_i kt e hu
      split at hi
      · rename_i g ks hf
        obtain ⟨a, b, z, ha, hb, hz, rfl⟩ := map3_some hi
        exact a_mpe (x_ok ha) (x_ok hb) hu hf hz hop
      · cases hi
    · cases hi
  case entryStore t m s v =>
    refine bad_ok cls_bad fun i hi => ?_
    obtain ⟨a, b, c, ha, hb, hc, rfl⟩ := map3_some hi
    exact a_ens (x_ok ha) (x_ok hb) (x_ok hc) hop
  case range t x =>
    refine bad_ok cls_bad fun i hi => ?_
    split at hi
    · rename_i kt e hu
      obtain ⟨a, ha, rfl⟩ := Option.map_eq_some_iff.1 hi
      exact a_rng (x_ok ha) hu hop
    · cases hi
  case entry x =>
    refine bad_ok cls_bad fun i hi => ?_
    obtain ⟨a, ha, rfl⟩ := Option.map_eq_some_iff.1 hi
    exact a_ety (x_ok ha) hop
  case next x s =>
    cases s with
    | true => exact cls_bad
    | false =>
      refine bad_ok cls_bad fun i hi => ?_
      obtain ⟨a, ha, rfl⟩ := Option.map_eq_some_iff.1 hi
      exact a_nxt (x_ok ha) hop
  case extract x n =>
    refine bad_ok cls_bad fun i hi => ?_
    obtain ⟨a, ha, rfl⟩ := Option.map_eq_some_iff.1 hi
    exact p_ext (x_ok ha) hop
  case call c =>
    show Cls P o (match c.callee, trXs c.args with
      | .builtin b, some xs => trB P ps b c.argTypes.toList xs
      | .value (.func f), some xs => (match P.funcs[f]? with | some fn => if fn.body.isNone && (fn.origin == fn.name || fn.origin == "") then (if fn.name == "internal/bytealg.MakeNoZero" then mnzI P fn xs else trExt fn.name xs) else .bad | none => .bad)
      | _, _ => .bad)
    split
    · rename_i b xs hc hxs
      exact cls_builtin hxs hc hop
    · rename_i f xs hc hxs
      split
      · rename_i fn hf
        split
        · rename_i hb
          simp only [Bool.and_eq_true] at hb
          split
          · rename_i hn
            exact mnz_ok hxs hop hc hf hb.1 hb.2 hn
          · have := ext_ok hxs hop hc hf hb.1 hb.2
            have hcl : ∀ i, (i = trExt fn.name xs) → (clsI i = 3) := by
              rintro i rfl
              unfold trExt
              split <;> (repeat' split) <;> rfl
            unfold Cls
            rw [hcl _ rfl]
            exact this
        · exact cls_bad
      · exact cls_bad
    · exact cls_bad
end
end Go.AM
