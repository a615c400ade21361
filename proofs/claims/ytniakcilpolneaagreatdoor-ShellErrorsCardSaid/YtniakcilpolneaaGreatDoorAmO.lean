/-
  AM, 16: slices, append, copy. Conditions: none.
-/
import Derived.Test.YtniakcilpolneaaGreatDoorAmM
import Derived.Laws.Small
import Derived.Laws.Slices
namespace Go.AM
open Go

section
variable {P : Program} {o : Oper} {x y z : XF} {X Y Z : Operand}
/-- a bound -/
def BdOk (b : BdF) (y : Option Operand) : Prop := ∀ en d κ, b en d κ = true → ∃ n, (∀ κ', b en d κ' = κ' n) ∧ κ n = true ∧ ((y = none ∧ n = d) ∨ ∃ Y, y = some Y ∧ ∀ θ (a : Act), ER θ en a.tmps → ∃ k, a.eval Y = .int k (n : Int))
theorem bd_ok {y : Option Operand} {x : Option AM.X} (h : optX y = some x) : BdOk (dB x) y := by
  unfold optX at h
  split at h
  · injection h with h; subst h
    exact fun en d κ e => ⟨d, fun _ => rfl, e, .inl ⟨rfl, rfl⟩⟩
  · rename_i y
    cases hx : trX y with
    | none => rw [hx] at h; cases h
    | some x =>
      rw [hx] at h; injection h with h; subst h
      intro en d κ e
      obtain ⟨v, hv, hr⟩ := x_ok hx en
      have e : dX x en (asN κ) = true := e
      rw [hv] at e
      obtain ⟨k, n, rfl, e1⟩ := asN_true e
      exact ⟨n, fun κ' => hv _, e1, .inr ⟨y, rfl, fun θ a hE => ⟨_, (hr θ a hE).i⟩⟩⟩
theorem run_bnds {a : Act} {w : World} {isSlice : Bool} {len cap : Nat} {lo hi mx : Option Operand} {l h m : Nat}
    (hl : (lo = none ∧ l = 0) ∨ ∃ Y, lo = some Y ∧ ∃ k, a.eval Y = .int k (l : Int)) (hh : (hi = none ∧ h = len) ∨ ∃ Y, hi = some Y ∧ ∃ k, a.eval Y = .int k (h : Int)) (hm : (mx = none ∧ m = cap) ∨ ∃ Y, mx = some Y ∧ ∃ k, a.eval Y = .int k (m : Int))
    (hmh : hi = none → mx = none) (h1 : l ≤ h) (h2 : h ≤ m) (h3 : m ≤ cap) : (Instr.sliceBounds isSlice len cap (lo.map a.eval) (hi.map a.eval) (mx.map a.eval)).run P w = .ok (l, h, m) w := by
  have bound : ∀ (k : IntKind) (i y : Nat) (code : BoundsCode), i ≤ y → (Instr.sliceBound (.int k (i : Int)) y code).run P w = .ok i w := fun k i y code h1 => run_sliceBound w k i y code (by omega) (by omega)
  rcases hm with ⟨rfl, rfl⟩ | ⟨ym, rfl, km, em⟩
  · rcases hh with ⟨rfl, rfl⟩ | ⟨yh, rfl, kh, eh⟩
    · rcases hl with ⟨rfl, rfl⟩ | ⟨yl, rfl, kl, el⟩
      · simp [Instr.sliceBounds]
      · simp [Instr.sliceBounds, el, bound kl l h _ h1]
    · rcases hl with ⟨rfl, rfl⟩ | ⟨yl, rfl, kl, el⟩
      · simp [Instr.sliceBounds, eh, bound kh h m _ h2]
      · simp [Instr.sliceBounds, eh, el, bound kh h m _ h2, bound kl l h _ h1]
  · rcases hh with ⟨rfl, rfl⟩ | ⟨yh, rfl, kh, eh⟩
    · exact absurd (hmh rfl) (by simp)
    · rcases hl with ⟨rfl, rfl⟩ | ⟨yl, rfl, kl, el⟩
      · simp [Instr.sliceBounds, em, eh, bound km m cap _ h3, bound kh h m _ h2]
      · simp [Instr.sliceBounds, em, eh, el, bound km m cap _ h3, bound kh h m _ h2, bound kl l h _ h1]
theorem p_sls {t : TypeId} {lo hi : Option Operand} {bl bh : BdF} (hx : XOk x X) (hl : BdOk bl lo) (hh : BdOk bh hi) (hu : P.underlying t = some .string) (ho : o.op = .slice t X lo hi none) : PureOk P o (oSls x bl bh) := by
  intro en h nx κ e
  obtain ⟨v, hv, hr⟩ := hx en
  simp only [oSls, hv] at e
  obtain ⟨s, rfl, e1⟩ := asS_true e
  obtain ⟨l, l1, e2, l2⟩ := hl _ _ _ e1
  rw [fnat_eq, lenN_eq] at e2
  obtain ⟨q, q1, e3, q2⟩ := hh _ _ _ e2
  obtain ⟨c1, e4⟩ := br_t e3
  obtain ⟨c2, e5⟩ := br_t e4
  have c1' : l ≤ q := Nat.le_of_ble_eq_true c1
  have c2' : q ≤ s.length := Nat.le_of_ble_eq_true c2
  refine ⟨.s ((s.drop l).take (q - l)), fun h' nx' κ' => ?_, fun θ a w hE => ⟨_, ⟨?_, rfl⟩, ?_⟩⟩
  · simp only [oSls, hv]
    show bl en 0 _ = _
    rw [l1, fnat_eq, lenN_eq, q1, c1, c2]
    show takeK Nat (q - l) (dropL Nat l s) _ = _
    rw [dropL_eq, takeK_eq, if_pos (by simp; omega)]
  · intro c hc
    exact (hr θ a hE).s.2 c (List.mem_of_mem_drop (List.mem_of_mem_take hc))
  · have hX := (hr θ a hE).s.1
    have hb := run_bnds (P := P) (a := a) (w := w) (isSlice := false) (len := (bytesOf s).size) (cap := (bytesOf s).size) (lo := lo) (hi := hi) (mx := none) (l := l) (h := q) (m := (bytesOf s).size)
      (l2.imp id fun ⟨Y, h1, h2⟩ => ⟨Y, h1, h2 θ a hE⟩) (by rw [bytes_size]; exact q2.imp id fun ⟨Y, h1, h2⟩ => ⟨Y, h1, h2 θ a hE⟩) (.inl ⟨rfl, rfl⟩) (fun _ => rfl) c1' (by rw [bytes_size]; exact c2') (Nat.le_refl _)
    have hex : (bytesOf s).extract l q = bytesOf ((s.drop l).take (q - l)) := by
      have hj : ∀ x y : ByteArray, x.data = y.data → x = y := fun x y h => by cases x; cases y; cases h; rfl
      apply hj
      rw [ByteArray.data_extract]
      apply Array.ext'
      simp [bytesOf, List.extract_eq_take_drop, List.map_take, List.map_drop]
    simp only [Option.map_none] at hb
    simp [execOp, ho, hX, Instr.sliceAt, Instr.slice, run_underlying hu, hb, hex, toV]
/-- a slice whose end is known -/
theorem cut_known {θ : Th} {ob off c l q m size len : Nat} {h : H} {nx : Nat} {κ : K} (e : cutK ob off len c l q m size h nx κ = true) (hlq : l ≤ q) (hh : θ.has ob) :
    q ≤ m ∧ m ≤ c ∧ ∃ v, κ v h nx = true ∧ VR θ v (.slice (some (if m = l then (⟨θ.blk ob, θ.bas ob + off, none⟩ : Addr) else (⟨θ.blk ob, θ.bas ob + off, none⟩ : Addr).add (l * size))) (q - l) (m - l)) := by
  obtain ⟨c1, e1⟩ := br_t e
  obtain ⟨c2, e2⟩ := br_t e1
  have c1 : q ≤ m := Nat.le_of_ble_eq_true c1
  have c2 : m ≤ c := Nat.le_of_ble_eq_true c2
  refine ⟨c1, c2, ?_⟩
  rcases br_true e2 with ⟨h1, h2⟩ | ⟨h1, h2⟩
  · have h1 := Nat.eq_of_beq_eq_true h1
    refine ⟨_, h2, hh, ?_⟩
    rw [if_pos h1]
    have h3 : q - l = 0 := by omega
    have h4 : m - l = 0 := by omega
    rw [h3, h4]; rfl
  · have h1 : m ≠ l := fun h => by subst h; simp at h1
    rw [fnat_eq, fnat_eq, fnat_eq] at h2
    refine ⟨_, h2, hh, ?_⟩
    rw [if_neg h1, Addr.add_lit]
    show _ = Value.slice (some ⟨_, θ.bas ob + (off + l * size), none⟩) _ _
    rw [Nat.add_assoc]; rfl
theorem brT (a b : R) : br true a b = a := rfl
theorem brF (a b : R) : br false a b = b := rfl
theorem cut_det {ob off c l q m size len : Nat} {h : H} {nx : Nat} {κ : K} (e : cutK ob off len c l q m size h nx κ = true) : ∃ v, ∀ h' nx' κ', cutK ob off len c l q m size h' nx' κ' = κ' v h' nx' := by
  obtain ⟨c1, e1⟩ := br_t e
  obtain ⟨c2, e2⟩ := br_t e1
  rcases br_true e2 with ⟨h1, h2⟩ | ⟨h1, h2⟩
  · refine ⟨.sl ob off 0 (some 0), fun h' nx' κ' => ?_⟩
    unfold cutK
    rw [c1, c2, h1]; rfl
  · refine ⟨.sl ob (off + l * size) (q - l) (some (m - l)), fun h' nx' κ' => ?_⟩
    unfold cutK
    rw [c1, c2, h1, brT, brT, brF, fnat_eq, fnat_eq, fnat_eq]; rfl
/-- what a bounded cut of a row whose end is not known says -/
theorem cutM_true {ob off len l q m size : Nat} {h : H} {nx : Nat} {κ : K} (e : cutM ob off len l q m size h nx κ = true) : ∃ N z zl d t top sh, obj h ob = some (.ce N size z zl d t top sh) ∧ size ≠ 0 ∧ off + m * size ≤ N ∧ cutK ob off len m l q m size h nx κ = true := by
  obtain ⟨ab, hab, e6⟩ := get_true e
  cases ab <;> first | (cases e6; done) | skip
  rename_i N es z zl d tt top sh
  obtain ⟨b1, e7⟩ := br_t e6
  obtain ⟨b2, e8⟩ := br_f e7
  obtain ⟨b3, e9⟩ := br_t e8
  have b1 := Nat.eq_of_beq_eq_true b1
  have b2 : size ≠ 0 := fun h => by subst h; cases b2
  subst b1
  exact ⟨N, z, zl, d, tt, top, sh, hab, b2, Nat.le_of_ble_eq_true b3, e9⟩
theorem cutM_cap {P : Program} {w0 w : World} {pd : List (Nat × AO)} {θ : Th} {h : H} {nx : Nat} (hR : HR P w0 pd θ h nx w) {ob off m size N zl d : Nat} {z : List AV} {t : L (Option AV) d} {top : Bool} {sh : List Nat} (hh : θ.has ob)
    (hab : obj h ob = some (.ce N size z zl d t top sh)) (hs : size ≠ 0) (hm : off + m * size ≤ N) : θ.esz ob = size ∧ m ≤ (θ.siz ob - off) / size := by
  obtain ⟨cc, ty, fz, o1, o2, o3, o4, o5, o6⟩ := hR.obj_ hh hab
  obtain ⟨p1, p2, p3⟩ := o6 hs
  refine ⟨p1, ?_⟩
  rw [Nat.le_div_iff_mul_le (Nat.pos_of_ne_zero hs)]; omega
theorem a_slc {t el : TypeId} {lo hi mx : Option Operand} {bl bh bm : BdF} {size : Nat} {nomax : Bool} (hx : XOk x X) (hl : BdOk bl lo) (hh : BdOk bh hi) (hm : BdOk bm mx) (hno : nomax = true → mx = none) (hno2 : nomax = false → mx ≠ none) (hmh : hi = none → mx = none)
    (hu : P.underlying t = some (.slice el)) (hs : sizeT P el = some size) (ho : o.op = .slice t X lo hi mx) : OpOk P o (oSlc x bl bh bm nomax size) := by
  intro en h nx κ w0 pd θ a w hE hR e
  obtain ⟨v, hv, hr⟩ := hx en
  simp only [oSlc, hv] at e
  have run : ∀ {base : Option Addr} {len cap l q m : Nat}, a.eval X = .slice base len cap → ((lo = none ∧ l = 0) ∨ ∃ Y, lo = some Y ∧ ∃ k, a.eval Y = .int k (l : Int)) → ((hi = none ∧ q = len) ∨ ∃ Y, hi = some Y ∧ ∃ k, a.eval Y = .int k (q : Int)) → ((mx = none ∧ m = cap) ∨ ∃ Y, mx = some Y ∧ ∃ k, a.eval Y = .int k (m : Int)) →
      l ≤ q → q ≤ m → m ≤ cap → (execOp a.eval o).run P w = .ok (.value (.slice (if m = l then base else base.map (·.add (l * size))) (q - l) (m - l))) w := by
    intro base len cap l q m hX h1 h2 h3 h4 h5 h6
    have hb := run_bnds (P := P) (w := w) (isSlice := true) h1 h2 h3 hmh h4 h5 h6
    simp only [execOp, ho, hX, Instr.sliceAt, Instr.slice, Sem.run_bind, run_underlying hu, Result.andThen, hb, run_size hs, Sem.run_pure]
  cases v <;> first | (cases e; done) | skip
  · rename_i ob off len cap
    have hhas := (hr θ a hE).1
    obtain ⟨l, l1, e2, l2⟩ := hl _ _ _ e
    obtain ⟨q, q1, e3, q2⟩ := hh _ _ _ e2
    obtain ⟨c1, e4⟩ := br_t e3
    have c1 : l ≤ q := Nat.le_of_ble_eq_true c1
    cases cap with
    | some c =>
      obtain ⟨m, m1, e5, m2⟩ := hm _ _ _ e4
      obtain ⟨c2, c3, v, k1, k2⟩ := cut_known e5 c1 hhas
      have hX := (hr θ a hE).sls.1
      have hrun := run hX (l2.imp id fun ⟨Y, h1, h2⟩ => ⟨Y, h1, h2 θ a hE⟩) (q2.imp id fun ⟨Y, h1, h2⟩ => ⟨Y, h1, h2 θ a hE⟩) (m2.imp id fun ⟨Y, h1, h2⟩ => ⟨Y, h1, h2 θ a hE⟩) c1 c2 c3
      refine ⟨v, _, θ, h, nx, w, _, .refl θ, k2, hR, k1, hrun, ?_⟩
      show some _ = some _
      congr 2
      split <;> simp
    | none =>
      rcases br_true e4 with ⟨hn, e5⟩ | ⟨hn, e5⟩
      rotate_left
      · obtain ⟨m, m1, e6, m2⟩ := hm _ _ _ e5
        obtain ⟨N, z, zl, d, tt, top, sh, hab, b2, b3, e7⟩ := cutM_true e6
        obtain ⟨p1, p2⟩ := cutM_cap hR hhas hab b2 b3
        obtain ⟨c2, c3, v, k1, k2⟩ := cut_known e7 c1 hhas
        have hX := (hr θ a hE).sln.1
        rw [p1] at hX
        have hmm : (mx = none ∧ m = (θ.siz ob - off) / size) ∨ ∃ Y, mx = some Y ∧ ∃ k, a.eval Y = .int k (m : Int) := m2.elim (fun ⟨h1, _⟩ => absurd h1 (hno2 hn)) fun ⟨Y, h1, h2⟩ => .inr ⟨Y, h1, h2 θ a hE⟩
        have hrun := run hX (l2.imp id fun ⟨Y, h1, h2⟩ => ⟨Y, h1, h2 θ a hE⟩) (q2.imp id fun ⟨Y, h1, h2⟩ => ⟨Y, h1, h2 θ a hE⟩) hmm c1 c2 p2
        refine ⟨v, _, θ, h, nx, w, _, .refl θ, k2, hR, k1, hrun, ?_⟩
        show some _ = some _
        congr 2
        split <;> simp
      have hmx := hno hn
      obtain ⟨ab, hab, e6⟩ := get_true e5
      cases ab <;> first | (cases e6; done) | skip
      rename_i N es z zl d tt top sh
      obtain ⟨b1, e7⟩ := br_t e6
      obtain ⟨b2, e8⟩ := br_f e7
      obtain ⟨b3, e9⟩ := br_t e8
      have b1 := Nat.eq_of_beq_eq_true b1
      have b2 : size ≠ 0 := fun h => by subst h; cases b2
      have b3 : off + q * size ≤ N := Nat.le_of_ble_eq_true b3
      subst b1
      obtain ⟨cc, ty, fz, o1, o2, o3, o4, o5, o6⟩ := hR.obj_ hhas hab
      obtain ⟨p1, p2, p3⟩ := o6 b2
      have hX := (hr θ a hE).sln.1
      rw [p1] at hX
      have hpos : 0 < es := Nat.pos_of_ne_zero b2
      have hcapq : q ≤ (θ.siz ob - off) / es := by
        rw [Nat.le_div_iff_mul_le hpos]; omega
      have hrun := run hX (l2.imp id fun ⟨Y, h1, h2⟩ => ⟨Y, h1, h2 θ a hE⟩) (q2.imp id fun ⟨Y, h1, h2⟩ => ⟨Y, h1, h2 θ a hE⟩) (m := (θ.siz ob - off) / es) (.inl ⟨hmx, rfl⟩) c1 hcapq (Nat.le_refl _)
      have hlN : off + l * es ≤ N := Nat.le_trans (Nat.add_le_add_left (Nat.mul_le_mul_right _ c1) _) b3
      rcases br_true e9 with ⟨g1, g2⟩ | ⟨g1, g2⟩
      · have g1 : off + (l + 1) * es ≤ N := Nat.le_of_ble_eq_true g1
        rw [fnat_eq, fnat_eq] at g2
        have hl1 : l + 1 ≤ (θ.siz ob - off) / es := by
          rw [Nat.le_div_iff_mul_le hpos]; omega
        refine ⟨.sl ob (off + l * es) (q - l) none, _, θ, h, nx, w, _, .refl θ, ⟨hhas, rfl⟩, hR, g2, hrun, ?_⟩
        show some _ = some _
        rw [if_neg (by omega)]
        simp only [Option.map_some, Addr.add_lit, toV]
        congr 2
        · show some (Addr.mk _ _ _) = some (Addr.mk _ (θ.bas ob + (off + l * es)) _)
          rw [Nat.add_assoc]
        · show (θ.siz ob - off) / es - l = (θ.siz ob - (off + l * es)) / θ.esz ob
          rw [p1, Nat.sub_add_eq, Nat.mul_comm l es, Nat.sub_mul_div]
      · obtain ⟨g3, g4⟩ := br_t g2
        subst g3
        have g1 : ¬ (off + (l + 1) * es ≤ N) := fun h => by
          have : Nat.ble (Nat.add off (Nat.mul (Nat.succ l) es)) N = true := Nat.ble_eq_true_of_le h
          rw [this] at g1; cases g1
        have hql : q = l := by
          rcases Nat.lt_or_ge l q with h | h
          · have : (l + 1) * es ≤ q * es := Nat.mul_le_mul_right _ h
            omega
          · omega
        rw [put_eq] at g4
        obtain ⟨hn', g5⟩ := newK_true g4
        obtain ⟨M, hM⟩ : ∃ M, M = (θ.siz ob - off) / es := ⟨_, rfl⟩
        rw [← hM] at hrun hcapq
        have hMs : M * es ≤ θ.siz ob - off := by rw [hM]; exact Nat.div_mul_le_self _ _
        have hls : l * es ≤ M * es := Nat.mul_le_mul_right _ (by omega)
        have hsub : (M - l) * es = M * es - l * es := Nat.sub_mul ..
        obtain ⟨k1, k2⟩ := HR.tail hR hhas hab hn' (es' := es) (bs := if M = l then θ.bas ob + off else θ.bas ob + off + l * es) (sz := (M - l) * es) (by split <;> omega)
          ⟨cc, ty, fz, by rw [Th.put_blk]; exact o1, by simp, fun i hi => by omega, o4, fun h => absurd h b2, fun _ => ⟨by simp, Nat.zero_le _, by rw [Th.put_bas, Th.put_siz]; split <;> omega⟩⟩
        refine ⟨.sl nx 0 0 none, _, _, _, _, w, _, k2, ⟨Th.put_has .., rfl⟩, k1, g5, hrun, ?_⟩
        show some _ = some _
        simp only [toV, Th.put_blk, Th.put_bas, Th.put_siz, Th.put_esz, Nat.add_zero, Nat.sub_zero, hql, Nat.sub_self, Nat.mul_div_cancel _ hpos]
        congr 2
        split <;> simp [Addr.add_lit]
  · obtain ⟨l, l1, e2, l2⟩ := hl _ _ _ e
    obtain ⟨q, q1, e3, q2⟩ := hh _ _ _ e2
    obtain ⟨m, m1, e4, m2⟩ := hm _ _ _ e3
    obtain ⟨c1, e5⟩ := br_t e4
    obtain ⟨c2, e6⟩ := br_t e5
    obtain ⟨c3, e7⟩ := br_t e6
    have c1 := Nat.eq_of_beq_eq_true c1
    have c2 := Nat.eq_of_beq_eq_true c2
    have c3 := Nat.eq_of_beq_eq_true c3
    subst c1 c2 c3
    have hX : a.eval X = .slice none 0 0 := (hr θ a hE).2
    have hrun := run hX (l2.imp id fun ⟨Y, h1, h2⟩ => ⟨Y, h1, h2 θ a hE⟩) (q2.imp id fun ⟨Y, h1, h2⟩ => ⟨Y, h1, h2 θ a hE⟩) (m2.imp id fun ⟨Y, h1, h2⟩ => ⟨Y, h1, h2 θ a hE⟩) (Nat.le_refl _) (Nat.le_refl _) (Nat.le_refl _)
    exact ⟨.ns, .slice none 0 0, θ, h, nx, w, _, .refl θ, ⟨trivial, rfl⟩, hR, e7, hrun, rfl⟩
theorem a_sla {t el : TypeId} {lo hi mx : Option Operand} {bl bh bm : BdF} {size n : Nat} (hx : XOk x X) (hl : BdOk bl lo) (hh : BdOk bh hi) (hm : BdOk bm mx) (hmh : hi = none → mx = none)
    (hu : P.underlying t = some (.array n el)) (hs : sizeT P el = some size) (ho : o.op = .slice t X lo hi mx) : OpOk P o (oSla x bl bh bm n size) := by
  intro en h nx κ w0 pd θ a w hE hR e
  obtain ⟨v, hv, hr⟩ := hx en
  simp only [oSla, hv] at e
  obtain ⟨ob, off, rfl, e1⟩ := asP_true e
  obtain ⟨l, l1, e2, l2⟩ := hl _ _ _ e1
  obtain ⟨q, q1, e3, q2⟩ := hh _ _ _ e2
  obtain ⟨m, m1, e4, m2⟩ := hm _ _ _ e3
  obtain ⟨c1, e5⟩ := br_t e4
  have c1 : l ≤ q := Nat.le_of_ble_eq_true c1
  obtain ⟨hX, hhas⟩ := (hr θ a hE).p
  obtain ⟨c2, c3, v, k1, k2⟩ := cut_known e5 c1 hhas
  have hb := run_bnds (P := P) (w := w) (isSlice := false) (l2.imp id fun ⟨Y, h1, h2⟩ => ⟨Y, h1, h2 θ a hE⟩) (q2.imp id fun ⟨Y, h1, h2⟩ => ⟨Y, h1, h2 θ a hE⟩) (m2.imp id fun ⟨Y, h1, h2⟩ => ⟨Y, h1, h2 θ a hE⟩) hmh c1 c2 c3
  refine ⟨v, _, θ, h, nx, w, .value _, .refl θ, k2, hR, k1, ?_, rfl⟩
  simp only [execOp, ho, hX, Instr.sliceAt, Sem.run_bind, run_underlying hu, Result.andThen, Instr.sureAddr, Sem.run_pure, hb, run_size hs]

theorem p_sla {t el : TypeId} {lo hi mx : Option Operand} {bl bh bm : BdF} {size n : Nat} (hx : XOk x X) (hl : BdOk bl lo) (hh : BdOk bh hi) (hm : BdOk bm mx) (hmh : hi = none → mx = none)
    (hu : P.underlying t = some (.array n el)) (hs : sizeT P el = some size) (ho : o.op = .slice t X lo hi mx) : PureOk P o (oSla x bl bh bm n size) := by
  intro en h nx κ e
  obtain ⟨v, hv, hr⟩ := hx en
  simp only [oSla, hv] at e
  obtain ⟨ob, off, rfl, e1⟩ := asP_true e
  obtain ⟨l, l1, e2, l2⟩ := hl _ _ _ e1
  obtain ⟨q, q1, e3, q2⟩ := hh _ _ _ e2
  obtain ⟨m, m1, e4, m2⟩ := hm _ _ _ e3
  obtain ⟨c1, e5⟩ := br_t e4
  obtain ⟨v, hdet⟩ := cut_det e5
  refine ⟨v, fun h' nx' κ' => ?_, fun θ a w hE => ?_⟩
  · simp only [oSla, hv]
    show bl en 0 _ = _
    rw [l1, q1, m1, c1]
    exact hdet h' nx' κ'
  · have c1 : l ≤ q := Nat.le_of_ble_eq_true c1
    obtain ⟨hX, hhas⟩ := (hr θ a hE).p
    obtain ⟨c2, c3, v', k1, k2⟩ := cut_known (κ := is1 v) (h := h) (nx := nx) (by rw [hdet h nx]; simp [is1]) c1 hhas
    have hvv : v' = v := by simpa [is1] using k1
    subst hvv
    have hb := run_bnds (P := P) (w := w) (isSlice := false) (l2.imp id fun ⟨Y, h1, h2⟩ => ⟨Y, h1, h2 θ a hE⟩) (q2.imp id fun ⟨Y, h1, h2⟩ => ⟨Y, h1, h2 θ a hE⟩) (m2.imp id fun ⟨Y, h1, h2⟩ => ⟨Y, h1, h2 θ a hE⟩) hmh c1 c2 c3
    refine ⟨_, k2, ?_⟩
    simp only [execOp, ho, hX, Instr.sliceAt, Sem.run_bind, run_underlying hu, Result.andThen, Instr.sureAddr, Sem.run_pure, hb, run_size hs]
/-- a slice that lays nothing new -/
theorem r_slr {t el : TypeId} {lo hi mx : Option Operand} {bl bh bm : BdF} {size : Nat} {nomax : Bool} (hx : XOk x X) (hl : BdOk bl lo) (hh : BdOk bh hi) (hm : BdOk bm mx) (hno : nomax = true → mx = none) (hno2 : nomax = false → mx ≠ none) (hmh : hi = none → mx = none)
    (hu : P.underlying t = some (.slice el)) (hs : sizeT P el = some size) (ho : o.op = .slice t X lo hi mx) : ReadOk P o (oSlr x bl bh bm nomax size) := by
  intro en h nx κ e
  obtain ⟨v, hv, hr⟩ := hx en
  simp only [oSlr, hv] at e
  have run : ∀ {a : Act} {w : World} {base : Option Addr} {len cap l q m : Nat}, a.eval X = .slice base len cap → ((lo = none ∧ l = 0) ∨ ∃ Y, lo = some Y ∧ ∃ k, a.eval Y = .int k (l : Int)) → ((hi = none ∧ q = len) ∨ ∃ Y, hi = some Y ∧ ∃ k, a.eval Y = .int k (q : Int)) → ((mx = none ∧ m = cap) ∨ ∃ Y, mx = some Y ∧ ∃ k, a.eval Y = .int k (m : Int)) →
      l ≤ q → q ≤ m → m ≤ cap → (execOp a.eval o).run P w = .ok (.value (.slice (if m = l then base else base.map (·.add (l * size))) (q - l) (m - l))) w := by
    intro a w base len cap l q m hX h1 h2 h3 h4 h5 h6
    have hb := run_bnds (P := P) (w := w) (isSlice := true) h1 h2 h3 hmh h4 h5 h6
    simp only [execOp, ho, hX, Instr.sliceAt, Instr.slice, Sem.run_bind, run_underlying hu, Result.andThen, hb, run_size hs, Sem.run_pure]
  cases v <;> first | (cases e; done) | skip
  · rename_i ob off len cap
    obtain ⟨l, l1, e2, l2⟩ := hl _ _ _ e
    obtain ⟨q, q1, e3, q2⟩ := hh _ _ _ e2
    obtain ⟨c1, e4⟩ := br_t e3
    have c1' : l ≤ q := Nat.le_of_ble_eq_true c1
    cases cap with
    | some c =>
      obtain ⟨m, m1, e5, m2⟩ := hm _ _ _ e4
      obtain ⟨v, hdet⟩ := cut_det e5
      refine ⟨v, fun h' _ nx' κ' => ?_, fun θ a w w0 pd nx0 hE hR => ?_⟩
      · simp only [oSlr, hv]
        rw [l1, q1, c1]
        show bm en c _ = _
        rw [m1]
        exact hdet h' nx' κ'
      · have hhas := (hr θ a hE).1
        obtain ⟨c2, c3, v', k1, k2⟩ := cut_known (κ := is1 v) (h := h) (nx := nx) (by rw [hdet h nx]; simp [is1]) c1' hhas
        have hvv : v' = v := by simpa [is1] using k1
        subst hvv
        have hX := (hr θ a hE).sls.1
        have hrun := run (w := w) hX (l2.imp id fun ⟨Y, h1, h2⟩ => ⟨Y, h1, h2 θ a hE⟩) (q2.imp id fun ⟨Y, h1, h2⟩ => ⟨Y, h1, h2 θ a hE⟩) (m2.imp id fun ⟨Y, h1, h2⟩ => ⟨Y, h1, h2 θ a hE⟩) c1' c2 c3
        refine ⟨_, k2, hrun.trans ?_⟩
        congr 3
        split <;> simp
    | none =>
      rcases br_true e4 with ⟨hn, e5⟩ | ⟨hn, e5⟩
      rotate_left
      · obtain ⟨m, m1, e6, m2⟩ := hm _ _ _ e5
        obtain ⟨N, z, zl, d, tt, top, sh, hab, b2, b3, e7⟩ := cutM_true e6
        obtain ⟨v, hdet⟩ := cut_det e7
        refine ⟨v, fun h' hx' nx' κ' => ?_, fun θ a w w0 pd nx0 hE hR => ?_⟩
        · simp only [oSlr, hv]
          rw [l1, q1, c1]
          show br nomax _ _ = _
          rw [hn, brF, m1]
          show cutM ob off len l q m size h' nx' κ' = _
          unfold cutM
          rw [get_is (hx' ob _ hab)]
          show br (Nat.beq size size) (br (Nat.beq size 0) false (br (Nat.ble (off + m * size) N) _ false)) false = _
          have g2 : Nat.beq size 0 = false := by
            cases hb : Nat.beq size 0 with
            | false => rfl
            | true => exact absurd (Nat.eq_of_beq_eq_true hb) b2
          rw [Nat.beq_refl, g2, Nat.ble_eq_true_of_le b3, brT, brF, brT]
          exact hdet h' nx' κ'
        · have hhas := (hr θ a hE).1
          obtain ⟨p1, p2⟩ := cutM_cap hR hhas hab b2 b3
          obtain ⟨c2, c3, v', k1, k2⟩ := cut_known (κ := is1 v) (h := h) (nx := nx) (by rw [hdet h nx]; simp [is1]) c1' hhas
          have hvv : v' = v := by simpa [is1] using k1
          subst hvv
          have hX := (hr θ a hE).sln.1
          rw [p1] at hX
          have hmm : (mx = none ∧ m = (θ.siz ob - off) / size) ∨ ∃ Y, mx = some Y ∧ ∃ k, a.eval Y = .int k (m : Int) := m2.elim (fun ⟨h1, _⟩ => absurd h1 (hno2 hn)) fun ⟨Y, h1, h2⟩ => .inr ⟨Y, h1, h2 θ a hE⟩
          have hrun := run (w := w) hX (l2.imp id fun ⟨Y, h1, h2⟩ => ⟨Y, h1, h2 θ a hE⟩) (q2.imp id fun ⟨Y, h1, h2⟩ => ⟨Y, h1, h2 θ a hE⟩) hmm c1' c2 p2
          refine ⟨_, k2, hrun.trans ?_⟩
          congr 3
          split <;> simp
      have hmx := hno hn
      obtain ⟨ab, hab, e6⟩ := get_true e5
      cases ab <;> first | (cases e6; done) | skip
      case bt tb lb =>
        obtain ⟨b1, e7⟩ := br_t e6
        obtain ⟨b2, e8⟩ := br_t e7
        refine ⟨.sl ob off 0 none, fun h' hx' nx' κ' => ?_, fun θ a w w0 pd nx0 hE hR => ?_⟩
        · simp only [oSlr, hv]
          rw [l1, q1, c1]
          show br nomax _ _ = _
          rw [hn]
          show cutR ob off l q size h' nx' κ' = _
          unfold cutR
          rw [get_is (hx' ob _ hab)]
          show br (Nat.beq l 0) _ _ = _
          rw [b1, b2, brT, brT]
        · have hhas := (hr θ a hE).1
          have b1 := Nat.eq_of_beq_eq_true b1
          have b2 := Nat.eq_of_beq_eq_true b2
          subst b1 b2
          have hX := (hr θ a hE).sln.1
          have hrun := run (w := w) hX (l2.imp id fun ⟨Y, h1, h2⟩ => ⟨Y, h1, h2 θ a hE⟩) (q2.imp id fun ⟨Y, h1, h2⟩ => ⟨Y, h1, h2 θ a hE⟩) (m := (θ.siz ob - off) / θ.esz ob) (.inl ⟨hmx, rfl⟩) c1' (Nat.zero_le _) (Nat.le_refl _)
          refine ⟨_, ⟨hhas, rfl⟩, hrun.trans ?_⟩
          split
          · simp [toV]
          · simp [toV, Addr.add_lit]
      rename_i N es z zl d tt top sh
      obtain ⟨b1, e7⟩ := br_t e6
      obtain ⟨b2, e8⟩ := br_f e7
      obtain ⟨b3, e9⟩ := br_t e8
      rcases br_true e9 with ⟨g1, e10⟩ | ⟨g1, e10⟩
      rotate_left
      · obtain ⟨hq, e11⟩ := br_t e10
        refine ⟨.xi ob 12 off l, fun h' hx' nx' κ' => ?_, fun θ a w w0 pd nx0 hE hR => ?_⟩
        · simp only [oSlr, hv]
          rw [l1, q1, c1]
          show br nomax _ _ = _
          rw [hn]
          show cutR ob off l q size h' nx' κ' = _
          unfold cutR
          rw [get_is (hx' ob _ hab)]
          show br (Nat.beq es size) _ _ = _
          rw [b1, b2, b3, g1, hq, brT, brF, brT, brF, brT]
        · have hhas := (hr θ a hE).1
          have b1 := Nat.eq_of_beq_eq_true b1
          have b2 : size ≠ 0 := fun h => by subst h; cases b2
          have b3 : off + q * size ≤ N := Nat.le_of_ble_eq_true b3
          have hq := Nat.eq_of_beq_eq_true hq
          subst b1 hq
          obtain ⟨cc, ty, fz, o1, o2, o3, o4, o5, o6⟩ := hR.obj_ hhas hab
          obtain ⟨p1, p2, p3⟩ := o6 b2
          have hX := (hr θ a hE).sln.1
          rw [p1] at hX
          have hpos : 0 < es := Nat.pos_of_ne_zero b2
          have hcapq : q ≤ (θ.siz ob - off) / es := by
            rw [Nat.le_div_iff_mul_le hpos]; omega
          have hrun := run (w := w) hX (l2.imp id fun ⟨Y, h1, h2⟩ => ⟨Y, h1, h2 θ a hE⟩) (q2.imp id fun ⟨Y, h1, h2⟩ => ⟨Y, h1, h2 θ a hE⟩) (m := (θ.siz ob - off) / es) (.inl ⟨hmx, rfl⟩) c1' hcapq (Nat.le_refl _)
          refine ⟨tailV θ ob off q, ⟨.inl ⟨rfl, hhas⟩, rfl⟩, hrun.trans ?_⟩
          unfold tailV
          rw [p1, Nat.sub_self]
          split
          · rfl
          · simp only [Option.map_some, Addr.add_lit]
      refine ⟨.sl ob (off + l * size) (q - l) none, fun h' hx' nx' κ' => ?_, fun θ a w w0 pd nx0 hE hR => ?_⟩
      · simp only [oSlr, hv]
        rw [l1, q1, c1]
        show br nomax _ _ = _
        rw [hn]
        show cutR ob off l q size h' nx' κ' = _
        unfold cutR
        rw [get_is (hx' ob _ hab)]
        show br (Nat.beq es size) _ _ = _
        rw [b1, b2, b3, g1, brT, brF, brT, brT, fnat_eq, fnat_eq]; rfl
      · have hhas := (hr θ a hE).1
        have b1 := Nat.eq_of_beq_eq_true b1
        have b2 : size ≠ 0 := fun h => by subst h; cases b2
        have b3 : off + q * size ≤ N := Nat.le_of_ble_eq_true b3
        subst b1
        obtain ⟨cc, ty, fz, o1, o2, o3, o4, o5, o6⟩ := hR.obj_ hhas hab
        obtain ⟨p1, p2, p3⟩ := o6 b2
        have hX := (hr θ a hE).sln.1
        rw [p1] at hX
        have hpos : 0 < es := Nat.pos_of_ne_zero b2
        have hcapq : q ≤ (θ.siz ob - off) / es := by
          rw [Nat.le_div_iff_mul_le hpos]; omega
        have hrun := run (w := w) hX (l2.imp id fun ⟨Y, h1, h2⟩ => ⟨Y, h1, h2 θ a hE⟩) (q2.imp id fun ⟨Y, h1, h2⟩ => ⟨Y, h1, h2 θ a hE⟩) (m := (θ.siz ob - off) / es) (.inl ⟨hmx, rfl⟩) c1' hcapq (Nat.le_refl _)
        have g1 : off + (l + 1) * es ≤ N := Nat.le_of_ble_eq_true g1
        have hl1 : l + 1 ≤ (θ.siz ob - off) / es := by
          rw [Nat.le_div_iff_mul_le hpos]; omega
        refine ⟨_, ⟨hhas, rfl⟩, hrun.trans ?_⟩
        rw [if_neg (by omega)]
        simp only [Option.map_some, Addr.add_lit, toV]
        congr 3
        · show some (Addr.mk _ _ _) = some (Addr.mk _ (θ.bas ob + (off + l * es)) _)
          rw [Nat.add_assoc]
        · show (θ.siz ob - off) / es - l = (θ.siz ob - (off + l * es)) / θ.esz ob
          rw [p1, Nat.sub_add_eq, Nat.mul_comm l es, Nat.sub_mul_div]
  · obtain ⟨l, l1, e2, l2⟩ := hl _ _ _ e
    obtain ⟨q, q1, e3, q2⟩ := hh _ _ _ e2
    obtain ⟨m, m1, e4, m2⟩ := hm _ _ _ e3
    obtain ⟨c1, e5⟩ := br_t e4
    obtain ⟨c2, e6⟩ := br_t e5
    obtain ⟨c3, e7⟩ := br_t e6
    refine ⟨.ns, fun h' _ nx' κ' => ?_, fun θ a w w0 pd nx0 hE hR => ?_⟩
    · simp only [oSlr, hv]
      rw [l1, q1, m1, c1, c2, c3]; rfl
    · have c1 := Nat.eq_of_beq_eq_true c1
      have c2 := Nat.eq_of_beq_eq_true c2
      have c3 := Nat.eq_of_beq_eq_true c3
      subst c1 c2 c3
      have hX : a.eval X = .slice none 0 0 := (hr θ a hE).2
      have hrun := run (w := w) hX (l2.imp id fun ⟨Y, h1, h2⟩ => ⟨Y, h1, h2 θ a hE⟩) (q2.imp id fun ⟨Y, h1, h2⟩ => ⟨Y, h1, h2 θ a hE⟩) (m2.imp id fun ⟨Y, h1, h2⟩ => ⟨Y, h1, h2 θ a hE⟩) (Nat.le_refl _) (Nat.le_refl _) (Nat.le_refl _)
      exact ⟨.slice none 0 0, ⟨trivial, rfl⟩, hrun⟩

/-- a row's array -/
theorem p_s2a {t el : TypeId} {n : Nat} (hx : XOk x X) (hu : P.underlying t = some (.array n el)) (ho : o.op = .sliceToArrayPointer t X) : PureOk P o (oS2a x n) := by
  intro en h nx κ e
  obtain ⟨v, hv, hr⟩ := hx en
  simp only [oS2a, hv] at e
  cases v <;> first | (cases e; done) | skip
  rename_i ob off len cap
  obtain ⟨c1, e1⟩ := br_t (show br (Nat.ble n len) _ false = true from e)
  refine ⟨.p ob off, fun h' nx' κ' => ?_, fun θ a w hE => ?_⟩
  · simp only [oS2a, hv]
    show br (Nat.ble n len) _ false = _
    rw [c1]; rfl
  · obtain ⟨hh, c, hX⟩ := (hr θ a hE).sl
    have c1 : ¬ (len < n) := Nat.not_lt.2 (Nat.le_of_ble_eq_true c1)
    refine ⟨_, ⟨hh, rfl⟩, ?_⟩
    simp only [execOp, ho, hX, Instr.arrayAt, Sem.run_bind, run_underlying hu, Result.andThen, if_neg c1, Sem.run_pure]
    rfl

/-! ### What is appended, copied -/
theorem ofBytes_eq : ∀ (l : List Nat) (κ : List AV → R), ofBytes l κ = κ (l.map fun m => .i 4 (.ofNat m))
  | [], _ => rfl
  | _ :: l, _ => ofBytes_eq l _
theorem src_ok {w0 w : World} {pd : List (Nat × AO)} {θ : Th} {h : H} {nx : Nat} (hR : HR P w0 pd θ h nx w) {b : AV} {u : Value} (hv : VR θ b u) {size : Nat} {κ : List AV → Nat → R} (e : srcK b size h κ = true) {tx : TypeId}
    (hk : (∃ e', P.underlying tx = some (.slice e')) ∨ P.underlying tx = some .string) :
    ∃ vs m, κ vs m = true ∧ vs.length = m * size ∧ Oks θ vs ∧ vs.all one = true ∧ Src P size tx u m (toVs θ vs) w ∧ ∀ n, n ≤ m → (Builtin.firstCells size n u).run P w = .ok (toVs θ (vs.take (n * size))).toArray w := by
  cases b <;> first | (cases e; done) | skip
  · rename_i ob off len cap
    have e : fnat (len * size) (fun n => rdK ob off n h fun vs => κ vs len) = true := e
    rw [fnat_eq] at e
    obtain ⟨hh, c, hu⟩ := hv.sl
    subst hu
    obtain ⟨vs, k1, _, k3, k4, k5, k6⟩ := rd_ok hR hh e
    have hc : ∀ (w' : World), w'.heap = w.heap → ∀ j v, (toVs θ vs)[j]? = some v → w'.cell? ((⟨θ.blk ob, θ.bas ob + off, none⟩ : Addr).add j) = some v := fun w' hw' j v hj => by
      rw [Addr.add_lit]
      have := k6 j v hj
      unfold World.cell? at this ⊢
      rw [hw']; exact this
    exact ⟨vs, len, k3, k1, k4, k5, ⟨hk, fun _ => rfl, run_firstCells_some w size len _ len c _ (by rw [toVs_length]; exact k1) (hc w rfl), run_firstCells_some w.drew size len _ len c _ (by rw [toVs_length]; exact k1) (hc w.drew rfl), by rw [toVs_length]; exact k1, toVs_one k5⟩, fun n hn => run_firstCells_some w size n _ len c _ (by rw [toVs_length, List.length_take, k1]; have : n * size ≤ len * size := Nat.mul_le_mul_right _ hn; omega) (fun j v hj => hc w rfl j v (by rw [toVs_get] at hj ⊢; rw [List.getElem?_take] at hj; split at hj; exact hj; cases hj))⟩
  · have hu : u = .slice none 0 0 := hv.2
    subst hu
    exact ⟨[], 0, e, by simp, trivial, rfl, ⟨hk, fun _ => rfl, run_firstCells_none w size 0 0 0, run_firstCells_none w.drew size 0 0 0, by simp [toVs], (fun _ h => nomatch h)⟩, fun n hn => by rw [show n = 0 by omega]; simp [Builtin.firstCells, toVs]⟩
  · rename_i l
    obtain ⟨h1, e1⟩ := br_t (show br (Nat.beq size 1) _ false = true from e)
    have h1 := Nat.eq_of_beq_eq_true h1
    subst h1
    rw [ofBytes_eq, fnat_eq, lenN_eq] at e1
    obtain ⟨hu, hb⟩ := hv.s
    subst hu
    have hcells : toVs θ (l.map fun m => AV.i 4 (.ofNat m)) = byteCells (bytesOf l) := by
      unfold byteCells
      rw [toVs_map, List.map_map]
      simp only [bytesOf, List.toList_toArray, List.map_map]
      apply List.map_congr_left
      intro m hm
      simp [toV, kindOf, Nat.mod_eq_of_lt (hb m hm)]
    refine ⟨_, l.length, e1, by simp, Oks_iff.2 fun v hv => by obtain ⟨m, _, rfl⟩ := List.mem_map.1 hv; trivial, List.all_eq_true.2 fun v hv => by obtain ⟨m, _, rfl⟩ := List.mem_map.1 hv; rfl, ?_⟩
    refine ⟨?_, fun n hn => ?_⟩
    rotate_left
    · simp only [Builtin.firstCells, Sem.run_pure, Nat.mul_one]
      congr 1
      apply Array.ext'
      have hex : ((bytesOf l).extract 0 n).data.toList = (l.take n).map UInt8.ofNat := by
        rw [ByteArray.data_extract]
        simp [bytesOf, List.extract_eq_take_drop, List.map_take]
      simp only [Array.toList_map, hex, List.map_map, toVs_map, ← List.map_take, List.toList_toArray]
      apply List.map_congr_left
      intro m hm
      simp [toV, kindOf, Nat.mod_eq_of_lt (hb m (List.mem_of_mem_take hm))]
    rw [hcells]
    have hsz := bytes_size l
    have f1 := firstCells_string (P := P) (bytesOf l) w
    have f2 := firstCells_string (P := P) (bytesOf l) w.drew
    rw [hsz] at f1 f2
    exact ⟨hk, fun w' => by rw [← hsz]; rfl, f1, f2, by rw [byteCells_length, hsz, Nat.mul_one], fun u hu => by
      obtain ⟨_, _, rfl⟩ := List.mem_map.1 hu
      rfl⟩
theorem srcN_ok {w0 w : World} {pd : List (Nat × AO)} {θ : Th} {h : H} {nx : Nat} (hR : HR P w0 pd θ h nx w) {b : AV} {u : Value} (hv : VR θ b u) {size lim : Nat} {κ : List AV → Nat → R} (e : srcN b size lim h κ = true) {tx : TypeId}
    (hk : (∃ e', P.underlying tx = some (.slice e')) ∨ P.underlying tx = some .string) :
    ∃ vs m, κ vs m = true ∧ Oks θ vs ∧ vs.all one = true ∧ (∀ w', (Builtin.lenOf u).run P w' = .ok m w') ∧ ∀ n, n ≤ m → n ≤ lim → (Builtin.firstCells size n u).run P w = .ok (toVs θ (vs.take (n * size))).toArray w := by
  have same : srcK b size h κ = true → ∃ vs m, κ vs m = true ∧ Oks θ vs ∧ vs.all one = true ∧ (∀ w', (Builtin.lenOf u).run P w' = .ok m w') ∧ ∀ n, n ≤ m → n ≤ lim → (Builtin.firstCells size n u).run P w = .ok (toVs θ (vs.take (n * size))).toArray w := fun e => by
    obtain ⟨vs, m, k1, k2, k3, k4, k5, k6⟩ := src_ok hR hv e hk
    exact ⟨vs, m, k1, k3, k4, k5.len, fun n hn _ => k6 n hn⟩
  cases b <;> first | exact same e | (cases e; done) | skip
  rename_i ob off len cap
  have e : fnat (min len lim * size) (fun n => rdK ob off n h fun vs => κ vs len) = true := e
  rw [fnat_eq] at e
  obtain ⟨hh, c, hu⟩ := hv.sl
  subst hu
  obtain ⟨vs, k1, _, k3, k4, k5, k6⟩ := rd_ok hR hh e
  refine ⟨vs, len, k3, k4, k5, fun _ => rfl, fun n hn hl => run_firstCells_some w size n _ len c _ ?_ (fun j v hj => ?_)⟩
  · rw [toVs_length, List.length_take, k1]
    have : n * size ≤ min len lim * size := Nat.mul_le_mul_right _ (by omega)
    omega
  · rw [Addr.add_lit]
    refine k6 j v ?_
    rw [toVs_get] at hj ⊢
    rw [List.getElem?_take] at hj
    split at hj
    · exact hj
    · cases hj
theorem cells_list {Q : Nat → AV → Prop} : ∀ n, (∀ i, i < n → ∃ v, Q i v) → ∃ l : List AV, l.length = n ∧ ∀ i v, l[i]? = some v → Q i v
  | 0, _ => ⟨[], rfl, fun i v h => by simp at h⟩
  | n + 1, h => by
    obtain ⟨l, h1, h2⟩ := cells_list n fun i hi => h i (by omega)
    obtain ⟨v, hv⟩ := h n (by omega)
    refine ⟨l ++ [v], by simp [h1], fun i u hi => ?_⟩
    by_cases hl : i < l.length
    · rw [List.getElem?_append_left hl] at hi; exact h2 i u hi
    · rw [List.getElem?_append_right (by omega)] at hi
      have : i - l.length = 0 := by
        rcases Nat.eq_zero_or_pos (i - l.length) with h | h
        · exact h
        · rw [List.getElem?_eq_none (by simp; omega)] at hi; cases hi
      rw [this] at hi
      have : i = n := by omega
      subst this
      simp at hi; subst hi; exact hv
/-- how an append runs -/
structure Apd (P : Program) (t tx ty el : TypeId) (u : Value) (m : Nat) (news : List Value) (w : World) : Prop where
  room : ∀ {i : TypeInfo} {b off sLen sCap : Nat}, P.info? el = some i → sLen + m ≤ sCap → (∀ j, j < news.length → (w.cell? ⟨b, off + sLen * i.size + j, none⟩).isSome = true) → (∀ j, j < news.length → w.frozen? ⟨b, off + sLen * i.size + j, none⟩ = false) →
    (Builtin.append_ #[t, tx] ty #[.slice (some ⟨b, off, none⟩) sLen sCap, u]).run P w = .ok (.slice (some ⟨b, off, none⟩) (sLen + m) sCap) (w.setCells b (off + sLen * i.size) news)
  grow : ∀ {i : TypeInfo} {z : Value} {base : Option Addr} {sLen sCap : Nat} {olds : List Value}, P.info? el = some i → i.zero = some z → (Builtin.firstCells i.size sLen (.slice base sLen sCap)).run P w.drew = .ok olds.toArray w.drew →
    sCap < sLen + m → ((sLen + m : Nat) : Int) ≤ 9223372036854775807 → Builtin.nextslicecap (sLen + m) sCap * i.bytes ≤ 281474976710656 →
    (Builtin.append_ #[t, tx] ty #[.slice base sLen sCap, u]).run P w =
      .ok (.slice (some ⟨w.heap.size, 0, none⟩) (sLen + m) (grownCap w (sLen + m) sCap el)) (w.drew.alloc (.cells ((olds ++ news).toArray ++ Builtin.zeroCells z.cells (grownCap w (sLen + m) sCap el - (sLen + m))) el))
  nil : m = 0 → (Builtin.append_ #[t, tx] ty #[.slice none 0 0, u]).run P w = .ok (.slice none 0 0) w
theorem src_apd {t tx ty el : TypeId} {u : Value} {m : Nat} {news : List Value} {w : World} {ti : TypeInfo} (hu : P.underlying t = some (.slice el)) (i1 : P.info? el = some ti) (hs : Src P ti.size tx u m news w) : Apd P t tx ty el u m news w where
  room := by
    intro i b off sLen sCap hi hr hc hf
    have : i = ti := by rw [i1] at hi; injection hi with hi; exact hi.symm
    subst this
    exact run_append_room_src (P := P) w t tx ty el i hu i1 b off sLen sCap u m news hs hr hc hf
  grow := by
    intro i z base sLen sCap olds hi hz hold hcap h63 hfit
    have : i = ti := by rw [i1] at hi; injection hi with hi; exact hi.symm
    subst this
    exact run_append_grow_src (P := P) w t tx ty el i z hu i1 hz base sLen sCap olds hold u m news hs hcap h63 hfit
  nil := by
    intro hm
    subst hm
    have hn : news = [] := List.eq_nil_of_length_eq_zero (by have := hs.newsLen; omega)
    subst hn
    rcases hs.kind with ⟨e', hk⟩ | hk <;> simp [Builtin.append_, run_underlying hu, run_underlying hk, sizeOf, typeInfo, i1, hs.len, hs.cells]
/-- append, that lays a new row -/
theorem grow_new {w0 w : World} {pd : List (Nat × AO)} {θ : Th} {h : H} {nx : Nat} (hR : HR P w0 pd θ h nx w) (hn : nx < 2097152) {t tx ty el : TypeId} {size bytes : Nat} {z : List AV} (hu : P.underlying t = some (.slice el)) (hs : sizeT P el = some size) (hb : bytesT P el = some bytes) (hz : zeroT P el = some z) (hzl : z.length = size)
    {base : Option Addr} {sLen sCap m : Nat} {old new : List AV} {u : Value} (hlo : old.length = sLen * size) (hln : new.length = m * size) (hoo : Oks θ old) (hon : Oks θ new) (h1o : old.all one = true) (h1n : new.all one = true)
    (hold : (Builtin.firstCells size sLen (.slice base sLen sCap)).run P w.drew = .ok (toVs θ old).toArray w.drew) (hsrc : Apd P t tx ty el u m (toVs θ new) w) (hcap : sCap < sLen + m)
    (hsize : size ≠ 0) (hneed : sLen + m ≤ 1073741824) (hby : (sLen + m) * bytes ≤ 70368744177664)
    {z' : List AV} {zl' d' : Nat} {t' : L (Option AV) d'} {sh : List Nat} (hsh : ∀ x ∈ sh, θ.has x) (hd : (sLen + m) * size ≤ 8 ^ d') (hcell : ∀ i, i < (sLen + m) * size → cellO z' zl' d' t' i = (old ++ new)[i]?) :
    ∃ v θ' w', θ.le θ' ∧ VR θ' (.sl nx 0 (sLen + m) none) v ∧ HR P w0 pd θ' (setO h nx (.ce ((sLen + m) * size) size z' zl' d' t' true sh)) (nx + 1) w' ∧ (Builtin.append_ #[t, tx] ty #[.slice base sLen sCap, u]).run P w = .ok v w' := by
  obtain ⟨ti, zv, i1, i2, i3, i4⟩ := zeroT_some hz
  obtain ⟨ti', j1, j2⟩ := sizeT_info hs
  have : ti' = ti := by rw [i1] at j1; injection j1 with j1; exact j1.symm
  subst this
  obtain ⟨ti'', j3, j4⟩ : ∃ i, P.info? el = some i ∧ i.bytes = bytes := by
    unfold bytesT at hb
    exact Option.map_eq_some_iff.1 hb
  have : ti'' = ti' := by rw [i1] at j3; injection j3 with j3; exact j3.symm
  subst this
  subst j2 j4
  have h63 : ((sLen + m : Nat) : Int) ≤ 9223372036854775807 := by omega
  have hlt : sLen + m ≤ maxLen := by unfold maxLen; omega
  have hfit := growslice_fits (need := sLen + m) (old := sCap) (bytes := ti''.bytes) hcap (by omega)
  have hr := hsrc.grow i1 i2 hold hcap h63 hfit
  obtain ⟨G, hG⟩ : ∃ G, G = grownCap w (sLen + m) sCap el := ⟨_, rfl⟩
  have hge : sLen + m ≤ G := by rw [hG]; exact grownCap_ge w (sLen + m) sCap el
  rw [← hG] at hr
  obtain ⟨c, hc⟩ : ∃ c, c = (toVs θ old ++ toVs θ new).toArray ++ Builtin.zeroCells zv.cells (G - (sLen + m)) := ⟨_, rfl⟩
  rw [← hc] at hr
  have hzs : zv.cells.size = ti''.size := by rw [(i4 θ).2]; simp [hzl]
  have hcs : c.size = G * ti''.size := by
    rw [hc]
    simp only [Array.size_append, List.size_toArray, List.length_append, toVs_length, hlo, hln, size_zeroCells, hzs, ← Nat.add_mul]
    congr 1; omega
  have hpos : 0 < ti''.size := Nat.pos_of_ne_zero hsize
  have hmul : (sLen + m) * ti''.size ≤ G * ti''.size := Nat.mul_le_mul_right _ hge
  obtain ⟨k1, k2⟩ := hR.new (w' := w.drew.alloc (.cells c el)) (ob := .cells c el) rfl ⟨rfl, rfl, rfl⟩ hn (a := .ce ((sLen + m) * ti''.size) ti''.size z' zl' d' t' true sh) (bs := 0) (sz := G * ti''.size) (es := ti''.size) (by
    have hnx : ¬ θ.has nx := fun hx => Nat.lt_irrefl _ (hR.own nx hx).1
    have hle := Th.le_put hnx w.heap.size 0 (G * ti''.size) ti''.size
    refine ⟨c, el, (0, 0), ?_, hd, fun i hi => ?_, (.inl rfl), fun h => absurd h hsize, fun _ => ⟨by simp, by rw [Th.put_siz]; exact hmul, by rw [Th.put_bas, Th.put_siz, hcs]; omega⟩⟩
    · rw [Th.put_blk]
      show (w.heap.push _)[w.heap.size]? = _
      simp
    · have hl : i < (old ++ new).length := by rw [List.length_append, hlo, hln, ← Nat.add_mul]; exact hi
      have hm : (old ++ new)[i] ∈ old ++ new := List.getElem_mem hl
      have hok : Oks θ (old ++ new) := Oks_append.2 ⟨hoo, hon⟩
      have h1 : (old ++ new).all one = true := by rw [List.all_append, h1o, h1n]; rfl
      obtain ⟨q1, q2⟩ := mono hle _ (Oks_iff.1 hok _ hm)
      refine ⟨(old ++ new)[i], by rw [hcell i hi]; exact List.getElem?_eq_getElem hl, q2, List.all_eq_true.1 h1 _ hm, ?_⟩
      rw [Th.put_bas, Nat.zero_add, hc, Array.getElem?_append_left (by simp only [List.size_toArray, List.length_append, toVs_length]; rw [← List.length_append]; exact hl), List.getElem?_toArray, ← toVs_append, toVs_get, List.getElem?_eq_getElem hl, q1]
      rfl) hsh
  refine ⟨_, _, _, k2, ⟨Th.put_has .., ?_⟩, k1, hr⟩
  simp only [toV, Th.put_blk, Th.put_bas, Th.put_siz, Th.put_esz, Nat.zero_add, Nat.sub_zero, Nat.mul_div_cancel _ hpos]
theorem fits_true {size need bytes : Nat} {κ : R} (e : fits size need bytes κ = true) : size ≠ 0 ∧ need ≤ 1073741824 ∧ need * bytes ≤ 70368744177664 ∧ κ = true := by
  obtain ⟨h1, e1⟩ := br_f e
  obtain ⟨h2, e2⟩ := br_t e1
  obtain ⟨h3, e3⟩ := br_t e2
  exact ⟨(fun h => by subst h; cases h1), Nat.le_of_ble_eq_true h2, Nat.le_of_ble_eq_true h3, e3⟩
theorem cell_of_heap {w w' : World} (h : w'.heap = w.heap) (a : Addr) : w'.cell? a = w.cell? a := by unfold World.cell?; rw [h]
/-- what is appended is known -/
theorem apn_core {t tx el : TypeId} {size bytes : Nat} {z : List AV} {h : H} {nx : Nat} {κ : K} {w0 : World} {pd : List (Nat × AO)} {θ : Th} {a : Act} {w : World} {v : AV} {U Y' : Value} {new : List AV} {m : Nat} (hu : P.underlying t = some (.slice el))
    (hs : sizeT P el = some size) (hb : bytesT P el = some bytes) (hz : zeroT P el = some z) (hzl : z.length = size) (hR : HR P w0 pd θ h nx w) (hr : VR θ v U) (e1 : apnK v new m size bytes h nx κ = true)
    (hln : new.length = m * size) (hon : Oks θ new) (h1n : new.all one = true) (hsrc : Apd P t tx o.type el Y' m (toVs θ new) w)
    (run : ∀ {u w'}, (Builtin.append_ #[t, tx] o.type #[U, Y']).run P w = .ok u w' → (execOp a.eval o).run P w = .ok (.value u) w') :
    ∃ v u θ' h' nx' w' n, θ.le θ' ∧ VR θ' v u ∧ HR P w0 pd θ' h' nx' w' ∧ κ v h' nx' = true ∧ (execOp a.eval o).run P w = .ok n w' ∧ fin n = some u := by
  obtain ⟨ti, i1, i2⟩ := sizeT_info hs
  have grow : ∀ {base sLen sCap} {old : List AV}, U = .slice base sLen sCap → old.length = sLen * size → Oks θ old → old.all one = true → (Builtin.firstCells size sLen (.slice base sLen sCap)).run P w.drew = .ok (toVs θ old).toArray w.drew →
      sCap < sLen + m → growK old new size bytes h nx (sLen + m) κ = true →
      ∃ v u θ' h' nx' w' n, θ.le θ' ∧ VR θ' v u ∧ HR P w0 pd θ' h' nx' w' ∧ κ v h' nx' = true ∧ (execOp a.eval o).run P w = .ok n w' ∧ fin n = some u := by
    intro base sLen sCap old hX hlo hoo h1o hold hcap e
    obtain ⟨f1, f2, f3, e2⟩ := fits_true e
    rw [appK_eq, fnat_eq] at e2
    obtain ⟨hn, e3⟩ := newK_true e2
    have hlen : (old ++ new).length = (sLen + m) * size := by rw [List.length_append, hlo, hln, Nat.add_mul]
    obtain ⟨v, θ', w', k1, k2, k3, k4⟩ := grow_new (ty := o.type) hR hn hu hs hb hz hzl hlo hln hoo hon h1o h1n hold hsrc hcap f1 f2 f3 (sh := []) (fun x hx => by cases hx) (z' := old ++ new) (zl' := (sLen + m) * size) (t' := E (deep ((sLen + m) * size))) (deep_ge _)
      (fun i hi => by rw [cellO_E, Nat.mod_eq_of_lt hi])
    exact ⟨_, v, θ', _, _, w', .value v, k1, k2, k3, e3, run (by rw [hX]; exact k4), rfl⟩
  cases v <;> first | (cases e1; done) | skip
  · rename_i ob off len cap
    have hhas := hr.1
    cases cap with
    | some cp =>
      have hX := hr.sls.1
      have e1 : (fnat (Nat.add len m) fun need => br (Nat.ble need cp) (wrK ob (Nat.add off (Nat.mul len size)) new h fun h => κ (.sl ob off need (some cp)) h nx)
          (rdK ob off (Nat.mul len size) h fun old => growK old new size bytes h nx need κ)) = true := e1
      rw [fnat_eq] at e1
      rcases br_true e1 with ⟨g1, g2⟩ | ⟨g1, g2⟩
      · have g1 : len + m ≤ cp := Nat.le_of_ble_eq_true g1
        obtain ⟨h', k1, k2, k3⟩ := wr_ok hR hhas hon h1n g2
        obtain ⟨cur, ty, fz, f1, f2, f3⟩ := k3
        have hoff : θ.bas ob + (off + len * size) = θ.bas ob + off + len * size := (Nat.add_assoc ..).symm
        have hrun := hsrc.room (b := θ.blk ob) (off := θ.bas ob + off) (sLen := len) (sCap := cp) i1 g1
          (fun j hj => by
            rw [i2, cell_of_row w _ _ _ _ _ f1, Array.getElem?_eq_getElem (by have : Nat.add off (Nat.mul len size) = off + len * size := rfl; omega)]; rfl)
          (fun j hj => by
            simp only [World.frozen?, f1]; rw [i2]; exact f3 _ (by have : Nat.add off (Nat.mul len size) = off + len * size := rfl; omega))
        rw [i2] at hrun
        rw [← hoff] at hrun
        exact ⟨.sl ob off (len + m) (some cp), .slice (some ⟨θ.blk ob, θ.bas ob + off, none⟩) (len + m) cp, θ, h', nx, w.setCells (θ.blk ob) (θ.bas ob + (off + len * size)) (toVs θ new), .value _, .refl θ, ⟨hhas, rfl⟩, k2, k1, run (by rw [hX]; exact hrun), rfl⟩
      · have g1 : ¬ (len + m ≤ cp) := fun h => by
          have : Nat.ble (Nat.add len m) cp = true := Nat.ble_eq_true_of_le h
          rw [this] at g1; cases g1
        obtain ⟨old, k1, _, k3, k4, k5, k6⟩ := rd_ok hR hhas g2
        refine grow hX k1 k4 k5 ?_ (by omega) k3
        exact run_firstCells_some w.drew size len ⟨θ.blk ob, θ.bas ob + off, none⟩ len cp (toVs θ old) (by rw [toVs_length]; exact k1) (fun j u hj => by
          rw [Addr.add_lit, cell_of_heap (w := w) (w' := w.drew) rfl]; exact k6 j u hj)
    | none =>
      have hX := hr.sln.1
      have e1 : appN ob off len m size bytes new h nx κ = true := e1
      unfold appN at e1
      rw [fnat_eq] at e1
      obtain ⟨ab, hab, e6⟩ := get_true e1
      cases ab <;> first | (cases e6; done) | skip
      rename_i N es z1 zl d tt top sh
      obtain ⟨b1, e7⟩ := br_t e6
      obtain ⟨b2, e8⟩ := br_f e7
      have b1 := Nat.eq_of_beq_eq_true b1
      have b2 : size ≠ 0 := fun h => by subst h; cases b2
      subst b1
      have hor := hR.obj_ hhas hab
      obtain ⟨cc, ty, fz, o1, o2, o3, o4, o5, o6⟩ := hor
      obtain ⟨p1, p2, p3⟩ := o6 b2
      rw [p1] at hX
      have hpos : 0 < es := Nat.pos_of_ne_zero b2
      rcases br_true e8 with ⟨g1, g2⟩ | ⟨g1, g2⟩
      · have g1 : off + (len + m) * es ≤ N := Nat.le_of_ble_eq_true g1
        obtain ⟨h', k1, k2, k3⟩ := wr_ok hR hhas hon h1n g2
        have hroom : len + m ≤ (θ.siz ob - off) / es := by rw [Nat.le_div_iff_mul_le hpos]; omega
        have hmul : (len + m) * es = len * es + m * es := Nat.add_mul ..
        have hoff : θ.bas ob + (off + len * es) = θ.bas ob + off + len * es := (Nat.add_assoc ..).symm
        have hrun := hsrc.room (b := θ.blk ob) (off := θ.bas ob + off) (sLen := len) (sCap := (θ.siz ob - off) / es) i1 hroom
          (fun j hj => by
            rw [toVs_length, hln] at hj
            rw [i2, cell_of_row w _ _ _ _ _ o1, Array.getElem?_eq_getElem (by omega)]; rfl)
          (fun j hj => by
            rw [toVs_length, hln] at hj
            simp only [World.frozen?, o1]; rw [i2]; exact o4.free _ (by omega))
        rw [i2] at hrun
        rw [← hoff] at hrun
        exact ⟨.sl ob off (len + m) none, .slice (some ⟨θ.blk ob, θ.bas ob + off, none⟩) (len + m) ((θ.siz ob - off) / es), θ, h', nx, w.setCells (θ.blk ob) (θ.bas ob + (off + len * es)) (toVs θ new), .value _, .refl θ, ⟨hhas, by rw [← p1]; rfl⟩, k2, k1, run (by rw [hX]; exact hrun), rfl⟩
      · have g1 : ¬ (off + (len + m) * es ≤ N) := fun h => by
          have : Nat.ble (Nat.add off (Nat.mul (Nat.add len m) es)) N = true := Nat.ble_eq_true_of_le h
          rw [this] at g1; cases g1
        obtain ⟨f1, f2, f3, g3⟩ := fits_true g2
        obtain ⟨g4, g5⟩ := br_t g3
        subst g4
        obtain ⟨g6, g7⟩ := br_t g5
        have g6 : off + len * es = N := Nat.eq_of_beq_eq_true g6
        rw [put_eq, fnat_eq] at g7
        have hmul : (len + m) * es = len * es + m * es := Nat.add_mul ..
        -- what was there
        obtain ⟨old, hl1, hl2⟩ := cells_list (Q := fun i v => cellO z1 zl d tt (off + i) = some v ∧ Ok θ v ∧ one v = true ∧ cc[θ.bas ob + (off + i)]? = some (toV θ v)) (len * es) (fun i hi => o3 (off + i) (by omega))
        have hoo : Oks θ old := Oks_iff.2 fun v hv => by obtain ⟨i, hi⟩ := List.getElem?_of_mem hv; exact (hl2 i v hi).2.1
        have h1o : old.all one = true := List.all_eq_true.2 fun v hv => by obtain ⟨i, hi⟩ := List.getElem?_of_mem hv; exact (hl2 i v hi).2.2.1
        have hold : (Builtin.firstCells es len (.slice (some ⟨θ.blk ob, θ.bas ob + off, none⟩) len ((θ.siz ob - off) / es))).run P w.drew = .ok (toVs θ old).toArray w.drew :=
          run_firstCells_some w.drew es len ⟨θ.blk ob, θ.bas ob + off, none⟩ len _ (toVs θ old) (by rw [toVs_length]; exact hl1) (fun j u hj => by
            rw [Addr.add_lit, cell_of_heap (w := w) (w' := w.drew) rfl, cell_of_row w _ _ _ _ _ o1]
            rw [toVs_get] at hj
            obtain ⟨v, q1, rfl⟩ := Option.map_eq_some_iff.1 hj
            rw [Nat.add_assoc]; exact (hl2 j v q1).2.2.2)
        -- the new row
        have key : ∀ {z' : List AV} {zl' d' : Nat} {t' : L (Option AV) d'}, (len + m) * es ≤ 8 ^ d' → (∀ i, i < (len + m) * es → cellO z' zl' d' t' i = (old ++ new)[i]?) → nx < 2097152 →
            κ (.sl nx 0 (len + m) none) (setO (setO h ob (.ce N es z1 zl d tt false sh)) nx (.ce ((len + m) * es) es z' zl' d' t' true (ob :: sh))) (nx + 1) = true →
            ∃ v u θ' h' nx' w' n, θ.le θ' ∧ VR θ' v u ∧ HR P w0 pd θ' h' nx' w' ∧ κ v h' nx' = true ∧ (execOp a.eval o).run P w = .ok n w' ∧ fin n = some u := by
          intro z' zl' d' t' hd hcell hn hκ
          have hshs : ∀ x ∈ ob :: sh, θ.has x := by
            intro x hx
            rcases List.mem_cons.1 hx with rfl | hx
            · exact hhas
            · obtain ⟨_, _, _, b, q1, _, q2⟩ := hR.own ob hhas
              rw [hab] at q1; injection q1 with q1; subst q1; exact q2 x hx
          by_cases hroom : len + m ≤ (θ.siz ob - off) / es
          · have hroom' : (len + m) * es ≤ θ.siz ob - off := by rw [Nat.le_div_iff_mul_le hpos] at hroom; exact hroom
            have hoff : θ.bas ob + (off + len * es) = θ.bas ob + off + len * es := (Nat.add_assoc ..).symm
            have hrun := hsrc.room (b := θ.blk ob) (off := θ.bas ob + off) (sLen := len) (sCap := (θ.siz ob - off) / es) i1 hroom
              (fun j hj => by
                rw [toVs_length, hln] at hj
                rw [i2, cell_of_row w _ _ _ _ _ o1, Array.getElem?_eq_getElem (by omega)]; rfl)
              (fun j hj => by
                rw [toVs_length, hln] at hj
                simp only [World.frozen?, o1]; rw [i2]; exact o4.free _ (by omega))
            rw [i2] at hrun
            obtain ⟨c', s1, s2, s3⟩ := setCells_blk (θ.blk ob) ty fz (toVs θ new) (θ.bas ob + off + len * es) w cc o1 (by rw [toVs_length, hln]; omega)
            have hnx : ¬ θ.has nx := fun hx => Nat.lt_irrefl _ (hR.own nx hx).1
            have hle := Th.le_put hnx (θ.blk ob) (θ.bas ob + off) (θ.siz ob - off) es
            obtain ⟨k1, k2⟩ := HR.grow (w' := w.setCells (θ.blk ob) (θ.bas ob + off + len * es) (toVs θ new)) hR hhas hab hn (setCells_plain _ _ _ _).2 (setCells_plain _ _ _ _).1 (fun b hb => setCells_other _ _ _ _ b hb)
              (fun c2 ty2 fz2 hc2 => by
                rw [o1] at hc2; injection hc2 with hc2
                injection hc2 with q1 q2 q3
                subst q1 q2 q3
                exact ⟨c', s1, s2, fun i hi => by rw [s3, if_neg (by omega)]⟩)
              (bs := θ.bas ob + off) (sz := θ.siz ob - off) (es' := es) (n' := (len + m) * es) (z' := z') (zl' := zl') (t' := t') (by omega)
              (by
                refine ⟨c', ty, fz, by rw [Th.put_blk]; exact s1, hd, fun i hi => ?_, by rw [s2]; exact o4, fun h => absurd h b2, fun _ => ⟨by simp, by rw [Th.put_siz]; exact hroom', by rw [Th.put_bas, Th.put_siz, s2]; omega⟩⟩
                have hl : i < (old ++ new).length := by rw [List.length_append, hl1, hln, ← Nat.add_mul]; exact hi
                have hm : (old ++ new)[i] ∈ old ++ new := List.getElem_mem hl
                have hok : Oks θ (old ++ new) := Oks_append.2 ⟨hoo, hon⟩
                have h1 : (old ++ new).all one = true := by rw [List.all_append, h1o, h1n]; rfl
                obtain ⟨q1, q2⟩ := mono hle _ (Oks_iff.1 hok _ hm)
                refine ⟨(old ++ new)[i], by rw [hcell i hi]; exact List.getElem?_eq_getElem hl, q2, List.all_eq_true.1 h1 _ hm, ?_⟩
                rw [Th.put_bas, s3, q1]
                by_cases hio : i < len * es
                · rw [if_neg (by omega)]
                  have : (old ++ new)[i]? = old[i]? := List.getElem?_append_left (by omega)
                  rw [List.getElem?_eq_getElem hl] at this
                  have := (hl2 i _ this.symm).2.2.2
                  rw [← this]; congr 1; omega
                · rw [if_pos (by rw [toVs_length, hln]; omega), toVs_get]
                  have : (old ++ new)[i]? = new[i - old.length]? := List.getElem?_append_right (by omega)
                  rw [List.getElem?_eq_getElem hl, hl1] at this
                  rw [show θ.bas ob + off + i - (θ.bas ob + off + len * es) = i - len * es by omega, ← this]; rfl)
            refine ⟨.sl nx 0 (len + m) none, _, _, _, _, _, .value _, k2, ⟨Th.put_has .., rfl⟩, k1, hκ, run (by rw [hX]; exact hrun), ?_⟩
            show some _ = some _
            simp only [toV, Th.put_blk, Th.put_bas, Th.put_siz, Th.put_esz, Nat.add_zero, Nat.sub_zero]
          · obtain ⟨v, θ', w', k1, k2, k3, k4⟩ := grow_new (ty := o.type) (HR.mark hR hhas hab) hn hu hs hb hz hzl hl1 hln hoo hon h1o h1n hold hsrc (by omega) b2 f2 f3 hshs hd hcell
            exact ⟨_, v, θ', _, _, w', .value v, k1, k2, k3, hκ, run (by rw [hX]; exact k4), rfl⟩
        have hmore : ∀ {d2 : Nat} {t2 : L (Option AV) d2}, (∀ i, i < N → cellO z1 zl d2 t2 i = cellO z1 zl d tt i) → off = 0 → (len + m) * es ≤ 8 ^ d2 →
            moreK ((len + m) * es) es z1 zl d2 t2 N new ob sh (len + m) (setO h ob (.ce N es z1 zl d tt false sh)) nx κ = true →
            ∃ v u θ' h' nx' w' n, θ.le θ' ∧ VR θ' v u ∧ HR P w0 pd θ' h' nx' w' ∧ κ v h' nx' = true ∧ (execOp a.eval o).run P w = .ok n w' ∧ fin n = some u := by
          intro d2 t2 hsame h0 hle hm
          subst h0
          unfold moreK at hm
          rw [setsT_eq] at hm
          obtain ⟨hn, hκ⟩ := newK_true hm
          refine key (z' := z1) (zl' := zl) (t' := setsF d2 new N t2) hle (fun i hi => ?_) hn hκ
          rw [cellO_setsF (by rw [hln]; omega) (by omega)]
          by_cases hiN : i < N
          · rw [if_neg (by omega), hsame i hiN, List.getElem?_append_left (by omega)]
            have hlt : i < old.length := by omega
            have := (hl2 i _ (List.getElem?_eq_getElem hlt)).1
            rw [Nat.zero_add] at this
            rw [this, List.getElem?_eq_getElem hlt]
          · rw [if_pos (by rw [hln]; omega), List.getElem?_append_right (by omega), hl1]
            congr 1; omega
        have hlist : (cellsT z1 zl d tt (len * es) off fun old => appK AV old new fun l => newK (.ce ((len + m) * es) es l ((len + m) * es) (deep ((len + m) * es)) (E (deep ((len + m) * es))) true (ob :: sh)) (setO h ob (.ce N es z1 zl d tt false sh)) nx fun o h nx => κ (.sl o 0 (len + m) none) h nx) = true →
            ∃ v u θ' h' nx' w' n, θ.le θ' ∧ VR θ' v u ∧ HR P w0 pd θ' h' nx' w' ∧ κ v h' nx' = true ∧ (execOp a.eval o).run P w = .ok n w' ∧ fin n = some u := by
          intro hc
          obtain ⟨vs, q1, q2, q3⟩ := cellsT_true hc
          have hvs : vs = old := by
            apply List.ext_getElem?
            intro i
            by_cases hi : i < len * es
            · have h1 := q2 i _ (List.getElem?_eq_getElem (by rw [q1]; exact hi))
              have h2 := (hl2 i _ (List.getElem?_eq_getElem (by rw [hl1]; exact hi))).1
              rw [h1] at h2
              rw [List.getElem?_eq_getElem (by rw [q1]; exact hi), List.getElem?_eq_getElem (by rw [hl1]; exact hi)]
              exact h2
            · rw [List.getElem?_eq_none (by omega), List.getElem?_eq_none (by omega)]
          rw [q3, hvs, appK_eq] at hc
          obtain ⟨hn, hκ⟩ := newK_true hc
          exact key (z' := old ++ new) (zl' := (len + m) * es) (t' := E (deep ((len + m) * es))) (deep_ge _) (fun i hi => by rw [cellO_E, Nat.mod_eq_of_lt hi]) hn hκ
        cases off with
        | succ off => exact hlist g7
        | zero =>
          rcases br_true g7 with ⟨r1, r2⟩ | ⟨r1, r2⟩
          · exact hmore (fun i hi => rfl) rfl (Nat.le_of_ble_eq_true r1) r2
          · rcases br_true r2 with ⟨r3, r4⟩ | ⟨r3, r4⟩
            rotate_left
            · exact hlist r4
            refine hmore (d2 := d + 1) (t2 := deepr d tt) (fun i hi => ?_) rfl (Nat.le_of_ble_eq_true r3) r4
            have hi8 : i < 8 ^ d := by omega
            unfold cellO
            have : getL (Option AV) (d + 1) i (deepr d tt) = getL (Option AV) d i tt := by
              show getL (Option AV) d (i % 8 ^ d) (ch (i / 8 ^ d) _) = _
              rw [Nat.div_eq_of_lt hi8, Nat.mod_eq_of_lt hi8]
              rfl
            rw [this]
  · have hX : U = .slice none 0 0 := hr.2
    cases m with
    | zero =>
      have hnn : new = [] := List.eq_nil_of_length_eq_zero (by omega)
      subst hnn
      refine ⟨.ns, .slice none 0 0, θ, h, nx, w, .value _, .refl θ, ⟨trivial, rfl⟩, hR, e1, run ?_, rfl⟩
      rw [hX]
      exact hsrc.nil rfl
    | succ m =>
      have e1 : growK [] new size bytes h nx (m + 1) κ = true := e1
      have := grow (base := none) (sLen := 0) (sCap := 0) (old := []) hX (by simp) trivial rfl (run_firstCells_none w.drew size 0 0 0) (by omega) (by rw [Nat.zero_add]; exact e1)
      exact this
theorem a_apn {t tx el : TypeId} {size bytes : Nat} {z : List AV} {c : Call} (hx : XOk x X) (hy : XOk y Y) (hu : P.underlying t = some (.slice el)) (hk : (∃ e', P.underlying tx = some (.slice e')) ∨ P.underlying tx = some .string)
    (hs : sizeT P el = some size) (hb : bytesT P el = some bytes) (hz : zeroT P el = some z) (hzl : z.length = size) (hc : c.callee = .builtin .append) (ha : c.args.toList = [X, Y]) (ht : c.argTypes.toList = [t, tx]) (ho : o.op = .call c) : OpOk P o (oApn x y size bytes) := by
  intro en h nx κ w0 pd θ a w hE hR e
  obtain ⟨v, hv, hr⟩ := hx en
  obtain ⟨v2, hv2, hr2⟩ := hy en
  simp only [oApn, hv, hv2] at e
  obtain ⟨new, m, e1, hln, hon, h1n, hsrc, _⟩ := src_ok hR (hr2 θ a hE) e hk
  obtain ⟨ti, i1, i2⟩ := sizeT_info hs
  have run : ∀ {u w'}, (Builtin.append_ #[t, tx] o.type #[a.eval X, a.eval Y]).run P w = .ok u w' → (execOp a.eval o).run P w = .ok (.value u) w' := by
    intro u w' hw
    obtain ⟨ca, cargs, ct⟩ := c
    have ha' : cargs = #[X, Y] := by cases cargs; simp_all
    have ht' : ct = #[t, tx] := by cases ct; simp_all
    simp only at hc
    subst ha' ht' hc
    simp only [execOp, ho, resolve, invoke, builtin, Sem.run_bind, Sem.run_pure, Result.andThen, List.map_toArray, List.map_cons, List.map_nil, hw]
  subst i2
  exact apn_core hu hs hb hz hzl hR (hr θ a hE) e1 hln hon h1n (src_apd hu i1 hsrc) run
theorem repK_eq {z : List AV} : ∀ (n : Nat) (κ : List AV → R), repK z n κ = κ (rep n z)
  | 0, _ => rfl
  | n + 1, κ => by
    have : repK z (n + 1) κ = repK z n fun l => appK AV z l κ := rfl
    rw [this, repK_eq n, appK_eq]
    rfl
theorem zeros_apd {t tx ty el : TypeId} {k kk : IntKind} {m : Nat} {z : List AV} {θ : Th} {w : World} {ti : TypeInfo} {zv : Value} (hu : P.underlying t = some (.slice el)) (hk : P.underlying tx = some (.int k)) (i1 : P.info? el = some ti) (i2 : ti.zero = some zv) (i3 : z.all one = true)
    (i4 : zv.cells = (toVs θ z).toArray) (hzl : z.length = ti.size) (hm : m ≤ 1073741824) (hb : m * ti.bytes ≤ 70368744177664) : Apd P t tx ty el (.int kk (m : Int)) m (toVs θ (rep m z)) w := by
  have hw : IntKind.i64.wrap (m : Int) = m := wrap_nat (k := 3) (show m < 9223372036854775808 by omega)
  have h0 : ¬ ((m : Int) < 0) := by omega
  have h48 : ¬ (281474976710656 < (m : Int) * (ti.bytes : Int)) := by
    rw [← Int.natCast_mul]; omega
  have hz0 : Builtin.zeroCells zv.cells m = (toVs θ (rep m z)).toArray := by
    have hsz : zv.cells.size = z.length := by rw [i4]; simp
    have e : m * zv.cells.size = m * z.length := by rw [hsz]
    unfold Builtin.zeroCells
    rw [e]
    exact zeros_eq i4 m
  have hlen : (toVs θ (rep m z)).length = m * ti.size := by rw [toVs_length, rep_length, hzl]
  have hone := toVs_one (θ := θ) (rep_all i3 m)
  have hnil : m * ti.size = 0 → toVs θ (rep m z) = [] := fun h => List.eq_nil_of_length_eq_zero (by omega)
  refine ⟨?_, ?_, ?_⟩
  · intro i b off sLen sCap hi hroom hc hf
    have : i = ti := by rw [i1] at hi; injection hi with hi; exact hi.symm
    subst this
    have hst := run_storeCells_cells (P := P) b (off + sLen * i.size) (toVs θ (rep m z)) 0 w (by simpa using hc) (by simpa using hf) hone
    simp only [Nat.add_zero] at hst
    by_cases h2 : m * i.size = 0
    · rw [hnil h2] at hst ⊢
      simp [Builtin.append_, run_underlying hu, run_underlying hk, sizeOf, typeInfo, i1, asInt, asIntOf, hw, h0, h48, hroom, h2, Addr.add_lit, hst]
    · simp [Builtin.append_, run_underlying hu, run_underlying hk, sizeOf, typeInfo, zeroValue, i1, i2, asInt, asIntOf, hw, h0, h48, hroom, h2, Addr.add_lit, hz0, hst]
  · intro i z2 base sLen sCap olds hi hz2 hold hcap h63 hfit
    have : i = ti := by rw [i1] at hi; injection hi with hi; exact hi.symm
    subst this
    have : z2 = zv := by rw [i2] at hz2; injection hz2 with hz2; exact hz2.symm
    subst this
    have hn : ¬ (sLen + m ≤ sCap) := by omega
    have h63' : ¬ (9223372036854775807 < ((sLen : Int) + (m : Int))) := by omega
    have h48' : ¬ (281474976710656 < Builtin.nextslicecap (sLen + m) sCap * i.bytes) := by omega
    by_cases h2 : m * i.size = 0
    · rw [hnil h2]
      simp [Builtin.append_, run_underlying hu, run_underlying hk, sizeOf, typeInfo, zeroValue, i1, i2, asInt, asIntOf, hw, h0, h48, hn, h63', h48', h2, Question.forced, hold, newRow, grownCap]
    · simp [Builtin.append_, run_underlying hu, run_underlying hk, sizeOf, typeInfo, zeroValue, i1, i2, asInt, asIntOf, hw, h0, h48, hn, h63', h48', h2, Question.forced, hold, newRow, grownCap, hz0]
      congr 2
      apply Array.ext'
      simp [List.append_assoc]
  · intro hm0
    subst hm0
    have hw0 : IntKind.i64.wrap 0 = 0 := hw
    simp [hw0, Builtin.append_, run_underlying hu, run_underlying hk, sizeOf, typeInfo, i1, asInt, asIntOf, hw]
theorem a_apz {t tx el : TypeId} {size bytes : Nat} {z : List AV} {c : Call} {k : IntKind} (hx : XOk x X) (hy : XOk y Y) (hu : P.underlying t = some (.slice el)) (hk : P.underlying tx = some (.int k))
    (hs : sizeT P el = some size) (hb : bytesT P el = some bytes) (hz : zeroT P el = some z) (hzl : z.length = size) (hc : c.callee = .builtin .append) (ha : c.args.toList = [X, Y]) (ht : c.argTypes.toList = [t, tx]) (ho : o.op = .call c) : OpOk P o (oApz x y size bytes z) := by
  intro en h nx κ w0 pd θ a w hE hR e
  obtain ⟨v, hv, hr⟩ := hx en
  obtain ⟨v2, hv2, hr2⟩ := hy en
  simp only [oApz, hv, hv2] at e
  obtain ⟨kk, m, rfl, e1⟩ := asN_true e
  obtain ⟨g1, e2⟩ := br_t e1
  obtain ⟨g2, e3⟩ := br_t e2
  rw [repK_eq] at e3
  have g1 : m ≤ 1073741824 := Nat.le_of_ble_eq_true g1
  have g2 : m * bytes ≤ 70368744177664 := Nat.le_of_ble_eq_true g2
  have hY : a.eval Y = .int (kindOf kk) (m : Int) := (hr2 θ a hE).2
  obtain ⟨ti, zv, i1, i2, i3, i4⟩ := zeroT_some hz
  obtain ⟨ti', j1, j2⟩ := sizeT_info hs
  have : ti' = ti := by rw [i1] at j1; injection j1 with j1; exact j1.symm
  subst this
  obtain ⟨ti'', j3, j4⟩ : ∃ i, P.info? el = some i ∧ i.bytes = bytes := by
    unfold bytesT at hb
    exact Option.map_eq_some_iff.1 hb
  have : ti'' = ti' := by rw [i1] at j3; injection j3 with j3; exact j3.symm
  subst this
  have hap := zeros_apd (ty := o.type) (kk := kindOf kk) (θ := θ) (w := w) hu hk i1 i2 i3 (i4 θ).2 (by rw [hzl, j2]) g1 (by rw [j4]; exact g2)
  rw [← hY] at hap
  have hln : (rep m z).length = m * size := by rw [rep_length, hzl]
  have run : ∀ {u w'}, (Builtin.append_ #[t, tx] o.type #[a.eval X, a.eval Y]).run P w = .ok u w' → (execOp a.eval o).run P w = .ok (.value u) w' := by
    intro u w' hw
    obtain ⟨ca, cargs, ct⟩ := c
    have ha' : cargs = #[X, Y] := by cases cargs; simp_all
    have ht' : ct = #[t, tx] := by cases ct; simp_all
    simp only at hc
    subst ha' ht' hc
    simp only [execOp, ho, resolve, invoke, builtin, Sem.run_bind, Sem.run_pure, Result.andThen, List.map_toArray, List.map_cons, List.map_nil, hw]
  exact apn_core hu hs hb hz hzl hR (hr θ a hE) e3 hln (rep_oks (i4 θ).1 m) (rep_all i3 m) hap run
theorem a_cpy {t el : TypeId} {size : Nat} {c : Call} (hx : XOk x X) (hy : XOk y Y) (hu : P.underlying t = some (.slice el)) (hs : sizeT P el = some size) (hc : c.callee = .builtin .copy) (ha : c.args.toList = [X, Y]) (ht : ∃ r, c.argTypes.toList = t :: r) (ho : o.op = .call c)
    (hk : ∃ tx, (∃ e', P.underlying tx = some (.slice e')) ∨ P.underlying tx = some .string) : OpOk P o (oCpy x y size) := by
  intro en h nx κ w0 pd θ a w hE hR e
  obtain ⟨v, hv, hr⟩ := hx en
  obtain ⟨v2, hv2, hr2⟩ := hy en
  simp only [oCpy, hv, hv2] at e
  obtain ⟨tx, hk⟩ := hk
  have run : ∀ {u w'}, (∀ ct : Array TypeId, ct[0]? = some t → (Builtin.copy_ ct o.type #[a.eval X, a.eval Y]).run P w = .ok u w') → (execOp a.eval o).run P w = .ok (.value u) w' := by
    intro u w' hw
    obtain ⟨ca, cargs, ct⟩ := c
    have ha' : cargs = #[X, Y] := by cases cargs; simp_all
    obtain ⟨r, ht⟩ := ht
    have ht' : ct[0]? = some t := by rw [← Array.getElem?_toList, ht]; rfl
    simp only at hc
    subst ha' hc
    simp only [execOp, ho, resolve, invoke, builtin, Sem.run_bind, Sem.run_pure, Result.andThen, List.map_toArray, List.map_cons, List.map_nil, hw ct ht']
  cases v <;> first | (cases e; done) | skip
  · rename_i ob off len cap
    obtain ⟨new, m, e1, hon, h1n, hlen, first⟩ := srcN_ok hR (hr2 θ a hE) (show srcN v2 size len h _ = true from e) hk
    have e1 : fnat (Nat.min m len) (fun n => takeK AV (Nat.mul n size) new fun new => wrK ob off new h fun h => κ (.i 3 (.ofNat n)) h nx) = true := e1
    rw [fnat_eq, takeK_eq] at e1
    split at e1
    · rename_i hle
      have hhas := (hr θ a hE).1
      obtain ⟨_, cc, hX⟩ := (hr θ a hE).sl
      obtain ⟨h', k1, k2, k3⟩ := wr_ok hR hhas (Oks_take _ hon) (all_take _ h1n) e1
      have hst := k3.store (toVs_one (all_take _ h1n)) P
      refine ⟨.i 3 (.ofNat (min m len)), goInt (min m len : Nat), θ, h', nx, _, .value _, .refl θ, ⟨trivial, rfl⟩, k2, k1, run fun ct hct => ?_, rfl⟩
      have hf := first (min m len) (Nat.min_le_left _ _) (Nat.min_le_right _ _)
      simp only [Builtin.copy_, hct, hX, List.getElem?_toArray, List.getElem?_cons_zero, List.getElem?_cons_succ, Sem.run_bind, run_underlying hu, Result.andThen, hlen, run_size hs]
      rw [show Nat.min m len = min m len from rfl, hf]
      simp only [Sem.run_bind, Result.andThen]
      rw [show (storeCells (⟨θ.blk ob, θ.bas ob + off, none⟩ : Addr) (toVs θ (new.take (min m len * size))).toArray.toList).run P w = _ from hst]
      rfl
    · cases e1
  · have hX : a.eval X = .slice none 0 0 := (hr θ a hE).2
    obtain ⟨new, m, e1, hon, h1n, hlen, first⟩ := srcN_ok hR (hr2 θ a hE) (show srcN v2 size 0 h _ = true from e) hk
    refine ⟨.i 3 (.ofNat 0), goInt (0 : Nat), θ, h, nx, w, .value _, .refl θ, ⟨trivial, rfl⟩, hR, e1, run fun ct hct => ?_, rfl⟩
    have hf := first 0 (Nat.zero_le _) (Nat.zero_le _)
    simp only [Builtin.copy_, hct, hX, List.getElem?_toArray, List.getElem?_cons_zero, List.getElem?_cons_succ, Sem.run_bind, run_underlying hu, Result.andThen, hlen, run_size hs]
    rw [show Nat.min m 0 = 0 from Nat.min_zero m, hf]
    rfl
end
end Go.AM
