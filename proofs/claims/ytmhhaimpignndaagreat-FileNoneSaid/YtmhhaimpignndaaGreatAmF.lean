/-
  AM, 7: cells read and written: what the machine does, and what memory shows. Conditions: none.
-/
import Derived.Test.YtmhhaimpignndaaGreatAmE
import Derived.Deep.AppendSrc
import Derived.Below
namespace Go.AM
open Go

/-! ### Lists and trees -/
theorem dropL_eq {α : Type} : ∀ (n : Nat) (l : List α), dropL α n l = l.drop n
  | 0, l => rfl
  | n + 1, [] => rfl
  | n + 1, _ :: r => dropL_eq n r
theorem takeK_eq {α : Type} : ∀ (n : Nat) (l : List α) (κ : List α → R), takeK α n l κ = if n ≤ l.length then κ (l.take n) else false
  | 0, l, κ => rfl
  | n + 1, [], κ => by simp [takeK]
  | n + 1, x :: r, κ => by
    show takeK α n r (fun l => κ (x :: l)) = _
    rw [takeK_eq n r]
    simp
theorem nthK_eq {α : Type} (κ : α → R) : ∀ (l : List α) (n : Nat), nthK α κ l n = match l[n]? with | some x => κ x | none => false
  | [], n => by simp [nthK]
  | x :: r, 0 => rfl
  | x :: r, n + 1 => by
    show nthK α κ r n = _
    rw [nthK_eq κ r n]
    simp
theorem lenN_eq {α : Type} : ∀ l : List α, lenN α l = l.length
  | [] => rfl
  | x :: r => congrArg Nat.succ (lenN_eq r)
theorem appK_eq {α : Type} (b : List α) : ∀ (a : List α) (κ : List α → R), appK α a b κ = κ (a ++ b)
  | [], _ => rfl
  | x :: r, κ => appK_eq b r fun l => κ (x :: l)
theorem ovrK_eq : ∀ (vs l : List AV) (κ : List AV → R), ovrK vs l κ = if vs.length ≤ l.length then κ (vs ++ l.drop vs.length) else false
  | [], l, κ => by simp [ovrK]
  | v :: vs, [], κ => by simp [ovrK]
  | v :: vs, x :: l, κ => by
    show ovrK vs l (fun l => κ (v :: l)) = _
    rw [ovrK_eq vs l]
    simp
theorem putLK_eq (vs : List AV) : ∀ (off : Nat) (l : List AV) (κ : List AV → R), putLK vs off l κ = if off + vs.length ≤ l.length then κ (l.take off ++ vs ++ l.drop (off + vs.length)) else false
  | 0, l, κ => by
    show ovrK vs l κ = _
    rw [ovrK_eq]
    simp
  | off + 1, [], κ => by
    show false = _
    rw [if_neg (by simp)]
  | off + 1, x :: l, κ => by
    show putLK vs off l (fun l => κ (x :: l)) = _
    rw [putLK_eq vs off l]
    have : off + 1 + vs.length = (off + vs.length) + 1 := by omega
    simp [this]
theorem cellK_eq (z : List AV) (zl d : Nat) (t : L (Option AV) d) (κ : AV → R) (i : Nat) : cellK z zl d t κ i = match cellO z zl d t i with | some v => κ v | none => false := by
  unfold cellK cellO
  rw [getK_eq]
  cases getL (Option AV) d i t with
  | some v => rfl
  | none =>
    refine (nthK_eq κ z (i % zl)).trans ?_
    cases z[i % zl]? <;> rfl
theorem cellsT_true {z : List AV} {zl d : Nat} {t : L (Option AV) d} : ∀ {n i : Nat} {κ : List AV → R}, cellsT z zl d t n i κ = true →
    ∃ vs, vs.length = n ∧ (∀ j v, vs[j]? = some v → cellO z zl d t (i + j) = some v) ∧ ∀ κ', cellsT z zl d t n i κ' = κ' vs
  | 0, i, κ, e => ⟨[], rfl, fun j v h => by simp at h, fun _ => rfl⟩
  | n + 1, i, κ, e => by
    have step : ∀ κ', cellsT z zl d t (n + 1) i κ' = cellK z zl d t (fun v => fnat (Nat.succ i) fun j => cellsT z zl d t n j fun vs => κ' (v :: vs)) i := fun _ => rfl
    rw [step, cellK_eq] at e
    cases hc : cellO z zl d t i with
    | none => rw [hc] at e; cases e
    | some v =>
      rw [hc] at e
      simp only [fnat_eq] at e
      obtain ⟨vs, h1, h2, h3⟩ := cellsT_true e
      refine ⟨v :: vs, by simp [h1], fun j u h => ?_, fun κ' => ?_⟩
      · cases j with
        | zero => simp at h; subst h; exact hc
        | succ j => have := h2 j u (by simpa using h); rwa [show i + (j + 1) = i.succ + j by omega]
      · rw [step, cellK_eq, hc]
        simp only [fnat_eq]
        exact h3 _
def setsF (d : Nat) : List AV → Nat → L (Option AV) d → L (Option AV) d
  | [], _, t => t
  | v :: vs, i, t => setsF d vs (i + 1) (setL (Option AV) (some v) d i t)
theorem setsT_eq (d : Nat) : ∀ (vs : List AV) (i : Nat) (t : L (Option AV) d) (κ : L (Option AV) d → R), setsT d vs i t κ = κ (setsF d vs i t)
  | [], _, _, _ => rfl
  | v :: vs, i, t, κ => by
    show setK (Option AV) (some v) d i t (fun t => fnat (Nat.succ i) fun j => setsT d vs j t κ) = _
    rw [setK_eq, fnat_eq, setsT_eq d vs]
    rfl
theorem getL_setsF (d : Nat) : ∀ (vs : List AV) (i : Nat) (t : L (Option AV) d) (j : Nat), i + vs.length ≤ 8 ^ d → j < 8 ^ d →
    getL (Option AV) d j (setsF d vs i t) = if i ≤ j ∧ j < i + vs.length then vs[j - i]? else getL (Option AV) d j t
  | [], i, t, j, _, _ => by simp [setsF]; omega
  | v :: vs, i, t, j, h, hj => by
    simp only [List.length_cons] at h
    rw [setsF, getL_setsF d vs (i + 1) _ j (by omega) hj]
    by_cases h1 : i = j
    · subst h1
      rw [if_neg (by omega), if_pos (by simp), getL_setL]
      simp
    · by_cases h2 : i + 1 ≤ j ∧ j < i + 1 + vs.length
      · rw [if_pos h2, if_pos (by simp; omega)]
        rw [show j - i = (j - (i + 1)) + 1 by omega]
        simp
      · rw [if_neg h2, if_neg (by simp; omega), getL_setL_ne _ _ _ (by omega) hj (by omega)]
theorem cellO_setsF {z : List AV} {zl d : Nat} {t : L (Option AV) d} {vs : List AV} {i j : Nat} (h : i + vs.length ≤ 8 ^ d) (hj : j < 8 ^ d) :
    cellO z zl d (setsF d vs i t) j = if i ≤ j ∧ j < i + vs.length then vs[j - i]? else cellO z zl d t j := by
  unfold cellO
  rw [getL_setsF d vs i t j h hj]
  by_cases h1 : i ≤ j ∧ j < i + vs.length
  · rw [if_pos h1, if_pos h1]
    have : j - i < vs.length := by omega
    simp [List.getElem?_eq_getElem this]
  · rw [if_neg h1, if_neg h1]
theorem toV_one {θ : Th} : ∀ {v : AV}, one v = true → (toV θ v).oneCell' = true
  | .i _ _, _ => rfl
  | .b _, _ => rfl
  | .p _ _, _ => rfl
  | .sl _ _ _ _, _ => rfl
  | .np, _ => rfl
  | .ns, _ => rfl
  | .s _, _ => rfl
  | .m _, _ => rfl
  | .nm, _ => rfl
  | .fn _ _, _ => rfl
  | .yl _, _ => rfl
  | .nf, _ => rfl
  | .ifc _ _, _ => rfl
  | .ni, _ => rfl
  | .l k N, _ => by show (lV k _).oneCell' = true; unfold lV; split <;> rfl
  | .q _ _ _, _ => rfl
  | .t _, _ => rfl
  | .f _ _, _ => rfl
  | .z _ _, _ => rfl
  | .x n, _ => θ.ext1 n
  | .xi n k r m, _ => by
      show (if k = 12 then tailV θ n r m else xiV (θ.ext n) k).oneCell' = true
      split
      · rfl
      · unfold xiV
        split
        · exact θ.ext1 n
        · split <;> rfl
theorem toVs_get {θ : Th} {l : List AV} {j : Nat} : (toVs θ l)[j]? = (l[j]?).map (toV θ) := by rw [toVs_map]; simp
theorem toVs_one {θ : Th} {l : List AV} (h : l.all one = true) : ∀ u ∈ toVs θ l, u.oneCell' = true := by
  intro u hu
  rw [toVs_map] at hu
  obtain ⟨v, hv, rfl⟩ := List.mem_map.1 hu
  exact toV_one (by simpa using List.all_eq_true.1 h v hv)
theorem toVs_append {θ : Th} (a b : List AV) : toVs θ (a ++ b) = toVs θ a ++ toVs θ b := by simp [toVs_map]
theorem Oks_append {θ : Th} {a b : List AV} : Oks θ (a ++ b) ↔ Oks θ a ∧ Oks θ b := by
  simp only [Oks_iff, List.mem_append]
  exact ⟨fun h => ⟨fun v hv => h v (.inl hv), fun v hv => h v (.inr hv)⟩, fun h v hv => hv.elim (h.1 v) (h.2 v)⟩
theorem Oks_take {θ : Th} {a : List AV} (n : Nat) (h : Oks θ a) : Oks θ (a.take n) := Oks_iff.2 fun v hv => Oks_iff.1 h v (List.mem_of_mem_take hv)
theorem Oks_drop {θ : Th} {a : List AV} (n : Nat) (h : Oks θ a) : Oks θ (a.drop n) := Oks_iff.2 fun v hv => Oks_iff.1 h v (List.mem_of_mem_drop hv)
theorem all_take {α : Type} {p : α → Bool} {l : List α} (n : Nat) (h : l.all p = true) : (l.take n).all p = true := List.all_eq_true.2 fun v hv => List.all_eq_true.1 h v (List.mem_of_mem_take hv)
theorem all_drop {α : Type} {p : α → Bool} {l : List α} (n : Nat) (h : l.all p = true) : (l.drop n).all p = true := List.all_eq_true.2 fun v hv => List.all_eq_true.1 h v (List.mem_of_mem_drop hv)

/-! ### Cells of a block set -/
theorem setCells_blk (b : Nat) (ty : TypeId) (fz : Nat × Nat) : ∀ (vs : List Value) (o : Nat) (w : World) (cur : Array Value), w.heap[b]? = some (.cells cur ty fz) → o + vs.length ≤ cur.size →
    ∃ cur', (w.setCells b o vs).heap[b]? = some (.cells cur' ty fz) ∧ cur'.size = cur.size ∧ ∀ i, cur'[i]? = if o ≤ i ∧ i < o + vs.length then vs[i - o]? else cur[i]?
  | [], o, w, cur, h, _ => ⟨cur, h, rfl, fun i => by rw [if_neg (by simp)]⟩
  | v :: r, o, w, cur, h, hl => by
    have hb : b < w.heap.size := (Array.getElem?_eq_some_iff.1 h).1
    have h1 : (w.setCell ⟨b, o, none⟩ v).heap[b]? = some (.cells (cur.setIfInBounds o v) ty fz) := by
      simp [World.setCell, Array.getElem?_modify, h]
    simp only [List.length_cons] at hl
    obtain ⟨cur', h2, h3, h4⟩ := setCells_blk b ty fz r (o + 1) _ _ h1 (by simp; omega)
    refine ⟨cur', h2, by simpa using h3, fun i => ?_⟩
    rw [h4 i]
    simp only [List.length_cons]
    by_cases e : i = o
    · subst e
      rw [if_neg (by omega), if_pos (by omega), Array.getElem?_setIfInBounds_self_of_lt (by omega)]
      simp
    · by_cases e2 : o + 1 ≤ i ∧ i < o + 1 + r.length
      · rw [if_pos e2, if_pos (by omega), show i - o = (i - (o + 1)) + 1 by omega]; simp
      · rw [if_neg e2, if_neg (by omega), Array.getElem?_setIfInBounds_ne (Ne.symm e)]
theorem setCells_other (b : Nat) : ∀ (vs : List Value) (o : Nat) (w : World) (k : Nat), k ≠ b → (w.setCells b o vs).heap[k]? = w.heap[k]?
  | [], _, _, _, _ => rfl
  | v :: r, o, w, k, hk => by
    rw [World.setCells, setCells_other b r (o + 1) _ k hk]
    exact heap_setCell_other w ⟨b, o, none⟩ k v hk
theorem setCells_plain (b : Nat) : ∀ (vs : List Value) (o : Nat) (w : World), ((w.setCells b o vs).os = w.os ∧ (w.setCells b o vs).tape = w.tape ∧ (w.setCells b o vs).output = w.output) ∧ (w.setCells b o vs).heap.size = w.heap.size
  | [], _, _ => ⟨⟨rfl, rfl, rfl⟩, rfl⟩
  | v :: r, o, w => by
    obtain ⟨⟨h1, h2, h3⟩, h4⟩ := setCells_plain b r (o + 1) (w.setCell ⟨b, o, none⟩ v)
    exact ⟨⟨h1, h2, h3⟩, by rw [World.setCells, h4]; simp [World.setCell]⟩

/-- more objects -/
def Ext (h h' : H) : Prop := ∀ o a, obj h o = some a → obj h' o = some a
theorem Ext.refl (h : H) : Ext h h := fun _ _ e => e
theorem get_is {o : Nat} {h : H} {a : AO} (ha : obj h o = some a) (κ : AO → R) : get o h κ = κ a := by
  unfold get
  rw [getK_eq]
  show opt AO κ (obj h o) = κ a
  rw [ha]
  rfl

section
variable {P : Program} {w0 w w' : World} {pd : List (Nat × AO)} {θ : Th} {h : H} {nx : Nat}
theorem HR.obj_ (hr : HR P w0 pd θ h nx w) {o : Nat} {a : AO} (ho : θ.has o) (ha : obj h o = some a) : OR P θ w o a := by
  obtain ⟨_, _, _, b, h1, h2, _⟩ := hr.own o ho
  rw [ha] at h1; injection h1 with h1; subst h1; exact h2
/-- n cells read -/
theorem rd_ok (hr : HR P w0 pd θ h nx w) {o off n : Nat} {κ : List AV → R} (ho : θ.has o) (e : rdK o off n h κ = true) :
    ∃ vs, vs.length = n ∧ (∀ h', Ext h h' → ∀ κ', rdK o off n h' κ' = κ' vs) ∧ κ vs = true ∧ Oks θ vs ∧ vs.all one = true ∧
      ∀ j v, (toVs θ vs)[j]? = some v → w.cell? ⟨θ.blk o, θ.bas o + off + j, none⟩ = some v := by
  obtain ⟨a, ha, e1⟩ := get_true e
  have hor := hr.obj_ ho ha
  cases a with
  | sm l =>
    obtain ⟨ty, h1, h2, h3, h4⟩ := hor
    simp only [dropL_eq, takeK_eq, List.length_drop] at e1
    split at e1
    · rename_i hn
      refine ⟨(l.drop off).take n, by simp; omega, fun h' hx κ' => ?_, e1, Oks_take n (Oks_drop off h3), all_take n (all_drop off h4), fun j v hj => ?_⟩
      · unfold rdK
        rw [get_is (hx o _ ha)]
        simp only [dropL_eq, takeK_eq, List.length_drop]
        rw [if_pos hn]
      · rw [cell_of_row w _ _ _ _ _ h1, h2]
        rw [toVs_get, List.getElem?_take] at hj
        split at hj
        · rw [List.getElem?_drop] at hj
          simp [toVs_get, hj]
        · simp at hj
    · cases e1
  | ce N es z zl d t top sh =>
    obtain ⟨c, ty, fz, h1, h2, h3, h4, h5, h6⟩ := hor
    obtain ⟨hle, e2⟩ := br_t e1
    have hle : off + n ≤ N := Nat.le_of_ble_eq_true hle
    obtain ⟨vs, k1, k2, k3⟩ := cellsT_true e2
    have kk : ∀ j v, vs[j]? = some v → Ok θ v ∧ one v = true ∧ c[θ.bas o + off + j]? = some (toV θ v) := by
      intro j v hj
      have hjl : j < n := by rw [← k1]; exact (List.getElem?_eq_some_iff.1 hj).1
      obtain ⟨u, q1, q2, q3, q4⟩ := h3 (off + j) (by omega)
      rw [k2 j v hj] at q1; injection q1 with q1; subst q1
      exact ⟨q2, q3, by rw [← q4, Nat.add_assoc]⟩
    refine ⟨vs, k1, fun h' hx κ' => ?_, by rw [k3] at e2; exact e2, Oks_iff.2 fun v hv => ?_, List.all_eq_true.2 fun v hv => ?_, fun j v hj => ?_⟩
    · unfold rdK
      rw [get_is (hx o _ ha)]
      show br (Nat.ble (off + n) N) _ false = _
      rw [Nat.ble_eq_true_of_le hle]
      exact k3 κ'
    · obtain ⟨j, hj⟩ := List.getElem?_of_mem hv
      exact (kk j v hj).1
    · obtain ⟨j, hj⟩ := List.getElem?_of_mem hv
      exact (kk j v hj).2.1
    · rw [toVs_get] at hj
      cases hv : vs[j]? with
      | none => rw [hv] at hj; cases hj
      | some u =>
        rw [hv] at hj; injection hj with hj; subst hj
        rw [cell_of_row w _ _ _ _ _ h1]; exact (kk j u hv).2.2
  | mp es c => cases e1
  | it m s1 s2 s3 => cases e1
  | lp a b c d e f => cases e1
  | df b => cases e1
  | dead => cases e1
/-- one cell read -/
theorem rd1_ok (hr : HR P w0 pd θ h nx w) {o off : Nat} {κ : AV → R} (ho : θ.has o) (e : rd1 o off h κ = true) :
    ∃ v, (∀ h', Ext h h' → ∀ κ', rd1 o off h' κ' = κ' v) ∧ κ v = true ∧ Ok θ v ∧ one v = true ∧ w.cell? ⟨θ.blk o, θ.bas o + off, none⟩ = some (toV θ v) := by
  obtain ⟨a, ha, e1⟩ := get_true e
  have hor := hr.obj_ ho ha
  cases a with
  | sm l =>
    obtain ⟨ty, h1, h2, h3, h4⟩ := hor
    simp only [nthK_eq] at e1
    cases hl : l[off]? with
    | none => rw [hl] at e1; cases e1
    | some v =>
      rw [hl] at e1
      have hm := List.mem_of_getElem? hl
      refine ⟨v, fun h' hx κ' => ?_, e1, Oks_iff.1 h3 v hm, List.all_eq_true.1 h4 v hm, ?_⟩
      · unfold rd1
        rw [get_is (hx o _ ha)]
        simp only [nthK_eq, hl]
      · rw [cell_of_row w _ _ _ _ _ h1, h2]; simp [toVs_get, hl]
  | ce N es z zl d t top sh =>
    obtain ⟨c, ty, fz, h1, h2, h3, h4, h5, h6⟩ := hor
    obtain ⟨hlt, e2⟩ := br_t e1
    have hlt : off < N := by simpa [Nat.blt_eq] using hlt
    obtain ⟨v, q1, q2, q3, q4⟩ := h3 off hlt
    rw [cellK_eq, q1] at e2
    refine ⟨v, fun h' hx κ' => ?_, e2, q2, q3, by rw [cell_of_row w _ _ _ _ _ h1]; exact q4⟩
    unfold rd1
    rw [get_is (hx o _ ha)]
    show br (Nat.blt off N) _ false = _
    rw [show Nat.blt off N = true by simpa [Nat.blt_eq] using hlt]
    show cellK z zl d t κ' off = _
    rw [cellK_eq, q1]
  | mp es c => cases e1
  | it m s1 s2 s3 => cases e1
  | lp a b c d e f => cases e1
  | df b => cases e1
  | dead => cases e1
theorem setL_same {α : Type} (x : α) : ∀ (n i : Nat) (t : L α n), getL α n i t = x → i < 8 ^ n → setL α x n i t = t
  | 0, _, _, h, _ => h.symm
  | n + 1, i, t, h, hi => by
    have hp : 0 < 8 ^ n := Nat.pow_pos (by omega)
    rw [Nat.pow_succ] at hi
    have hd : i / 8 ^ n < 8 := Nat.div_lt_of_lt_mul (by omega)
    have ih := setL_same x n (i % 8 ^ n) (ch (i / 8 ^ n) (t : N8 (L α n))) h (Nat.mod_lt _ hp)
    show sch (i / 8 ^ n) (setL α x n (i % 8 ^ n) (ch (i / 8 ^ n) (t : N8 (L α n)))) (t : N8 (L α n)) = t
    rw [ih]
    have key : ∀ (d : Nat) (t : N8 (L α n)), d < 8 → sch d (ch d t) t = t := by
      intro d t hd
      cases t
      rcases d with _ | _ | _ | _ | _ | _ | _ | _ | d <;> first | rfl | omega
    exact key _ _ hd
/-- the cells that a store wants are there, and may be written -/
def Fit (w : World) (b o n : Nat) : Prop := ∃ cur ty fz, w.heap[b]? = some (.cells cur ty fz) ∧ o + n ≤ cur.size ∧ ∀ i, i < cur.size → (fz.1 ≤ i && i < fz.2) = false
theorem Fit.store {b o : Nat} {vs : List Value} (hf : Fit w b o vs.length) (h1 : ∀ v ∈ vs, v.oneCell' = true) (P : Program) :
    (storeCells ⟨b, o, none⟩ vs 0).run P w = .ok () (w.setCells b o vs) := by
  obtain ⟨cur, ty, fz, e1, e2, e3⟩ := hf
  have := run_storeCells_cells (P := P) b o vs 0 w (fun j hj => by rw [cell_of_row w _ _ _ _ _ e1, Array.getElem?_eq_getElem (by omega)]; rfl)
    (fun j hj => by simp only [World.frozen?, e1]; exact e3 _ (by omega)) h1
  simpa using this
/-- cells written -/
theorem wr_ok (hr : HR P w0 pd θ h nx w) {o off : Nat} {vs : List AV} {κ : H → R} (ho : θ.has o) (hv : Oks θ vs) (hv1 : vs.all one = true) (e : wrK o off vs h κ = true) :
    ∃ h', κ h' = true ∧ HR P w0 pd θ h' nx (w.setCells (θ.blk o) (θ.bas o + off) (toVs θ vs)) ∧ Fit w (θ.blk o) (θ.bas o + off) (toVs θ vs).length := by
  obtain ⟨a, ha, e1⟩ := get_true e
  have hor := hr.obj_ ho ha
  cases a with
  | sm l =>
    obtain ⟨ty, h1, h2, h3, h4⟩ := hor
    simp only [putLK_eq, put_eq] at e1
    split at e1
    · rename_i hn
      have hsz : θ.bas o + off + (toVs θ vs).length ≤ (toVs θ l).toArray.size := by rw [h2]; simp; omega
      obtain ⟨cur', k1, k2, k3⟩ := setCells_blk (θ.blk o) ty (0, 0) (toVs θ vs) (θ.bas o + off) w _ h1 hsz
      refine ⟨_, e1, ?_, ⟨_, _, _, h1, hsz, fun i _ => by simp⟩⟩
      have hcur : cur' = (toVs θ (l.take off ++ vs ++ l.drop (off + vs.length))).toArray := by
        apply Array.ext_getElem?
        intro i
        rw [k3 i, h2]
        simp only [Nat.zero_add, toVs_length, List.getElem?_toArray]
        rw [toVs_get, toVs_get, toVs_get]
        have hto : (l.take off).length = off := by simp; omega
        by_cases c1 : off ≤ i ∧ i < off + vs.length
        · rw [if_pos c1, List.append_assoc, List.getElem?_append_right (by omega), hto, List.getElem?_append_left (by omega)]
        · rw [if_neg c1]
          by_cases c2 : i < off
          · rw [List.append_assoc, List.getElem?_append_left (by omega), List.getElem?_take_of_lt c2]
          · rw [List.append_assoc, List.getElem?_append_right (by omega), hto, List.getElem?_append_right (by omega), List.getElem?_drop]
            congr 2
            omega
      have hup := HR.upd hr ho ha rfl (w' := w.setCells (θ.blk o) (θ.bas o + off) (toVs θ vs)) (a' := .sm (l.take off ++ vs ++ l.drop (off + vs.length))) (setCells_plain _ _ _ _).2 (fun b hb => setCells_other _ _ _ _ b hb) (setCells_plain _ _ _ _).1
        ⟨ty, by rw [k1, hcur], h2, Oks_append.2 ⟨Oks_append.2 ⟨Oks_take _ h3, hv⟩, Oks_drop _ h3⟩, by simp only [List.all_append, all_take _ h4, hv1, all_drop _ h4, Bool.and_self]⟩ (fun x hx => by cases hx)
      exact hup
    · cases e1
  | ce N es z zl d t top sh =>
    obtain ⟨c, ty, fz, h1, h2, h3, h4, h5, h6⟩ := hor
    obtain ⟨htop, e1⟩ := br_t e1
    obtain ⟨hle, e1⟩ := br_t e1
    have hle : off + vs.length ≤ N := by have := Nat.le_of_ble_eq_true hle; rwa [lenN_eq] at this
    rw [setsT_eq, put_eq, killK_eq] at e1
    have hsz : N = 0 ∨ θ.bas o + N ≤ c.size := by
      cases N with
      | zero => exact .inl rfl
      | succ m =>
        obtain ⟨v, _, _, _, q⟩ := h3 m (by omega)
        have := (Array.getElem?_eq_some_iff.1 q).1
        exact .inr (by omega)
    have hbs : θ.bas o + off + (toVs θ vs).length ≤ c.size := by
      rw [toVs_length]
      rcases hsz with hz | hz
      · subst hz
        have h0 : off = 0 ∧ vs.length = 0 := by omega
        rcases Nat.eq_zero_or_pos es with hes | hes
        · have := (h5 hes).1; omega
        · have := (h6 (by omega)).2.2; omega
      · omega
    obtain ⟨cur', k1, k2, k3⟩ := setCells_blk (θ.blk o) ty fz (toVs θ vs) (θ.bas o + off) w _ h1 hbs
    refine ⟨_, e1, ?_, ⟨_, _, _, h1, hbs, h4.free⟩⟩
    have hx := HR.upd hr ho ha htop (w' := w.setCells (θ.blk o) (θ.bas o + off) (toVs θ vs)) (a' := .ce N es z zl d (setsF d vs off t) true []) (setCells_plain _ _ _ _).2 (fun b hb => setCells_other _ _ _ _ b hb) (setCells_plain _ _ _ _).1
      ⟨cur', ty, fz, k1, h2, fun i hi => ?_, by rw [k2]; exact h4, by rw [k2]; exact h5, by rw [k2]; exact h6⟩ (fun x hx => by cases hx)
    · exact hx
    · rw [cellO_setsF (by omega) (by omega), k3]
      by_cases c1 : off ≤ i ∧ i < off + vs.length
      · rw [if_pos c1, if_pos (by rw [toVs_length]; omega), show θ.bas o + i - (θ.bas o + off) = i - off by omega, toVs_get]
        have hl : i - off < vs.length := by omega
        refine ⟨vs[i - off], List.getElem?_eq_getElem hl, Oks_iff.1 hv _ (List.getElem_mem hl), List.all_eq_true.1 hv1 _ (List.getElem_mem hl), by rw [List.getElem?_eq_getElem hl]; rfl⟩
      · rw [if_neg c1, if_neg (by rw [toVs_length]; omega)]
        exact h3 i hi
  | mp es c => cases e1
  | it m s1 s2 s3 => cases e1
  | lp a b c d e f => cases e1
  | df b => cases e1
  | dead => cases e1
end
end Go.AM
