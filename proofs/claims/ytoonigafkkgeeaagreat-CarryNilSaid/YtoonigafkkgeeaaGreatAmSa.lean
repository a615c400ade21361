/-
  AM, 30: pieces done at once: what they are made of. Conditions: none.
-/
import Derived.Test.YtoonigafkkgeeaaGreatAmZb
namespace Go.AM
open Go

/-! ### Trees that agree everywhere -/
theorem ext_L {α : Type} : ∀ (n : Nat) (t u : L α n), (∀ i, i < 8 ^ n → getL α n i t = getL α n i u) → t = u
  | 0, t, u, h => h 0 (by simp)
  | n + 1, t, u, h => by
    have key : ∀ t u : N8 (L α n), (∀ c, c < 8 → ch c t = ch c u) → t = u := by
      intro t u hc
      cases t
      cases u
      have h0 := hc 0 (by omega)
      have h1 := hc 1 (by omega)
      have h2 := hc 2 (by omega)
      have h3 := hc 3 (by omega)
      have h4 := hc 4 (by omega)
      have h5 := hc 5 (by omega)
      have h6 := hc 6 (by omega)
      have h7 := hc 7 (by omega)
      simp only [ch] at h0 h1 h2 h3 h4 h5 h6 h7
      subst h0 h1 h2 h3 h4 h5 h6 h7
      rfl
    refine key t u fun c hc => ext_L n _ _ fun i hi => ?_
    have hp : 0 < 8 ^ n := Nat.pow_pos (by omega)
    have hlt : c * 8 ^ n + i < 8 ^ (n + 1) := by
      have : (c + 1) * 8 ^ n ≤ 8 * 8 ^ n := Nat.mul_le_mul_right _ (by omega)
      rw [Nat.pow_succ]
      rw [Nat.add_mul] at this
      omega
    have := h _ hlt
    have e1 : (c * 8 ^ n + i) / 8 ^ n = c := by
      rw [Nat.mul_comm, Nat.mul_add_div hp, Nat.div_eq_of_lt hi]; rfl
    have e2 : (c * 8 ^ n + i) % 8 ^ n = i := by
      rw [Nat.mul_comm, Nat.mul_add_mod, Nat.mod_eq_of_lt hi]
    have this : getL α n ((c * 8 ^ n + i) % 8 ^ n) (ch ((c * 8 ^ n + i) / 8 ^ n) (t : N8 (L α n))) = getL α n ((c * 8 ^ n + i) % 8 ^ n) (ch ((c * 8 ^ n + i) / 8 ^ n) (u : N8 (L α n))) := this
    rw [e1, e2] at this
    exact this

/-! ### Temporaries -/
abbrev eg (t : Nat) (en : Env) : AV := getL AV 3 t en
abbrev es (t : Nat) (v : AV) (en : Env) : Env := setL AV v 3 t en
theorem xT_eq (t : Nat) (en : Env) (κ : AV → R) : xT t en κ = κ (eg t en) := getK_eq κ 3 t en
theorem dT_eq (t : Nat) (v : AV) (en : Env) (κ : Env → R) : dT t v en κ = κ (es t v en) := setK_eq v 3 t en κ
theorem eg_es {t u : Nat} (v : AV) (en : Env) (ht : t < 512) (hu : u < 512) : eg t (es u v en) = if t = u then v else eg t en := by
  by_cases h : t = u
  · subst h; rw [if_pos rfl]; exact getL_setL v 3 t en
  · rw [if_neg h]; exact getL_setL_ne v 3 en hu ht h
/-- many are set, one behind the other -/
def esL : List (Nat × AV) → Env → Env
  | [], en => en
  | (t, v) :: l, en => esL l (es t v en)
noncomputable def setsK (l : List (Nat × AV)) : Env → (Env → R) → R :=
  @List.rec (Nat × AV) (fun _ => Env → (Env → R) → R) (fun en κ => κ en) (fun p _ ih en κ => match p with | (t, v) => setK AV v 3 t en fun en => ih en κ) l
theorem setsK_eq : ∀ (l : List (Nat × AV)) (en : Env) (κ : Env → R), setsK l en κ = κ (esL l en)
  | [], _, _ => rfl
  | (t, v) :: l, en, κ => by
    show setK AV v 3 t en (fun en => setsK l en κ) = _
    rw [setK_eq, setsK_eq l]; rfl
/-- the value that is set last -/
def lk (t : Nat) : List (Nat × AV) → AV → AV
  | [], d => d
  | (u, v) :: l, d => lk t l (if t = u then v else d)
theorem eg_esL {t : Nat} (ht : t < 512) : ∀ (l : List (Nat × AV)) (en : Env), (∀ p ∈ l, p.1 < 512) → eg t (esL l en) = lk t l (eg t en)
  | [], _, _ => rfl
  | (u, v) :: l, en, h => by
    show eg t (esL l (es u v en)) = lk t l (if t = u then v else eg t en)
    rw [eg_esL ht l _ (fun p hp => h p (List.mem_cons_of_mem _ hp)), eg_es v en ht (h _ (List.mem_cons_self ..))]
theorem lk_same {t : Nat} : ∀ (l : List (Nat × AV)) (d d' : AV), (∃ p ∈ l, p.1 = t) → lk t l d = lk t l d'
  | [], _, _, ⟨p, hp, _⟩ => by cases hp
  | (u, v) :: l, d, d', ⟨p, hp, hpt⟩ => by
    show lk t l (if t = u then v else d) = lk t l (if t = u then v else d')
    by_cases h : t = u
    · rw [if_pos h, if_pos h]
    · rw [if_neg h, if_neg h]
      rcases List.mem_cons.1 hp with rfl | hp
      · exact absurd hpt.symm h
      · exact lk_same l d d' ⟨p, hp, hpt⟩
theorem lk_none {t : Nat} : ∀ (l : List (Nat × AV)) (d : AV), (¬ ∃ p ∈ l, p.1 = t) → lk t l d = d
  | [], _, _ => rfl
  | (u, v) :: l, d, h => by
    show lk t l (if t = u then v else d) = d
    rw [if_neg (fun e => h ⟨_, List.mem_cons_self .., e.symm⟩)]
    exact lk_none l d fun ⟨p, hp, e⟩ => h ⟨p, List.mem_cons_of_mem _ hp, e⟩
/-- what was set is set anew -/
theorem esL_over {l1 l2 : List (Nat × AV)} (h1 : ∀ p ∈ l1, p.1 < 512) (h2 : ∀ p ∈ l2, p.1 < 512) (hs : ∀ p ∈ l1, ∃ q ∈ l2, q.1 = p.1) (en : Env) : esL l2 (esL l1 en) = esL l2 en := by
  refine ext_L 3 _ _ fun t ht => ?_
  have ht : t < 512 := ht
  show eg t _ = eg t _
  rw [eg_esL ht l2 _ h2, eg_esL ht l1 _ h1, eg_esL ht l2 _ h2]
  by_cases h : ∃ p ∈ l2, p.1 = t
  · exact lk_same l2 _ _ h
  · rw [lk_none l1 _ fun ⟨p, hp, e⟩ => h (let ⟨q, hq, e'⟩ := hs p hp; ⟨q, hq, e'.trans e⟩)]

/-! ### Runs -/
theorem run_add (tb : Tb) : ∀ (n m : Nat) (s : ASt) (κ : ASt → R), run tb (n + m) s κ = run tb n s fun s => run tb m s κ
  | 0, m, s, κ => by rw [Nat.zero_add]; rfl
  | n + 1, m, s, κ => by
    rw [show n + 1 + m = (n + m) + 1 by omega]
    show stepK tb s (fun s => run tb (n + m) s κ) = stepK tb s (fun s => run tb n s fun s => run tb m s κ)
    congr 1
    funext s
    exact run_add tb n m s κ
/-- from a state to another one -/
def To (tb : Tb) (s s' : ASt) : Prop := ∃ n, ∀ κ : ASt → R, κ s' = true → run tb n s κ = true
theorem To.refl (tb : Tb) (s : ASt) : To tb s s := ⟨0, fun _ h => h⟩
theorem To.trans {tb : Tb} {s s' s'' : ASt} : To tb s s' → To tb s' s'' → To tb s s''
  | ⟨n, h⟩, ⟨m, h'⟩ => ⟨n + m, fun κ hk => by rw [run_add]; exact h _ (h' κ hk)⟩

/-! ### Cells -/
theorem asN_i (k n : Nat) (κ : Nat → R) : asN κ (.i k (.ofNat n)) = κ n := rfl
theorem asB_b (c : Bool) (κ : Bool → R) : asB κ (.b c) = κ c := rfl
theorem asP_p (o i : Nat) (κ : Nat → Nat → R) : asP κ (.p o i) = κ o i := rfl
theorem asSl_sl (o i l : Nat) (c : Option Nat) (κ : Nat → Nat → Nat → Option Nat → R) : asSl κ (.sl o i l c) = κ o i l c := rfl
theorem cmLt_nat (a b : Nat) (κ : Bool → R) : cmLt (.ofNat a) (.ofNat b) κ = κ (Nat.blt a b) := rfl
/-- what lies in an object, cell by cell -/
def objC (h : H) (o off : Nat) : Option AV := match obj h o with
  | some (.sm l) => l[off]?
  | some (.ce N _ z zl d t _ _) => if off < N then cellO z zl d t off else none
  | _ => none
theorem rd1_eq {o off : Nat} {h : H} {v : AV} (hv : objC h o off = some v) (κ : AV → R) : rd1 o off h κ = κ v := by
  unfold objC at hv
  cases ho : obj h o with
  | none => rw [ho] at hv; cases hv
  | some a =>
    rw [ho] at hv
    unfold rd1
    rw [get_is ho]
    cases a with
    | sm l =>
      show nthK AV κ l off = κ v
      rw [nthK_eq]
      rw [show l[off]? = some v from hv]
    | ce N es z zl d t top sh =>
      have hv : (if off < N then cellO z zl d t off else none) = some v := hv
      split at hv
      · rename_i hlt
        show br (Nat.blt off N) (cellK z zl d t κ off) false = _
        rw [show Nat.blt off N = true by simpa [Nat.blt_eq] using hlt, brT, cellK_eq, hv]
      · cases hv
    | _ => cases hv
theorem rdK_cells {o off n : Nat} {h : H} {κ : List AV → R} (e : rdK o off n h κ = true) : ∃ l, l.length = n ∧ κ l = true ∧ ∀ j v, l[j]? = some v → objC h o (off + j) = some v := by
  obtain ⟨a, ha, e1⟩ := get_true e
  unfold objC
  rw [ha]
  cases a with
  | sm l =>
    simp only [dropL_eq, takeK_eq, List.length_drop] at e1
    split at e1
    · rename_i hn
      refine ⟨(l.drop off).take n, by simp; omega, e1, fun j v hj => ?_⟩
      rw [List.getElem?_take] at hj
      split at hj
      · rw [List.getElem?_drop] at hj; exact hj
      · cases hj
    · cases e1
  | ce N es z zl d t top sh =>
    obtain ⟨hle, e2⟩ := br_t e1
    have hle : off + n ≤ N := Nat.le_of_ble_eq_true hle
    obtain ⟨vs, k1, k2, k3⟩ := cellsT_true e2
    rw [k3] at e2
    refine ⟨vs, k1, e2, fun j v hj => ?_⟩
    have hjn : j < n := by rw [← k1]; exact (List.getElem?_eq_some_iff.1 hj).1
    show (if off + j < N then cellO z zl d t (off + j) else none) = _
    rw [if_pos (by omega)]
    exact k2 j v hj
  | _ => cases e1
end Go.AM
