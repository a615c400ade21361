/-
  AM, 30: pieces done at once: what they are made of. Conditions: none.
-/
import Derived.Test.YthdnombgdnpcbaaGreatAmZb
namespace Go.AM
open Go

/-! ### Trees that agree everywhere -/
theorem ext_L {α : Type} : ∀ (n : Nat) (t u : L α n), (∀ i, i < 8 ^ n → getL α n i t = getL α n i u) → t = u
  | 0, t, u, h => h 0 (by simp)
  | n + 1, t, u, h => by
    have key : ∀ t u : N8 (L α n), (∀ c, c < 8 → ch c t = ch c u) → t = u := by
      intro t u hc
      cases t
      cases u
      have h0 := hc 0 (by omega)
      have h1 := hc 1 (by omega)
      have h2 := hc 2 (by omega)
      have h3 := hc 3 (by omega)
      have h4 := hc 4 (by omega)
      have h5 := hc 5 (by omega)
      have h6 := hc 6 (by omega)
      have h7 := hc 7 (by omega)
      simp only [ch] at h0 h1 h2 h3 h4 h5 h6 h7
      subst h0 h1 h2 h3 h4 h5 h6 h7
      rfl
    refine key t u fun c hc => ext_L n _ _ fun i hi => ?_
    have hp : 0 < 8 ^ n := Nat.pow_pos (by omega)
    have hlt : c * 8 ^ n + i < 8 ^ (n + 1) := by
      have : (c + 1) * 8 ^ n ≤ 8 * 8 ^ n := Nat.mul_le_mul_right _ (by omega)
      rw [Nat.pow_succ]
      rw [Nat.add_mul] at this
      omega
    have := h _ hlt
    have e1 : (c * 8 ^ n + i) / 8 ^ n = c := by
      rw [Nat.mul_comm, Nat.mul_add_div hp, Nat.div_eq_of_lt hi]; rfl
    have e2 : (c * 8 ^ n + i) % 8 ^ n = i := by
      rw [Nat.mul_comm, Nat.mul_add_mod, Nat.mod_eq_of_lt hi]
    have this : getL α n ((c * 8 ^ n + i) % 8 ^ n) (ch ((c * 8 ^ n + i) / 8 ^ n) (t : N8 (L α n))) = getL α n ((c * 8 ^ n + i) % 8 ^ n) (ch ((c * 8 ^ n + i) / 8 ^ n) (u : N8 (L α n))) := this
    rw [e1, e2] at this
    exact this

/-! ### Temporaries -/
abbrev eg (t : Nat) (en : Env) : AV := getL AV 3 t en
abbrev es (t : Nat) (v : AV) (en : Env) : Env := setL AV v 3 t en
theorem xT_eq (t : Nat) (en : Env) (κ : AV → R) : xT t en κ = κ (eg t en) := getK_eq κ 3 t en
theorem dT_eq (t : Nat) (v : AV) (en : Env) (κ : Env → R) : dT t v en κ = κ (es t v en) := setK_eq v 3 t en κ
theorem eg_es {t u : Nat} (v : AV) (en : Env) (ht : t < 512) (hu : u < 512) : eg t (es u v en) = if t = u then v else eg t en := by
  by_cases h : t = u
  · subst h; rw [if_pos rfl]; exact getL_setL v 3 t en
  · rw [if_neg h]; exact getL_setL_ne v 3 en hu ht h
/-- many are set, one behind the other -/
def esL : List (Nat × AV) → Env → Env
  | [], en => en
  | (t, v) :: l, en => esL l (es t v en)
noncomputable def setsK (l : List (Nat × AV)) : Env → (Env → R) → R :=
  @List.rec (Nat × AV) (fun _ => Env → (Env → R) → R) (fun en κ => κ en) (fun p _ ih en κ => match p with | (t, v) => setK AV v 3 t en fun en => ih en κ) l
theorem setsK_eq : ∀ (l : List (Nat × AV)) (en : Env) (κ : Env → R), setsK l en κ = κ (esL l en)
  | [], _, _ => rfl
  | (t, v) :: l, en, κ => by
    show setK AV v 3 t en (fun en => setsK l en κ) = _
    rw [setK_eq, setsK_eq l]; rfl
/-- the value that is set last -/
def lk (t : Nat) : List (Nat × AV) → AV → AV
  | [], d => d
  | (u, v) :: l, d => lk t l (if t = u then v else d)
theorem eg_esL {t : Nat} (ht : t < 512) : ∀ (l : List (Nat × AV)) (en : Env), (∀ p ∈ l, p.1 < 512) → eg t (esL l en) = lk t l (eg t en)
  | [], _, _ => rfl
  | (u, v) :: l, en, h => by
    show eg t (esL l (es u v en)) = lk t l (if t = u then v else eg t en)
    rw [eg_esL ht l _ (fun p hp => h p (List.mem_cons_of_mem _ hp)), eg_es v en ht (h _ (List.mem_cons_self ..))]
theorem lk_same {t : Nat} : ∀ (l : List (Nat × AV)) (d d' : AV), (∃ p ∈ l, p.1 = t) → lk t l d = lk t l d'
  | [], _, _, ⟨p, hp, _⟩ => by cases hp
  | (u, v) :: l, d, d', ⟨p, hp, hpt⟩ => by
    show lk t l (if t = u then v else d) = lk t l (if t = u then v else d')
    by_cases h : t = u
    · rw [if_pos h, if_pos h]
    · rw [if_neg h, if_neg h]
      rcases List.mem_cons.1 hp with rfl | hp
      · exact absurd hpt.symm h
      · exact lk_same l d d' ⟨p, hp, hpt⟩
theorem lk_none {t : Nat} : ∀ (l : List (Nat × AV)) (d : AV), (¬ ∃ p ∈ l, p.1 = t) → lk t l d = d
  | [], _, _ => rfl
  | (u, v) :: l, d, h => by
    show lk t l (if t = u then v else d) = d
    rw [if_neg (fun e => h ⟨_, List.mem_cons_self .., e.symm⟩)]
    exact lk_none l d fun ⟨p, hp, e⟩ => h ⟨p, List.mem_cons_of_mem _ hp, e⟩
/-- what was set is set anew -/
theorem esL_over {l1 l2 : List (Nat × AV)} (h1 : ∀ p ∈ l1, p.1 < 512) (h2 : ∀ p ∈ l2, p.1 < 512) (hs : ∀ p ∈ l1, ∃ q ∈ l2, q.1 = p.1) (en : Env) : esL l2 (esL l1 en) = esL l2 en := by
  refine ext_L 3 _ _ fun t ht => ?_
  have ht : t < 512 := ht
  show eg t _ = eg t _
  rw [eg_esL ht l2 _ h2, eg_esL ht l1 _ h1, eg_esL ht l2 _ h2]
  by_cases h : ∃ p ∈ l2, p.1 = t
  · exact lk_same l2 _ _ h
  · rw [lk_none l1 _ fun ⟨p, hp, e⟩ => h (let ⟨q, hq, e'⟩ := hs p hp; ⟨q, hq, e'.trans e⟩)]

/-! ### Runs -/
theorem run_add (tb : Tb) : ∀ (n m : Nat) (s : ASt) (κ : ASt → R), run tb (n + m) s κ = run tb n s fun s => run tb m s κ
  | 0, m, s, κ => by rw [Nat.zero_add]; rfl
  | n + 1, m, s, κ => by
    rw [show n + 1 + m = (n + m) + 1 by omega]
    show stepK tb s (fun s => run tb (n + m) s κ) = stepK tb s (fun s => run tb n s fun s => run tb m s κ)
    congr 1
    funext s
    exact run_add tb n m s κ
/-- from a state to another one -/
def To (tb : Tb) (s s' : ASt) : Prop := ∃ n, ∀ κ : ASt → R, κ s' = true → run tb n s κ = true
theorem To.refl (tb : Tb) (s : ASt) : To tb s s := ⟨0, fun _ h => h⟩
theorem To.trans {tb : Tb} {s s' s'' : ASt} : To tb s s' → To tb s' s'' → To tb s s''
  | ⟨n, h⟩, ⟨m, h'⟩ => ⟨n + m, fun κ hk => by rw [run_add]; exact h _ (h' κ hk)⟩

/-! ### Cells -/
theorem asN_i (k n : Nat) (κ : Nat → R) : asN κ (.i k (.ofNat n)) = κ n := rfl
theorem asB_b (c : Bool) (κ : Bool → R) : asB κ (.b c) = κ c := rfl
theorem asP_p (o i : Nat) (κ : Nat → Nat → R) : asP κ (.p o i) = κ o i := rfl
theorem asSl_sl (o i l : Nat) (c : Option Nat) (κ : Nat → Nat → Nat → Option Nat → R) : asSl κ (.sl o i l c) = κ o i l c := rfl
theorem cmLt_nat (a b : Nat) (κ : Bool → R) : cmLt (.ofNat a) (.ofNat b) κ = κ (Nat.blt a b) := rfl
/-- what lies in an object, cell by cell -/
def objC (h : H) (o off : Nat) : Option AV := match obj h o with
  | some (.sm l) => l[off]?
  | some (.ce N _ z zl d t _ _) => if off < N then cellO z zl d t off else none
  | _ => none
theorem rd1_eq {o off : Nat} {h : H} {v : AV} (hv : objC h o off = some v) (κ : AV → R) : rd1 o off h κ = κ v := by
  unfold objC at hv
  cases ho : obj h o with
  | none => rw [ho] at hv; cases hv
  | some a =>
    rw [ho] at hv
    unfold rd1
    rw [get_is ho]
    cases a with
    | sm l =>
      show nthK AV κ l off = κ v
      rw [nthK_eq]
      rw [show l[off]? = some v from hv]
    | ce N es z zl d t top sh =>
      have hv : (if off < N then cellO z zl d t off else none) = some v := hv
      split at hv
      · rename_i hlt
        show br (Nat.blt off N) (cellK z zl d t κ off) false = _
        rw [show Nat.blt off N = true by simpa [Nat.blt_eq] using hlt, brT, cellK_eq, hv]
      · cases hv
    | _ => cases hv
theorem rdK_cells {o off n : Nat} {h : H} {κ : List AV → R} (e : rdK o off n h κ = true) : ∃ l, l.length = n ∧ κ l = true ∧ ∀ j v, l[j]? = some v → objC h o (off + j) = some v := by
  obtain ⟨a, ha, e1⟩ := get_true e
  unfold objC
  rw [ha]
  cases a with
  | sm l =>
    simp only [dropL_eq, takeK_eq, List.length_drop] at e1
    split at e1
    · rename_i hn
      refine ⟨(l.drop off).take n, by simp; omega, e1, fun j v hj => ?_⟩
      rw [List.getElem?_take] at hj
      split at hj
      · rw [List.getElem?_drop] at hj; exact hj
      · cases hj
    · cases e1
  | ce N es z zl d t top sh =>
    obtain ⟨hle, e2⟩ := br_t e1
    have hle : off + n ≤ N := Nat.le_of_ble_eq_true hle
    obtain ⟨vs, k1, k2, k3⟩ := cellsT_true e2
    rw [k3] at e2
    refine ⟨vs, k1, e2, fun j v hj => ?_⟩
    have hjn : j < n := by rw [← k1]; exact (List.getElem?_eq_some_iff.1 hj).1
    show (if off + j < N then cellO z zl d t (off + j) else none) = _
    rw [if_pos (by omega)]
    exact k2 j v hj
  | _ => cases e1
/-! ### A long row read at once -/
noncomputable def walk (z0 : AV) (d : Nat) : L (Option AV) d → List AV → (List AV → R) → R :=
  @Nat.rec (fun d => L (Option AV) d → List AV → (List AV → R) → R) (fun x acc κ => @Option.rec AV (fun _ => R) (κ (z0 :: acc)) (fun v => κ (v :: acc)) x)
    (fun n ih t acc κ => @N8.rec (L (Option AV) n) (fun _ => R) (fun a b c d e f g h => ih h acc fun acc => ih g acc fun acc => ih f acc fun acc => ih e acc fun acc => ih d acc fun acc => ih c acc fun acc => ih b acc fun acc => ih a acc κ) t) d
noncomputable def walkL (z0 : AV) (d : Nat) (l : List (L (Option AV) d)) : List AV → (List AV → R) → R :=
  @List.rec (L (Option AV) d) (fun _ => List AV → (List AV → R) → R) (fun acc κ => κ acc) (fun x _ ih acc κ => ih acc fun acc => walk z0 d x acc κ) l
def kids {α : Type} : N8 α → List α
  | .mk a b c d e f g h => [a, b, c, d, e, f, g, h]
def cellsL (z0 : AV) : (d : Nat) → L (Option AV) d → List AV
  | 0, x => [Option.getD (α := AV) x z0]
  | n + 1, t => (kids (t : N8 (L (Option AV) n))).flatMap (cellsL z0 n)
theorem walk_eq (z0 : AV) : ∀ (d : Nat) (t : L (Option AV) d) (acc : List AV) (κ : List AV → R), walk z0 d t acc κ = κ (cellsL z0 d t ++ acc)
  | 0, x, acc, κ => by
    have key : ∀ x : Option AV, @Option.rec AV (fun _ => R) (κ (z0 :: acc)) (fun v => κ (v :: acc)) x = κ ([x.getD z0] ++ acc) := by intro x; cases x <;> rfl
    exact key x
  | n + 1, t, acc, κ => by
    have ih := walk_eq z0 n
    have key : ∀ t : N8 (L (Option AV) n), @N8.rec (L (Option AV) n) (fun _ => R) (fun a b c d e f g h => walk z0 n h acc fun acc => walk z0 n g acc fun acc => walk z0 n f acc fun acc => walk z0 n e acc fun acc => walk z0 n d acc fun acc => walk z0 n c acc fun acc => walk z0 n b acc fun acc => walk z0 n a acc κ) t
        = κ ((kids t).flatMap (cellsL z0 n) ++ acc) := by
      intro t
      cases t
      simp only [ih, kids, List.flatMap_cons, List.flatMap_nil, List.append_assoc, List.append_nil, List.nil_append]
    exact key t
theorem walkL_eq (z0 : AV) (d : Nat) : ∀ (l : List (L (Option AV) d)) (acc : List AV) (κ : List AV → R), walkL z0 d l acc κ = κ (l.flatMap (cellsL z0 d) ++ acc)
  | [], _, _ => rfl
  | x :: l, acc, κ => by
    show walkL z0 d l acc (fun acc => walk z0 d x acc κ) = _
    rw [walkL_eq z0 d l, walk_eq, List.flatMap_cons, List.append_assoc]
theorem flat_get {α β : Type} {f : α → List β} {m : Nat} (hm : 0 < m) (hf : ∀ x, (f x).length = m) : ∀ (l : List α) (i : Nat), (l.flatMap f)[i]? = (l[i / m]?).bind fun x => (f x)[i % m]?
  | [], i => by simp
  | x :: l, i => by
    rw [List.flatMap_cons]
    by_cases h : i < m
    · rw [List.getElem?_append_left (by rw [hf]; exact h), Nat.div_eq_of_lt h, Nat.mod_eq_of_lt h]
      rfl
    · obtain ⟨j, rfl⟩ : ∃ j, i = j + m := ⟨i - m, by omega⟩
      rw [List.getElem?_append_right (by rw [hf]; omega), hf, Nat.add_sub_cancel, flat_get hm hf l j, Nat.add_div_right _ hm, Nat.add_mod_right]
      rfl
theorem cellsL_len (z0 : AV) : ∀ (d : Nat) (t : L (Option AV) d), (cellsL z0 d t).length = 8 ^ d
  | 0, _ => rfl
  | n + 1, t => by
    have key : ∀ t : N8 (L (Option AV) n), ((kids t).flatMap (cellsL z0 n)).length = 8 ^ (n + 1) := by
      intro t
      cases t
      simp only [kids, List.flatMap_cons, List.flatMap_nil, List.length_append, cellsL_len z0 n, List.length_nil, Nat.pow_succ]
      omega
    exact key t
theorem kids_get {α : Type} (t : N8 α) (i : Nat) (h : i < 8) : (kids t)[i]? = some (ch i t) := by
  cases t
  rcases i with _ | _ | _ | _ | _ | _ | _ | _ | i <;> first | rfl | omega
theorem cellsL_get (z0 : AV) : ∀ (d : Nat) (t : L (Option AV) d) (i : Nat), i < 8 ^ d → (cellsL z0 d t)[i]? = some ((getL (Option AV) d i t).getD z0)
  | 0, _, i, h => by
    have : i = 0 := by simp at h; omega
    subst this; rfl
  | n + 1, t, i, h => by
    have hp : 0 < 8 ^ n := Nat.pow_pos (by omega)
    have hd : i / 8 ^ n < 8 := Nat.div_lt_of_lt_mul (by rw [Nat.pow_succ] at h; exact h)
    have key : ∀ t : N8 (L (Option AV) n), ((kids t).flatMap (cellsL z0 n))[i]? = some ((getL (Option AV) n (i % 8 ^ n) (ch (i / 8 ^ n) t)).getD z0) := by
      intro t
      rw [flat_get hp (cellsL_len z0 n), kids_get t _ hd]
      exact cellsL_get z0 n _ _ (Nat.mod_lt _ hp)
    exact key t
/-- the first N cells of a tree; fb: where it is not so simple -/
noncomputable def walkN (z0 : AV) (N : Nat) (κ : List AV → R) (fb : R) (d : Nat) : L (Option AV) d → R :=
  @Nat.rec (fun d => L (Option AV) d → R) (fun _ => fb) (fun n ih t => @N8.rec (L (Option AV) n) (fun _ => R) (fun a b c e f g i j => br (Nat.ble N (Nat.pow 8 n)) (ih a)
    (fnat (Nat.div N (Nat.pow 8 n)) fun q => br (Nat.ble q 8) (br (Nat.beq (Nat.mul q (Nat.pow 8 n)) N) (takeK (L (Option AV) n) q [a, b, c, e, f, g, i, j] fun l => walkL z0 n l [] κ) fb) fb)) t) d
theorem walkN_true {z0 : AV} {N : Nat} {κ : List AV → R} {fb : R} : ∀ (d : Nat) (t : L (Option AV) d), walkN z0 N κ fb d t = true → fb = true ∨ ∃ l, l.length = N ∧ κ l = true ∧ ∀ j, j < N → l[j]? = some ((getL (Option AV) d j t).getD z0)
  | 0, _, e => .inl e
  | d + 1, t, e => by
    have ih := walkN_true (z0 := z0) (N := N) (κ := κ) (fb := fb) d
    have hp : 0 < 8 ^ d := Nat.pow_pos (by omega)
    have key : ∀ t : N8 (L (Option AV) d), @N8.rec (L (Option AV) d) (fun _ => R) (fun a b c e f g i j => br (Nat.ble N (Nat.pow 8 d)) (walkN z0 N κ fb d a)
        (fnat (Nat.div N (Nat.pow 8 d)) fun q => br (Nat.ble q 8) (br (Nat.beq (Nat.mul q (Nat.pow 8 d)) N) (takeK (L (Option AV) d) q [a, b, c, e, f, g, i, j] fun l => walkL z0 d l [] κ) fb) fb)) t = true →
        fb = true ∨ ∃ l, l.length = N ∧ κ l = true ∧ ∀ j, j < N → l[j]? = some ((getL (Option AV) d (j % 8 ^ d) (ch (j / 8 ^ d) t)).getD z0) := by
      intro t e
      have e : br (Nat.ble N (8 ^ d)) (walkN z0 N κ fb d (ch 0 t)) (fnat (N / 8 ^ d) fun q => br (Nat.ble q 8) (br (Nat.beq (q * 8 ^ d) N) (takeK (L (Option AV) d) q (kids t) fun l => walkL z0 d l [] κ) fb) fb) = true := by
        cases t; exact e
      rcases br_true e with ⟨b1, e1⟩ | ⟨_, e1⟩
      · have b1 : N ≤ 8 ^ d := Nat.le_of_ble_eq_true b1
        rcases ih _ e1 with h | ⟨l, h1, h2, h3⟩
        · exact .inl h
        · refine .inr ⟨l, h1, h2, fun j hj => ?_⟩
          rw [Nat.div_eq_of_lt (by omega), Nat.mod_eq_of_lt (by omega)]
          exact h3 j hj
      · rw [fnat_eq] at e1
        rcases br_true e1 with ⟨b3, e2⟩ | ⟨_, e2⟩
        rotate_left
        · exact .inl e2
        rcases br_true e2 with ⟨b4, e3⟩ | ⟨_, e3⟩
        rotate_left
        · exact .inl e3
        have b3 : N / 8 ^ d ≤ 8 := Nat.le_of_ble_eq_true b3
        have b4 : N / 8 ^ d * 8 ^ d = N := Nat.eq_of_beq_eq_true b4
        have hk8 : (kids t).length = 8 := by cases t; rfl
        rw [takeK_eq, if_pos (by rw [hk8]; exact b3), walkL_eq, List.append_nil] at e3
        have hlen : (((kids t).take (N / 8 ^ d)).flatMap (cellsL z0 d)).length = N := by
          have : ∀ l : List (L (Option AV) d), (l.flatMap (cellsL z0 d)).length = l.length * 8 ^ d := by
            intro l
            induction l with
            | nil => simp
            | cons x l ih => rw [List.flatMap_cons, List.length_append, ih, cellsL_len, List.length_cons, Nat.add_mul]; omega
          rw [this, List.length_take, hk8, Nat.min_eq_left b3, b4]
        refine .inr ⟨_, hlen, e3, fun j hj => ?_⟩
        have hq : j / 8 ^ d < N / 8 ^ d := by
          rw [Nat.div_lt_iff_lt_mul hp, b4]; exact hj
        rw [flat_get hp (cellsL_len z0 d), List.getElem?_take_of_lt hq, kids_get _ _ (by omega)]
        exact cellsL_get z0 d _ _ (Nat.mod_lt _ hp)
    exact key t e
/-- the first cells of an object, all at once where it is as make leaves it -/
noncomputable def rdQ (o n : Nat) (h : H) (κ : List AV → R) : R := get o h fun a => match a with
  | .ce N _ z zl d t _ _ => (match z with
      | [z0] => br (Nat.beq zl 1) (br (Nat.ble n N) (walkN z0 n κ (rdK o 0 n h κ) d t) (rdK o 0 n h κ)) (rdK o 0 n h κ)
      | _ => rdK o 0 n h κ)
  | _ => rdK o 0 n h κ
theorem rdQ_cells {o n : Nat} {h : H} {κ : List AV → R} (e : rdQ o n h κ = true) : ∃ l, l.length = n ∧ κ l = true ∧ ∀ j v, l[j]? = some v → objC h o j = some v := by
  have slow : rdK o 0 n h κ = true → ∃ l, l.length = n ∧ κ l = true ∧ ∀ j v, l[j]? = some v → objC h o j = some v := fun e => by
    obtain ⟨l, h1, h2, h3⟩ := rdK_cells e
    exact ⟨l, h1, h2, fun j v hj => by have := h3 j v hj; rwa [Nat.zero_add] at this⟩
  obtain ⟨a, ha, e1⟩ := get_true e
  cases a <;> first | exact slow e1 | skip
  rename_i N es z zl d t top sh
  match z, e1, ha with
  | [], e1, _ => exact slow e1
  | _ :: _ :: _, e1, _ => exact slow e1
  | [z0], e1, ha =>
    have e1 : br (Nat.beq zl 1) (br (Nat.ble n N) (walkN z0 n κ (rdK o 0 n h κ) d t) (rdK o 0 n h κ)) (rdK o 0 n h κ) = true := e1
    rcases br_true e1 with ⟨b1, e2⟩ | ⟨_, e2⟩
    rotate_left
    · exact slow e2
    rcases br_true e2 with ⟨b2, e3⟩ | ⟨_, e3⟩
    rotate_left
    · exact slow e3
    have b1 := Nat.eq_of_beq_eq_true b1
    have b2 : n ≤ N := Nat.le_of_ble_eq_true b2
    subst b1
    rcases walkN_true d t e3 with h | ⟨l, h1, h2, h3⟩
    · exact slow h
    refine ⟨l, h1, h2, fun j v hj => ?_⟩
    have hjn : j < n := by rw [← h1]; exact (List.getElem?_eq_some_iff.1 hj).1
    rw [h3 j hjn] at hj
    injection hj with hj
    unfold objC
    rw [ha]
    show (if j < N then cellO [z0] 1 d t j else none) = some v
    rw [if_pos (by omega)]
    unfold cellO
    rw [← hj]
    cases hg : getL (Option AV) d j t with
    | none => simp [Nat.mod_one]
    | some u => rfl
noncomputable def rdP (o off n : Nat) (h : H) (κ : List AV → R) : R := @Nat.rec (fun _ => R) (rdQ o n h κ) (fun _ _ => rdK o off n h κ) off
theorem rdP_cells {o off n : Nat} {h : H} {κ : List AV → R} (e : rdP o off n h κ = true) : ∃ l, l.length = n ∧ κ l = true ∧ ∀ j v, l[j]? = some v → objC h o (off + j) = some v := by
  cases off with
  | zero =>
    obtain ⟨l, h1, h2, h3⟩ := rdQ_cells (show rdQ o n h κ = true from e)
    exact ⟨l, h1, h2, fun j v hj => by rw [Nat.zero_add]; exact h3 j v hj⟩
  | succ k => exact rdK_cells (show rdK o (k + 1) n h κ = true from e)
end Go.AM
