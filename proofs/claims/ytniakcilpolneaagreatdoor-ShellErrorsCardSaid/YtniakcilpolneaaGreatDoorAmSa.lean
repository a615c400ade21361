/-
  AM, 30: pieces done at once: what they are made of. Conditions: none.
-/
import Derived.Test.YtniakcilpolneaaGreatDoorAmZb
namespace Go.AM
open Go

/-! ### Trees that agree everywhere -/
theorem ext_L {α : Type} : ∀ (n : Nat) (t u : L α n), (∀ i, i < 8 ^ n → getL α n i t = getL α n i u) → t = u
  | 0, t, u, h => h 0 (by simp)
  | n + 1, t, u, h => by
    have key : ∀ t u : N8 (L α n), (∀ c, c < 8 → ch c t = ch c u) → t = u := by
      intro t u hc
      cases t
      cases u
      have h0 := hc 0 (by omega)
      have h1 := hc 1 (by omega)
      have h2 := hc 2 (by omega)
      have h3 := hc 3 (by omega)
      have h4 := hc 4 (by omega)
      have h5 := hc 5 (by omega)
      have h6 := hc 6 (by omega)
      have h7 := hc 7 (by omega)
      simp only [ch] at h0 h1 h2 h3 h4 h5 h6 h7
      subst h0 h1 h2 h3 h4 h5 h6 h7
      rfl
    refine key t u fun c hc => ext_L n _ _ fun i hi => ?_
    have hp : 0 < 8 ^ n := Nat.pow_pos (by omega)
    have hlt : c * 8 ^ n + i < 8 ^ (n + 1) := by
      have : (c + 1) * 8 ^ n ≤ 8 * 8 ^ n := Nat.mul_le_mul_right _ (by omega)
      rw [Nat.pow_succ]
      rw [Nat.add_mul] at this
      omega
    have := h _ hlt
    have e1 : (c * 8 ^ n + i) / 8 ^ n = c := by
      rw [Nat.mul_comm, Nat.mul_add_div hp, Nat.div_eq_of_lt hi]; rfl
    have e2 : (c * 8 ^ n + i) % 8 ^ n = i := by
      rw [Nat.mul_comm, Nat.mul_add_mod, Nat.mod_eq_of_lt hi]
    have this : getL α n ((c * 8 ^ n + i) % 8 ^ n) (ch ((c * 8 ^ n + i) / 8 ^ n) (t : N8 (L α n))) = getL α n ((c * 8 ^ n + i) % 8 ^ n) (ch ((c * 8 ^ n + i) / 8 ^ n) (u : N8 (L α n))) := this
    rw [e1, e2] at this
    exact this

/-! ### Temporaries -/
abbrev eg (t : Nat) (en : Env) : AV := getL AV 3 t en
abbrev es (t : Nat) (v : AV) (en : Env) : Env := setL AV v 3 t en
theorem xT_eq (t : Nat) (en : Env) (κ : AV → R) : xT t en κ = κ (eg t en) := getK_eq κ 3 t en
theorem dT_eq (t : Nat) (v : AV) (en : Env) (κ : Env → R) : dT t v en κ = κ (es t v en) := setK_eq v 3 t en κ
theorem eg_es {t u : Nat} (v : AV) (en : Env) (ht : t < 512) (hu : u < 512) : eg t (es u v en) = if t = u then v else eg t en := by
  by_cases h : t = u
  · subst h; rw [if_pos rfl]; exact getL_setL v 3 t en
  · rw [if_neg h]; exact getL_setL_ne v 3 en hu ht h
/-- many are set, one behind the other -/
def esL : List (Nat × AV) → Env → Env
  | [], en => en
  | (t, v) :: l, en => esL l (es t v en)
noncomputable def setsK (l : List (Nat × AV)) : Env → (Env → R) → R :=
  @List.rec (Nat × AV) (fun _ => Env → (Env → R) → R) (fun en κ => κ en) (fun p _ ih en κ => match p with | (t, v) => setK AV v 3 t en fun en => ih en κ) l
theorem setsK_eq : ∀ (l : List (Nat × AV)) (en : Env) (κ : Env → R), setsK l en κ = κ (esL l en)
  | [], _, _ => rfl
  | (t, v) :: l, en, κ => by
    show setK AV v 3 t en (fun en => setsK l en κ) = _
    rw [setK_eq, setsK_eq l]; rfl
/-- the value that is set last -/
def lk (t : Nat) : List (Nat × AV) → AV → AV
  | [], d => d
  | (u, v) :: l, d => lk t l (if t = u then v else d)
theorem eg_esL {t : Nat} (ht : t < 512) : ∀ (l : List (Nat × AV)) (en : Env), (∀ p ∈ l, p.1 < 512) → eg t (esL l en) = lk t l (eg t en)
  | [], _, _ => rfl
  | (u, v) :: l, en, h => by
    show eg t (esL l (es u v en)) = lk t l (if t = u then v else eg t en)
    rw [eg_esL ht l _ (fun p hp => h p (List.mem_cons_of_mem _ hp)), eg_es v en ht (h _ (List.mem_cons_self ..))]
theorem lk_same {t : Nat} : ∀ (l : List (Nat × AV)) (d d' : AV), (∃ p ∈ l, p.1 = t) → lk t l d = lk t l d'
  | [], _, _, ⟨p, hp, _⟩ => by cases hp
  | (u, v) :: l, d, d', ⟨p, hp, hpt⟩ => by
    show lk t l (if t = u then v else d) = lk t l (if t = u then v else d')
    by_cases h : t = u
    · rw [if_pos h, if_pos h]
    · rw [if_neg h, if_neg h]
      rcases List.mem_cons.1 hp with rfl | hp
      · exact absurd hpt.symm h
      · exact lk_same l d d' ⟨p, hp, hpt⟩
theorem lk_none {t : Nat} : ∀ (l : List (Nat × AV)) (d : AV), (¬ ∃ p ∈ l, p.1 = t) → lk t l d = d
  | [], _, _ => rfl
  | (u, v) :: l, d, h => by
    show lk t l (if t = u then v else d) = d
    rw [if_neg (fun e => h ⟨_, List.mem_cons_self .., e.symm⟩)]
    exact lk_none l d fun ⟨p, hp, e⟩ => h ⟨p, List.mem_cons_of_mem _ hp, e⟩
/-- what was set is set anew -/
theorem esL_over {l1 l2 : List (Nat × AV)} (h1 : ∀ p ∈ l1, p.1 < 512) (h2 : ∀ p ∈ l2, p.1 < 512) (hs : ∀ p ∈ l1, ∃ q ∈ l2, q.1 = p.1) (en : Env) : esL l2 (esL l1 en) = esL l2 en := by
  refine ext_L 3 _ _ fun t ht => ?_
  have ht : t < 512 := ht
  show eg t _ = eg t _
  rw [eg_esL ht l2 _ h2, eg_esL ht l1 _ h1, eg_esL ht l2 _ h2]
  by_cases h : ∃ p ∈ l2, p.1 = t
  · exact lk_same l2 _ _ h
  · rw [lk_none l1 _ fun ⟨p, hp, e⟩ => h (let ⟨q, hq, e'⟩ := hs p hp; ⟨q, hq, e'.trans e⟩)]

/-! ### Runs -/
theorem run_add (tb : Tb) : ∀ (n m : Nat) (s : ASt) (κ : ASt → R), run tb (n + m) s κ = run tb n s fun s => run tb m s κ
  | 0, m, s, κ => by rw [Nat.zero_add]; rfl
  | n + 1, m, s, κ => by
    rw [show n + 1 + m = (n + m) + 1 by omega]
    show stepK tb s (fun s => run tb (n + m) s κ) = stepK tb s (fun s => run tb n s fun s => run tb m s κ)
    congr 1
    funext s
    exact run_add tb n m s κ
/-- from a state to another one -/
def To (tb : Tb) (s s' : ASt) : Prop := ∃ n, ∀ κ : ASt → R, κ s' = true → run tb n s κ = true
theorem To.refl (tb : Tb) (s : ASt) : To tb s s := ⟨0, fun _ h => h⟩
theorem To.trans {tb : Tb} {s s' s'' : ASt} : To tb s s' → To tb s' s'' → To tb s s''
  | ⟨n, h⟩, ⟨m, h'⟩ => ⟨n + m, fun κ hk => by rw [run_add]; exact h _ (h' κ hk)⟩

/-! ### Cells -/
theorem asN_i (k n : Nat) (κ : Nat → R) : asN κ (.i k (.ofNat n)) = κ n := rfl
theorem ltV_ii (k : Nat) (a b : Int) (κ : AV → R) : ltV k (.i k a) (.i k b) κ = cmLt a b fun c => κ (.b c) := by
  rw [ltV_old rfl (fun _ _ h => by cases h) rfl, asK_i, asK_i]; simp only [fbool_eq]
theorem geV_ii (k : Nat) (a b : Int) (κ : AV → R) : geV k (.i k a) (.i k b) κ = cmLe b a fun c => κ (.b c) := by
  have e : geV k (.i k a) (.i k b) κ = asK k (fun a => asK k (fun b => cmLe b a fun c => fbool c fun c => κ (.b c)) (.i k b)) (.i k a) := rfl
  rw [e, asK_i, asK_i]; simp only [fbool_eq]
theorem eqV_ii (neg : Bool) (k : Nat) (a b : Int) (κ : AV → R) : eqV neg k (.i k a) (.i k b) κ = cmEq a b fun c => κ (.b (eqB neg (not' c))) := by
  have e : eqV neg k (.i k a) (.i k b) κ = asK k (fun a => asK k (fun b => cmEq a b fun c => fbool (eqB neg (not' c)) fun c => κ (.b c)) (.i k b)) (.i k a) := rfl
  rw [e, asK_i, asK_i]; simp only [fbool_eq]
theorem laV_ii (f : ArF) (g : LaF) (k : Nat) (a b : Int) (κ : AV → R) : laV f g k (.i k a) (.i k b) κ = f k a b fun r => κ (.i k r) := by
  have e : laV f g k (.i k a) (.i k b) κ = asK k (fun a => asK k (fun b => f k a b fun r => κ (.i k r)) (.i k b)) (.i k a) := rfl
  rw [e, asK_i, asK_i]
theorem adV_ii (k : Nat) (a b : Int) (κ : AV → R) : adV k (.i k a) (.i k b) κ = arAdd k a b fun r => κ (.i k r) := laV_ii arAdd laAdd k a b κ
theorem ldV_p (h : H) (o i : Nat) (κ : AV → R) : ldV h (.p o i) κ = rd1 o i h κ := rfl
theorem asB_b (c : Bool) (κ : Bool → R) : asB κ (.b c) = κ c := rfl
theorem asP_p (o i : Nat) (κ : Nat → Nat → R) : asP κ (.p o i) = κ o i := rfl
theorem asSl_sl (o i l : Nat) (c : Option Nat) (κ : Nat → Nat → Nat → Option Nat → R) : asSl κ (.sl o i l c) = κ o i l c := rfl
theorem cmLt_nat (a b : Nat) (κ : Bool → R) : cmLt (.ofNat a) (.ofNat b) κ = κ (Nat.blt a b) := rfl
/-- what lies in an object, cell by cell -/
def objC (h : H) (o off : Nat) : Option AV := match obj h o with
  | some (.sm l) => l[off]?
  | some (.st _ l) => l[off]?
  | some (.ce N _ z zl d t _ _) => if off < N then cellO z zl d t off else none
  | _ => none
theorem rd1_eq {o off : Nat} {h : H} {v : AV} (hv : objC h o off = some v) (κ : AV → R) : rd1 o off h κ = κ v := by
  unfold objC at hv
  cases ho : obj h o with
  | none => rw [ho] at hv; cases hv
  | some a =>
    rw [ho] at hv
    unfold rd1
    rw [get_is ho]
    cases a with
    | sm l =>
      show nthK AV κ l off = κ v
      rw [nthK_eq]
      rw [show l[off]? = some v from hv]
    | st t0 l =>
      show nthK AV κ l off = κ v
      rw [nthK_eq]
      rw [show l[off]? = some v from hv]
    | bt t0 l => cases hv
    | ce N es z zl d t top sh =>
      have hv : (if off < N then cellO z zl d t off else none) = some v := hv
      split at hv
      · rename_i hlt
        show br (Nat.blt off N) (cellK z zl d t κ off) false = _
        rw [show Nat.blt off N = true by simpa [Nat.blt_eq] using hlt, brT, cellK_eq, hv]
      · cases hv
    | _ => cases hv
theorem rdK_cells {o off n : Nat} {h : H} {κ : List AV → R} (e : rdK o off n h κ = true) : ∃ l, l.length = n ∧ κ l = true ∧ ∀ j v, l[j]? = some v → objC h o (off + j) = some v := by
  obtain ⟨a, ha, e1⟩ := get_true e
  unfold objC
  rw [ha]
  cases a with
  | sm l =>
    simp only [dropL_eq, takeK_eq, List.length_drop] at e1
    split at e1
    · rename_i hn
      refine ⟨(l.drop off).take n, by simp; omega, e1, fun j v hj => ?_⟩
      rw [List.getElem?_take] at hj
      split at hj
      · rw [List.getElem?_drop] at hj; exact hj
      · cases hj
    · cases e1
  | st t0 l =>
    simp only [dropL_eq, takeK_eq, List.length_drop] at e1
    split at e1
    · rename_i hn
      refine ⟨(l.drop off).take n, by simp; omega, e1, fun j v hj => ?_⟩
      rw [List.getElem?_take] at hj
      split at hj
      · rw [List.getElem?_drop] at hj; exact hj
      · cases hj
    · cases e1
  | bt t0 l => cases e1
  | ce N es z zl d t top sh =>
    obtain ⟨hle, e2⟩ := br_t e1
    have hle : off + n ≤ N := Nat.le_of_ble_eq_true hle
    obtain ⟨vs, k1, k2, k3⟩ := cellsT_true e2
    rw [k3] at e2
    refine ⟨vs, k1, e2, fun j v hj => ?_⟩
    have hjn : j < n := by rw [← k1]; exact (List.getElem?_eq_some_iff.1 hj).1
    show (if off + j < N then cellO z zl d t (off + j) else none) = _
    rw [if_pos (by omega)]
    exact k2 j v hj
  | _ => cases e1
/-! ### A long row read at once: its noughts by the stretch -/
def kids {α : Type} : N8 α → List α
  | .mk a b c d e f g h => [a, b, c, d, e, f, g, h]
def cellsL (z0 : AV) : (d : Nat) → L (Option AV) d → List AV
  | 0, x => [Option.getD (α := AV) x z0]
  | n + 1, t => (kids (t : N8 (L (Option AV) n))).flatMap (cellsL z0 n)
theorem flat_get {α β : Type} {f : α → List β} {m : Nat} (hm : 0 < m) (hf : ∀ x, (f x).length = m) : ∀ (l : List α) (i : Nat), (l.flatMap f)[i]? = (l[i / m]?).bind fun x => (f x)[i % m]?
  | [], i => by simp
  | x :: l, i => by
    rw [List.flatMap_cons]
    by_cases h : i < m
    · rw [List.getElem?_append_left (by rw [hf]; exact h), Nat.div_eq_of_lt h, Nat.mod_eq_of_lt h]
      rfl
    · obtain ⟨j, rfl⟩ : ∃ j, i = j + m := ⟨i - m, by omega⟩
      rw [List.getElem?_append_right (by rw [hf]; omega), hf, Nat.add_sub_cancel, flat_get hm hf l j, Nat.add_div_right _ hm, Nat.add_mod_right]
      rfl
theorem cellsL_len (z0 : AV) : ∀ (d : Nat) (t : L (Option AV) d), (cellsL z0 d t).length = 8 ^ d
  | 0, _ => rfl
  | n + 1, t => by
    have key : ∀ t : N8 (L (Option AV) n), ((kids t).flatMap (cellsL z0 n)).length = 8 ^ (n + 1) := by
      intro t
      cases t
      simp only [kids, List.flatMap_cons, List.flatMap_nil, List.length_append, cellsL_len z0 n, List.length_nil, Nat.pow_succ]
      omega
    exact key t
theorem kids_get {α : Type} (t : N8 α) (i : Nat) (h : i < 8) : (kids t)[i]? = some (ch i t) := by
  cases t
  rcases i with _ | _ | _ | _ | _ | _ | _ | _ | i <;> first | rfl | omega
theorem cellsL_get (z0 : AV) : ∀ (d : Nat) (t : L (Option AV) d) (i : Nat), i < 8 ^ d → (cellsL z0 d t)[i]? = some ((getL (Option AV) d i t).getD z0)
  | 0, _, i, h => by
    have : i = 0 := by simp at h; omega
    subst this; rfl
  | n + 1, t, i, h => by
    have hp : 0 < 8 ^ n := Nat.pow_pos (by omega)
    have hd : i / 8 ^ n < 8 := Nat.div_lt_of_lt_mul (by rw [Nat.pow_succ] at h; exact h)
    have key : ∀ t : N8 (L (Option AV) n), ((kids t).flatMap (cellsL z0 n))[i]? = some ((getL (Option AV) n (i % 8 ^ n) (ch (i / 8 ^ n) t)).getD z0) := by
      intro t
      rw [flat_get hp (cellsL_len z0 n), kids_get t _ hd]
      exact cellsL_get z0 n _ _ (Nat.mod_lt _ hp)
    exact key t
/-- a stretch of noughts, or a value -/
inductive Ck where
  | z (n : Nat)
  | v (v : AV)
def expand : List Ck → List AV
  | [] => []
  | .z n :: r => List.replicate n (.i 3 (.ofNat 0)) ++ expand r
  | .v v :: r => v :: expand r
theorem expand_append : ∀ a b : List Ck, expand (a ++ b) = expand a ++ expand b
  | [], _ => rfl
  | .z n :: r, b => by simp only [List.cons_append, expand, expand_append r b, List.append_assoc]
  | .v v :: r, b => by simp only [List.cons_append, expand, expand_append r b]
noncomputable def isZ0 (v : AV) : Bool := match v with
  | .i k n => @Bool.rec (fun _ => Bool) false (@Int.rec (fun _ => Bool) (fun n => Nat.beq n 0) (fun _ => false) n) (Nat.beq k 3)
  | _ => false
theorem isZ0_eq {v : AV} (h : isZ0 v = true) : v = .i 3 (.ofNat 0) := by
  cases v <;> first | (cases h; done) | skip
  rename_i k n
  have h : (@Bool.rec (fun _ => Bool) false (@Int.rec (fun _ => Bool) (fun n => Nat.beq n 0) (fun _ => false) n) (Nat.beq k 3)) = true := h
  cases hk : Nat.beq k 3 with
  | false => rw [hk] at h; cases h
  | true =>
    rw [hk] at h
    have hk := Nat.eq_of_beq_eq_true hk
    subst hk
    cases n with
    | negSucc n => cases h
    | ofNat n => have := Nat.eq_of_beq_eq_true (show Nat.beq n 0 = true from h); subst this; rfl
noncomputable def isZo (x : Option AV) : Bool := @Option.rec AV (fun _ => Bool) true isZ0 x
theorem isZo_eq {x : Option AV} (h : isZo x = true) : x.getD (.i 3 (.ofNat 0)) = .i 3 (.ofNat 0) := by
  cases x with
  | none => rfl
  | some v => exact isZ0_eq h
noncomputable def and' (a b : Bool) : Bool := @Bool.rec (fun _ => Bool) false b a
theorem and'_true {a b : Bool} (h : and' a b = true) : a = true ∧ b = true := by
  cases a
  · cases h
  · exact ⟨rfl, h⟩
/-- nothing but noughts -/
noncomputable def allZ (d : Nat) : L (Option AV) d → Bool :=
  @Nat.rec (fun d => L (Option AV) d → Bool) isZo (fun n ih t => @N8.rec (L (Option AV) n) (fun _ => Bool) (fun a b c d e f g h => and' (ih a) (and' (ih b) (and' (ih c) (and' (ih d) (and' (ih e) (and' (ih f) (and' (ih g) (ih h)))))))) t) d
theorem allZ_cells : ∀ (d : Nat) (t : L (Option AV) d), allZ d t = true → cellsL (.i 3 (.ofNat 0)) d t = List.replicate (8 ^ d) (.i 3 (.ofNat 0))
  | 0, x, h => by
    show [Option.getD (α := AV) x _] = _
    rw [isZo_eq h]; rfl
  | n + 1, t, h => by
    have ih := allZ_cells n
    have key : ∀ t : N8 (L (Option AV) n), @N8.rec (L (Option AV) n) (fun _ => Bool) (fun a b c d e f g h => and' (allZ n a) (and' (allZ n b) (and' (allZ n c) (and' (allZ n d) (and' (allZ n e) (and' (allZ n f) (and' (allZ n g) (allZ n h)))))))) t = true →
        (kids t).flatMap (cellsL (.i 3 (.ofNat 0)) n) = List.replicate (8 ^ (n + 1)) (.i 3 (.ofNat 0)) := by
      intro t h
      cases t
      obtain ⟨h1, h⟩ := and'_true h
      obtain ⟨h2, h⟩ := and'_true h
      obtain ⟨h3, h⟩ := and'_true h
      obtain ⟨h4, h⟩ := and'_true h
      obtain ⟨h5, h⟩ := and'_true h
      obtain ⟨h6, h⟩ := and'_true h
      obtain ⟨h7, h8⟩ := and'_true h
      simp only [kids, List.flatMap_cons, List.flatMap_nil, ih _ h1, ih _ h2, ih _ h3, ih _ h4, ih _ h5, ih _ h6, ih _ h7, ih _ h8, List.append_nil, List.replicate_append_replicate, Nat.pow_succ]
      congr 1
      omega
    exact key t h
/-- a tree's stretches, ahead of those behind it -/
noncomputable def walk (d : Nat) : L (Option AV) d → List Ck → (List Ck → R) → R :=
  @Nat.rec (fun d => L (Option AV) d → List Ck → (List Ck → R) → R) (fun x acc κ => br (isZo x) (κ (.z 1 :: acc)) (@Option.rec AV (fun _ => R) false (fun v => κ (.v v :: acc)) x))
    (fun n ih t acc κ => br (allZ (Nat.succ n) t) (fnat (Nat.pow 8 (Nat.succ n)) fun m => κ (.z m :: acc))
      (@N8.rec (L (Option AV) n) (fun _ => R) (fun a b c d e f g h => ih h acc fun acc => ih g acc fun acc => ih f acc fun acc => ih e acc fun acc => ih d acc fun acc => ih c acc fun acc => ih b acc fun acc => ih a acc κ) t)) d
noncomputable def walkL (d : Nat) (l : List (L (Option AV) d)) : List Ck → (List Ck → R) → R :=
  @List.rec (L (Option AV) d) (fun _ => List Ck → (List Ck → R) → R) (fun acc κ => κ acc) (fun x _ ih acc κ => ih acc fun acc => walk d x acc κ) l
theorem walk_true : ∀ (d : Nat) (t : L (Option AV) d) (acc : List Ck) (κ : List Ck → R), walk d t acc κ = true → ∃ cs, κ cs = true ∧ expand cs = cellsL (.i 3 (.ofNat 0)) d t ++ expand acc
  | 0, x, acc, κ, e => by
    have key : ∀ x : Option AV, br (isZo x) (κ (.z 1 :: acc)) (@Option.rec AV (fun _ => R) false (fun v => κ (.v v :: acc)) x) = true → ∃ cs, κ cs = true ∧ expand cs = [x.getD (.i 3 (.ofNat 0))] ++ expand acc := by
      intro x e
      rcases br_true e with ⟨h, e1⟩ | ⟨_, e1⟩
      · exact ⟨_, e1, by rw [isZo_eq h]; rfl⟩
      · cases x with
        | none => cases e1
        | some v => exact ⟨_, e1, rfl⟩
    exact key x e
  | n + 1, t, acc, κ, e => by
    have ih := walk_true n
    have key : ∀ t : N8 (L (Option AV) n), br (allZ (Nat.succ n) t) (fnat (Nat.pow 8 (Nat.succ n)) fun m => κ (.z m :: acc))
      (@N8.rec (L (Option AV) n) (fun _ => R) (fun a b c d e f g h => walk n h acc fun acc => walk n g acc fun acc => walk n f acc fun acc => walk n e acc fun acc => walk n d acc fun acc => walk n c acc fun acc => walk n b acc fun acc => walk n a acc κ) t) = true →
        ∃ cs, κ cs = true ∧ expand cs = (kids t).flatMap (cellsL (.i 3 (.ofNat 0)) n) ++ expand acc := by
      intro t e
      rcases br_true e with ⟨h, e1⟩ | ⟨_, e1⟩
      · rw [fnat_eq] at e1
        exact ⟨_, e1, by rw [expand]; exact congrArg (· ++ expand acc) (allZ_cells (n + 1) t h).symm⟩
      · cases t
        obtain ⟨c8, e1, q8⟩ := ih _ _ _ e1
        obtain ⟨c7, e1, q7⟩ := ih _ _ _ e1
        obtain ⟨c6, e1, q6⟩ := ih _ _ _ e1
        obtain ⟨c5, e1, q5⟩ := ih _ _ _ e1
        obtain ⟨c4, e1, q4⟩ := ih _ _ _ e1
        obtain ⟨c3, e1, q3⟩ := ih _ _ _ e1
        obtain ⟨c2, e1, q2⟩ := ih _ _ _ e1
        obtain ⟨c1, e1, q1⟩ := ih _ _ _ e1
        exact ⟨c1, e1, by simp only [q1, q2, q3, q4, q5, q6, q7, q8, kids, List.flatMap_cons, List.flatMap_nil, List.append_assoc, List.append_nil, List.nil_append]⟩
    exact key t e
theorem walkL_true (d : Nat) : ∀ (l : List (L (Option AV) d)) (acc : List Ck) (κ : List Ck → R), walkL d l acc κ = true → ∃ cs, κ cs = true ∧ expand cs = l.flatMap (cellsL (.i 3 (.ofNat 0)) d) ++ expand acc
  | [], acc, κ, e => ⟨acc, e, rfl⟩
  | x :: l, acc, κ, e => by
    have e : walkL d l acc (fun acc => walk d x acc κ) = true := e
    obtain ⟨c1, e1, q1⟩ := walkL_true d l _ _ e
    obtain ⟨c2, e2, q2⟩ := walk_true d x _ _ e1
    exact ⟨c2, e2, by rw [q2, q1, List.flatMap_cons, List.append_assoc]⟩
/-- the first N cells of a tree -/
noncomputable def walkN (N : Nat) (κ : List Ck → R) (d : Nat) : L (Option AV) d → R :=
  @Nat.rec (fun d => L (Option AV) d → R) (fun _ => false) (fun n ih t => @N8.rec (L (Option AV) n) (fun _ => R) (fun a b c e f g i j => br (Nat.ble N (Nat.pow 8 n)) (ih a)
    (fnat (Nat.div N (Nat.pow 8 n)) fun q => br (Nat.ble q 8) (br (Nat.beq (Nat.mul q (Nat.pow 8 n)) N) (takeK (L (Option AV) n) q [a, b, c, e, f, g, i, j] fun l => walkL n l [] κ) false) false)) t) d
theorem walkN_true {N : Nat} {κ : List Ck → R} : ∀ (d : Nat) (t : L (Option AV) d), walkN N κ d t = true → ∃ cs, (expand cs).length = N ∧ κ cs = true ∧ ∀ j, j < N → (expand cs)[j]? = some ((getL (Option AV) d j t).getD (.i 3 (.ofNat 0)))
  | 0, _, e => by cases e
  | d + 1, t, e => by
    have ih := walkN_true (N := N) (κ := κ) d
    have hp : 0 < 8 ^ d := Nat.pow_pos (by omega)
    have key : ∀ t : N8 (L (Option AV) d), @N8.rec (L (Option AV) d) (fun _ => R) (fun a b c e f g i j => br (Nat.ble N (Nat.pow 8 d)) (walkN N κ d a)
        (fnat (Nat.div N (Nat.pow 8 d)) fun q => br (Nat.ble q 8) (br (Nat.beq (Nat.mul q (Nat.pow 8 d)) N) (takeK (L (Option AV) d) q [a, b, c, e, f, g, i, j] fun l => walkL d l [] κ) false) false)) t = true →
        ∃ cs, (expand cs).length = N ∧ κ cs = true ∧ ∀ j, j < N → (expand cs)[j]? = some ((getL (Option AV) d (j % 8 ^ d) (ch (j / 8 ^ d) t)).getD (.i 3 (.ofNat 0))) := by
      intro t e
      have e : br (Nat.ble N (8 ^ d)) (walkN N κ d (ch 0 t)) (fnat (N / 8 ^ d) fun q => br (Nat.ble q 8) (br (Nat.beq (q * 8 ^ d) N) (takeK (L (Option AV) d) q (kids t) fun l => walkL d l [] κ) false) false) = true := by
        cases t; exact e
      rcases br_true e with ⟨b1, e1⟩ | ⟨_, e1⟩
      · have b1 : N ≤ 8 ^ d := Nat.le_of_ble_eq_true b1
        obtain ⟨l, h1, h2, h3⟩ := ih _ e1
        refine ⟨l, h1, h2, fun j hj => ?_⟩
        rw [Nat.div_eq_of_lt (by omega), Nat.mod_eq_of_lt (by omega)]
        exact h3 j hj
      · rw [fnat_eq] at e1
        obtain ⟨b3, e2⟩ := br_t e1
        obtain ⟨b4, e3⟩ := br_t e2
        have b3 : N / 8 ^ d ≤ 8 := Nat.le_of_ble_eq_true b3
        have b4 : N / 8 ^ d * 8 ^ d = N := Nat.eq_of_beq_eq_true b4
        have hk8 : (kids t).length = 8 := by cases t; rfl
        rw [takeK_eq, if_pos (by rw [hk8]; exact b3)] at e3
        obtain ⟨cs, q1, q2⟩ := walkL_true d _ _ _ e3
        have q2 : expand cs = ((kids t).take (N / 8 ^ d)).flatMap (cellsL (.i 3 (.ofNat 0)) d) := by rw [q2, expand, List.append_nil]
        have hlen : (((kids t).take (N / 8 ^ d)).flatMap (cellsL (.i 3 (.ofNat 0)) d)).length = N := by
          have : ∀ l : List (L (Option AV) d), (l.flatMap (cellsL (.i 3 (.ofNat 0)) d)).length = l.length * 8 ^ d := by
            intro l
            induction l with
            | nil => simp
            | cons x l ih => rw [List.flatMap_cons, List.length_append, ih, cellsL_len, List.length_cons, Nat.add_mul]; omega
          rw [this, List.length_take, hk8, Nat.min_eq_left b3, b4]
        refine ⟨cs, by rw [q2]; exact hlen, q1, fun j hj => ?_⟩
        have hq : j / 8 ^ d < N / 8 ^ d := by
          rw [Nat.div_lt_iff_lt_mul hp, b4]; exact hj
        rw [q2, flat_get hp (cellsL_len _ d), List.getElem?_take_of_lt hq, kids_get _ _ (by omega)]
        exact cellsL_get _ d _ _ (Nat.mod_lt _ hp)
    exact key t e
/-- the first n cells of a row of numbers, as make leaves it but for some -/
noncomputable def rdC (o off n : Nat) (h : H) (κ : List Ck → R) : R := get o h fun a => match a with
  | .ce N _ z zl d t _ _ => (match z with
      | [z0] => br (isZ0 z0) (br (Nat.beq zl 1) (br (Nat.ble n N) (br (Nat.beq off 0) (walkN n κ d t) false) false) false) false
      | _ => false)
  | _ => false
theorem rdC_cells {o off n : Nat} {h : H} {κ : List Ck → R} (e : rdC o off n h κ = true) : ∃ cs, (expand cs).length = n ∧ κ cs = true ∧ ∀ j v, (expand cs)[j]? = some v → objC h o (off + j) = some v := by
  obtain ⟨a, ha, e1⟩ := get_true e
  cases a <;> first | (cases e1; done) | skip
  rename_i N es z zl d t top sh
  match z, e1, ha with
  | [], e1, _ => cases e1
  | _ :: _ :: _, e1, _ => cases e1
  | [z0], e1, ha =>
    have e1 : br (isZ0 z0) (br (Nat.beq zl 1) (br (Nat.ble n N) (br (Nat.beq off 0) (walkN n κ d t) false) false) false) false = true := e1
    obtain ⟨b0, e1⟩ := br_t e1
    obtain ⟨b1, e2⟩ := br_t e1
    obtain ⟨b2, e3⟩ := br_t e2
    obtain ⟨b3, e3⟩ := br_t e3
    have b0 := isZ0_eq b0
    have b1 := Nat.eq_of_beq_eq_true b1
    have b2 : n ≤ N := Nat.le_of_ble_eq_true b2
    have b3 := Nat.eq_of_beq_eq_true b3
    subst b0 b1 b3
    obtain ⟨cs, h1, h2, h3⟩ := walkN_true d t e3
    refine ⟨cs, h1, h2, fun j v hj => ?_⟩
    have hjn : j < n := by rw [← h1]; exact (List.getElem?_eq_some_iff.1 hj).1
    rw [h3 j hjn] at hj
    injection hj with hj
    rw [Nat.zero_add]
    unfold objC
    rw [ha]
    show (if j < N then cellO [.i 3 (.ofNat 0)] 1 d t j else none) = some v
    rw [if_pos (by omega)]
    unfold cellO
    rw [← hj]
    cases hg : getL (Option AV) d j t with
    | none => simp [Nat.mod_one]
    | some u => rfl
end Go.AM
namespace Go.AM
open Go

noncomputable def kS1 : SegF := sOp (dT 93) (oLt 3 (xT 92) (xT 91)) sNil
noncomputable def kS2 : SegF := sOp (dT 94) (oMv (xT 92)) <| sOp (dT 95) (oIas (xT 90) (xT 92) 1) <| sOp (dT 96) (oLd1 (xT 95)) <| sOp (dT 22) (oMv (xT 94)) <| sOp (dT 23) (oMv (xT 96)) <| sNil
noncomputable def kS3 : SegF := sOp (dT 97) (oMv (xT 22)) <| sOp (dT 98) (oMv (xT 21)) <| sOp (dT 99) (oLenl (xT 98)) <| sOp (dT 100) (oLt 3 (xT 97) (xT 99)) <| sOp (dT 101) (oMv (xT 100)) <| sOpG (gG (xT 101) true) (dT 102) (oMv (xT 23)) <|
  sOpG (gG (xT 101) true) (dT 103) (oEq true 3 (xT 102) (xC (.i 3 (.ofNat 0)))) <| sOp (dT 104) (oPick (xT 101) (xT 103) (xC (.b false))) <| sNil
noncomputable def kS4 : SegF := sOp (dT 105) (oMv (xT 21)) <| sOp (dT 106) (oMv (xT 22)) <| sOp (dT 107) (oIas (xT 105) (xT 106) 1) <| sOp (dT 108) (oLd1 (xT 107)) <| sOp (dT 109) (oAd 3 (xT 108) (xC (.i 3 (.ofNat 1)))) <|
  sOp (dT 110) (oIas (xT 105) (xT 106) 1) <| sOp dN (oSt (xT 110) (xT 109) 1) <| sNil
noncomputable def kS5 : SegF := sOp (dT 111) (oAd 3 (xT 92) (xC (.i 3 (.ofNat 1)))) <| sOp (dT 92) (oMv (xT 111)) <| sNil
noncomputable def kpB : C := .seq (.rg (.fin kS1)) (.seq (.cond (xT 93) .skip (.exit 2)) (.seq (.blk 3 (.seq (.rg (.fin kS2)) (.seq (.rg (.fin kS3)) (.cond (xT 104) (.rg (.fin kS4)) .skip)))) (.rg (.fin kS5))))
noncomputable def keptC : C := .blk 2 (.loop kpB)
/-- one round; κx: where the loop is left -/
noncomputable def kRound (en : Env) (h : H) (nx : Nat) (κ κx : Env → H → Nat → R) : R :=
  kS1 en h nx fun en h nx => xT 93 en (asBL fun c => br c (kS2 en h nx fun en h nx => kS3 en h nx fun en h nx => xT 104 en (asBL fun c => br c (kS4 en h nx fun en h nx => kS5 en h nx κ) (kS5 en h nx κ))) (κx en h nx))
theorem kept_run (F : L (Option AFn) 4) (Lp : L (Option ALp) 5) (en : Env) (k : List T) (fr : Fr) (cs : List AFr) (h : H) (nx : Nat) (κ : ASt → R) :
    run (.mk F Lp false) 7 (.mk en (.lp kpB :: .blk 2 :: k) fr cs h nx) κ =
      kRound en h nx (fun en h nx => κ (.mk en (.lp kpB :: .blk 2 :: k) fr cs h nx)) (fun en h nx => run (.mk F Lp false) 5 (.mk en k fr cs h nx) κ) := rfl
theorem kept_run1 (F : L (Option AFn) 4) (Lp : L (Option ALp) 5) (n : Nat) (en : Env) (k : List T) (fr : Fr) (cs : List AFr) (h : H) (nx : Nat) (κ : ASt → R) :
    run (.mk F Lp false) (n + 1) (.mk en (.c keptC :: k) fr cs h nx) κ = run (.mk F Lp false) (n + 1) (.mk en (.lp kpB :: .blk 2 :: k) fr cs h nx) κ := rfl
theorem kept_run2 (F : L (Option AFn) 4) (Lp : L (Option ALp) 5) (en : Env) (k : List T) (fr : Fr) (cs : List AFr) (h : H) (nx : Nat) (κ : ASt → R) :
    run (.mk F Lp false) 2 (.mk en (.lp kpB :: .blk 2 :: k) fr cs h nx) κ =
      kS1 en h nx fun en h nx => xT 93 en (asBL fun c => br c (κ (.mk en (.c (.seq (.blk 3 (.seq (.rg (.fin kS2)) (.seq (.rg (.fin kS3)) (.cond (xT 104) (.rg (.fin kS4)) .skip)))) (.rg (.fin kS5))) :: .lp kpB :: .blk 2 :: k) fr cs h nx)) (κ (.mk en k fr cs h nx))) := rfl
noncomputable def kSel (c : Bool) (v : AV) : AV := match c with | true => v | false => undef
/-- what a round sets, where nothing is added -/
noncomputable def kQ (U : AV) (ok m i p j x : Nat) : List (Nat × AV) :=
  [(93, .b true), (94, .i 3 (.ofNat i)), (95, .p ok p), (96, .i 3 (.ofNat x)), (22, .i 3 (.ofNat i)), (23, .i 3 (.ofNat x)), (97, .i 3 (.ofNat i)), (98, U), (99, .i 3 (.ofNat m)), (100, .b (Nat.blt i m)), (101, .b (Nat.blt i m)),
   (102, kSel (Nat.blt i m) (.i 3 (.ofNat x))), (103, kSel (Nat.blt i m) (.b (not' (Nat.beq x 0)))), (104, .b false), (111, .i 3 (.ofNat j)), (92, .i 3 (.ofNat j))]
/-- .. where one is added: y is z then, at place q of object ou -/
noncomputable def kA (U : AV) (ok m i p j x ou q : Nat) (y z : Int) : List (Nat × AV) :=
  [(93, .b true), (94, .i 3 (.ofNat i)), (95, .p ok p), (96, .i 3 (.ofNat x)), (22, .i 3 (.ofNat i)), (23, .i 3 (.ofNat x)), (97, .i 3 (.ofNat i)), (98, U), (99, .i 3 (.ofNat m)), (100, .b true), (101, .b true),
   (102, .i 3 (.ofNat x)), (103, .b true), (104, .b true), (105, U), (106, .i 3 (.ofNat i)), (107, .p ou q), (108, .i 3 y), (109, .i 3 z), (110, .p ou q), (111, .i 3 (.ofNat j)), (92, .i 3 (.ofNat j))]
section
variable {en : Env} {h : H} {nx ok fk n ou fu m i x : Nat} {ck cu : Option Nat} {κ κx : Env → H → Nat → R}
/-- how the loop stands at a round's beginning -/
structure KIn (en : Env) (ok fk n ou fu m i : Nat) (ck cu : Option Nat) : Prop where
  h90 : eg 90 en = .sl ok fk n ck
  h91 : eg 91 en = .i 3 (.ofNat n)
  h92 : eg 92 en = .i 3 (.ofNat i)
  h21 : eg 21 en = .sl ou fu m cu
theorem cmEq_nat (a b : Nat) (κ : Bool → R) : cmEq (.ofNat a) (.ofNat b) κ = κ (Nat.beq a b) := rfl
theorem arAdd_nat {a b : Nat} (h : Nat.blt (a + b) 9223372036854775808 = true) (κ : Int → R) : arAdd 3 (.ofNat a) (.ofNat b) κ = κ (.ofNat (a + b)) := by
  show wrN 3 (a + b) κ = _
  unfold wrN
  rw [fnat_eq]
  show br (Nat.blt (a + b) 9223372036854775808) _ _ = _
  rw [h]; rfl
theorem k_quiet (hk : KIn en ok fk n ou fu m i ck cu) (hi : i < n) (hn : n < 9223372036854775808) (hc : objC h ok (fk + i * 1) = some (.i 3 (.ofNat x))) (hq : Nat.blt i m = false ∨ x = 0) :
    kRound en h nx κ κx = κ (esL (kQ (.sl ou fu m cu) ok m i (fk + i * 1) (i + 1) x) en) h nx := by
  have h1 : Nat.blt i n = true := by simpa [Nat.blt_eq] using hi
  have h2 : Nat.blt (i + 1) 9223372036854775808 = true := by simp [Nat.blt_eq]; omega
  have h90 : eg 90 en = _ := hk.h90
  have h91 : eg 91 en = _ := hk.h91
  have h92 : eg 92 en = _ := hk.h92
  have h21 : eg 21 en = _ := hk.h21
  have hr : ∀ κ, rd1 ok (fk.add (i.mul 1)) h κ = κ (.i 3 (.ofNat x)) := rd1_eq hc
  simp only [kRound, kS1, kS2, kS3, kS5, sOp, sOpG, sNil, oLt, oMv, oIas, oLd1, oLenl, oEq, oPick, oAd, adV_ii, gG, xT_eq, dT_eq, xC, eg_es, Nat.reduceLT, Nat.reduceEqDiff, if_true, if_false, reduceIte,
    h90, h91, h92, h21, asK_i, asN_i, asB_b, asBL_b, ltV_ii, geV_ii, eqV_ii, ldV_p, asP_p, asSl_sl, cmLt_nat, cmEq_nat, kB_eq, h1, brT, fnat_eq, hr, arAdd_nat h2]
  have b1 : eqB false true = false := rfl
  have b2 : eqB true true = true := rfl
  rcases hq with hm | rfl
  · simp only [hm, b1, brF, kQ, esL, kSel]
    rfl
  · have b3 : Nat.beq 0 0 = true := rfl
    have b4 : eqB true (not' true) = false := rfl
    have b5 : not' true = false := rfl
    cases hm : Nat.blt i m with
    | false =>
      simp only [b1, brF, kQ, esL, kSel, hm]
      rfl
    | true =>
      simp only [b2, brT, b3, b4, brF, kQ, esL, kSel, hm]
      rfl
theorem k_add {y z : Int} {h' : H} (hk : KIn en ok fk n ou fu m i ck cu) (hi : i < n) (hn : n < 9223372036854775808) (hc : objC h ok (fk + i * 1) = some (.i 3 (.ofNat x))) (hm : Nat.blt i m = true) (hx : Nat.beq x 0 = false)
    (hy : ∀ κ, rd1 ou (fu.add (i.mul 1)) h κ = κ (.i 3 y)) (hz : ∀ κ, arAdd 3 y (.ofNat 1) κ = κ z) (hw : ∀ κ, wrK ou (fu.add (i.mul 1)) [.i 3 z] h κ = κ h') :
    kRound en h nx κ κx = κ (esL (kA (.sl ou fu m cu) ok m i (fk + i * 1) (i + 1) x ou (fu + i * 1) y z) en) h' nx := by
  have h1 : Nat.blt i n = true := by simpa [Nat.blt_eq] using hi
  have h2 : Nat.blt (i + 1) 9223372036854775808 = true := by simp [Nat.blt_eq]; omega
  have h90 : eg 90 en = _ := hk.h90
  have h91 : eg 91 en = _ := hk.h91
  have h92 : eg 92 en = _ := hk.h92
  have h21 : eg 21 en = _ := hk.h21
  have hr : ∀ κ, rd1 ok (fk.add (i.mul 1)) h κ = κ (.i 3 (.ofNat x)) := rd1_eq hc
  have b2 : eqB true true = true := rfl
  have b4 : eqB true (not' false) = true := rfl
  have b6 : ∀ (v : AV) (κ : List AV → R), (∃ k n, v = .i k n) → cellsK κ v = κ [v] := by rintro v κ ⟨k, n, rfl⟩; rfl
  have b7 : ∀ v : AV, Nat.beq (lenN AV [v]) 1 = true := fun _ => rfl
  simp only [kRound, kS1, kS2, kS3, sOp, sOpG, sNil, oLt, oMv, oIas, oLd1, oLenl, oEq, oPick, gG, xT_eq, dT_eq, xC, eg_es, Nat.reduceLT, Nat.reduceEqDiff, if_true, if_false, reduceIte,
    h90, h91, h92, h21, asK_i, asN_i, asB_b, asBL_b, ltV_ii, geV_ii, eqV_ii, ldV_p, asP_p, asSl_sl, cmLt_nat, cmEq_nat, kB_eq, h1, brT, fnat_eq, hr, hm, b2, hx, b4]
  simp (config := { maxSteps := 2000000 }) only [kS4, kS5, sOp, sNil, oMv, oIas, oLd1, oAd, adV_ii, oSt, dN, xT_eq, dT_eq, xC, eg_es, Nat.reduceLT, Nat.reduceEqDiff, if_true, if_false, reduceIte,
    h90, h91, h92, h21, asK_i, asN_i, asP_p, asSl_sl, brT, fnat_eq, arAdd_nat h2, hm, hy, hz, b6 (.i 3 z) _ ⟨_, _, rfl⟩, b7, hw, kA, esL, ldV_p]
  rfl
theorem k_end (hk : KIn en ok fk n ou fu m n ck cu) : kRound en h nx κ κx = κx (es 93 (.b false) en) h nx := by
  have h1 : Nat.blt n n = false := by
    cases h : Nat.blt n n with
    | false => rfl
    | true => simp [Nat.blt_eq] at h
  have h91 : eg 91 en = _ := hk.h91
  have h92 : eg 92 en = _ := hk.h92
  simp only [kRound, kS1, sOp, sNil, oLt, xT_eq, dT_eq, eg_es, Nat.reduceLT, if_true, reduceIte, h91, h92, asK_i, asB_b, asBL_b, ltV_ii, geV_ii, eqV_ii, ldV_p, cmLt_nat, kB_eq, h1, brF]
end
end Go.AM
namespace Go.AM
open Go

/-- a number of kind int that is no less than nought -/
noncomputable def asU (κ : Nat → R) (v : AV) : R := asK 3 (fun n => @Int.rec (fun _ => R) κ (fun _ => false) n) v
theorem asU_true {κ : Nat → R} {v : AV} (e : asU κ v = true) : ∃ n, v = .i 3 (.ofNat n) ∧ κ n = true := by
  obtain ⟨n, rfl, e1⟩ := asK_true e
  cases n with
  | ofNat n => exact ⟨n, rfl, e1⟩
  | negSucc n => cases e1
/-- the object has nothing that shows its cells as they were -/
noncomputable def noSh (o : Nat) (h : H) (κ : R) : R := get o h fun a => match a with
  | .sm _ => κ
  | .ce _ _ _ _ _ _ _ sh => (match sh with | [] => κ | _ => false)
  | _ => false
noncomputable def kUp (U : AV) (ok fk m i : Nat) (p : Bool) (x : Nat) (en : Env) (κ : Env → R) : R :=
  br p (fnat (Nat.pred i) fun i0 => fnat (Nat.add fk (Nat.mul i0 1)) fun q => setsK (kQ U ok m i0 q i x) en κ) (κ en)
noncomputable def kGo (U : AV) (ok fk m ou fu : Nat) (l : List AV) : Nat → Bool → Nat → Env → H → Nat → (Env → H → Nat → R) → R :=
  @List.rec AV (fun _ => Nat → Bool → Nat → Env → H → Nat → (Env → H → Nat → R) → R)
    (fun i p xl en h nx κ => kUp U ok fk m i p xl en fun en => setK AV (.b false) 3 93 en fun en => κ en h nx)
    (fun v _ ih i p xl en h nx κ => asU (fun x => br (or' (Nat.beq x 0) (not' (Nat.blt i m))) (fnat (Nat.succ i) fun j => ih j true x en h nx κ)
      (kUp U ok fk m i p xl en fun en => noSh ou h (rd1 ou (Nat.add fu (Nat.mul i 1)) h (asK 3 fun y => arAdd 3 y (.ofNat 1) fun z => wrK ou (Nat.add fu (Nat.mul i 1)) [.i 3 z] h fun h =>
        fnat (Nat.succ i) fun j => fnat (Nat.add fk (Nat.mul i 1)) fun q => fnat (Nat.add fu (Nat.mul i 1)) fun q' => setsK (kA U ok m i q j x ou q' y z) en fun en => ih j false 0 en h nx κ)))) v) l
/-- .. stretch by stretch -/
noncomputable def kGoC (U : AV) (ok fk m ou fu : Nat) (l : List Ck) : Nat → Bool → Nat → Env → H → Nat → (Env → H → Nat → R) → R :=
  @List.rec Ck (fun _ => Nat → Bool → Nat → Env → H → Nat → (Env → H → Nat → R) → R)
    (fun i p xl en h nx κ => kUp U ok fk m i p xl en fun en => setK AV (.b false) 3 93 en fun en => κ en h nx)
    (fun c _ ih i p xl en h nx κ => @Ck.rec (fun _ => R) (fun n => @Nat.rec (fun _ => R) (ih i p xl en h nx κ) (fun n _ => fnat (Nat.add i (Nat.succ n)) fun j => ih j true 0 en h nx κ) n)
      (fun v => asU (fun x => br (or' (Nat.beq x 0) (not' (Nat.blt i m))) (fnat (Nat.succ i) fun j => ih j true x en h nx κ)
      (kUp U ok fk m i p xl en fun en => noSh ou h (rd1 ou (Nat.add fu (Nat.mul i 1)) h (asK 3 fun y => arAdd 3 y (.ofNat 1) fun z => wrK ou (Nat.add fu (Nat.mul i 1)) [.i 3 z] h fun h =>
        fnat (Nat.succ i) fun j => fnat (Nat.add fk (Nat.mul i 1)) fun q => fnat (Nat.add fu (Nat.mul i 1)) fun q' => setsK (kA U ok m i q j x ou q' y z) en fun en => ih j false 0 en h nx κ)))) v) c) l
theorem asU_i (n : Nat) (κ : Nat → R) : asU κ (.i 3 (.ofNat n)) = κ n := by unfold asU; rw [asK_i]
theorem kGo_cons (U : AV) (ok fk m ou fu : Nat) (v : AV) (l : List AV) (i : Nat) (p : Bool) (xl : Nat) (en : Env) (h : H) (nx : Nat) (κ : Env → H → Nat → R) : kGo U ok fk m ou fu (v :: l) i p xl en h nx κ =
    asU (fun x => br (or' (Nat.beq x 0) (not' (Nat.blt i m))) (fnat (Nat.succ i) fun j => kGo U ok fk m ou fu l j true x en h nx κ)
      (kUp U ok fk m i p xl en fun en => noSh ou h (rd1 ou (Nat.add fu (Nat.mul i 1)) h (asK 3 fun y => arAdd 3 y (.ofNat 1) fun z => wrK ou (Nat.add fu (Nat.mul i 1)) [.i 3 z] h fun h =>
        fnat (Nat.succ i) fun j => fnat (Nat.add fk (Nat.mul i 1)) fun q => fnat (Nat.add fu (Nat.mul i 1)) fun q' => setsK (kA U ok m i q j x ou q' y z) en fun en => kGo U ok fk m ou fu l j false 0 en h nx κ)))) v := rfl
theorem kGo_nought (U : AV) (ok fk m ou fu : Nat) (l : List AV) (i : Nat) (p : Bool) (xl : Nat) (en : Env) (h : H) (nx : Nat) (κ : Env → H → Nat → R) : kGo U ok fk m ou fu (.i 3 (.ofNat 0) :: l) i p xl en h nx κ =
    kGo U ok fk m ou fu l (i + 1) true 0 en h nx κ := by
  rw [kGo_cons, asU_i, show or' (Nat.beq 0 0) (not' (Nat.blt i m)) = true from rfl, brT, fnat_eq]
theorem kGo_noughts {U : AV} {ok fk m ou fu : Nat} {l : List AV} {h : H} {nx : Nat} {κ : Env → H → Nat → R} : ∀ (n i : Nat) (p : Bool) (xl : Nat) (en : Env),
    kGo U ok fk m ou fu (List.replicate (n + 1) (.i 3 (.ofNat 0)) ++ l) i p xl en h nx κ = kGo U ok fk m ou fu l (i + (n + 1)) true 0 en h nx κ
  | 0, i, p, xl, en => by rw [List.replicate_succ, List.cons_append, kGo_nought]; rfl
  | n + 1, i, p, xl, en => by
    rw [List.replicate_succ, List.cons_append, kGo_nought, kGo_noughts n, show i + 1 + (n + 1) = i + (n + 1 + 1) by omega]
theorem kGoC_eq {U : AV} {ok fk m ou fu : Nat} : ∀ (l : List Ck) (i : Nat) (p : Bool) (xl : Nat) (en : Env) (h : H) (nx : Nat) (κ : Env → H → Nat → R), kGoC U ok fk m ou fu l i p xl en h nx κ = kGo U ok fk m ou fu (expand l) i p xl en h nx κ
  | [], _, _, _, _, _, _, _ => rfl
  | .z 0 :: l, i, p, xl, en, h, nx, κ => by
    show kGoC U ok fk m ou fu l i p xl en h nx κ = _
    rw [kGoC_eq l]; rfl
  | .z (n + 1) :: l, i, p, xl, en, h, nx, κ => by
    show fnat (Nat.add i (Nat.succ n)) (fun j => kGoC U ok fk m ou fu l j true 0 en h nx κ) = _
    rw [fnat_eq, kGoC_eq l, expand, kGo_noughts]; rfl
  | .v v :: l, i, p, xl, en, h, nx, κ => by
    have e : kGoC U ok fk m ou fu (.v v :: l) i p xl en h nx κ = asU (fun x => br (or' (Nat.beq x 0) (not' (Nat.blt i m))) (fnat (Nat.succ i) fun j => kGoC U ok fk m ou fu l j true x en h nx κ)
      (kUp U ok fk m i p xl en fun en => noSh ou h (rd1 ou (Nat.add fu (Nat.mul i 1)) h (asK 3 fun y => arAdd 3 y (.ofNat 1) fun z => wrK ou (Nat.add fu (Nat.mul i 1)) [.i 3 z] h fun h =>
        fnat (Nat.succ i) fun j => fnat (Nat.add fk (Nat.mul i 1)) fun q => fnat (Nat.add fu (Nat.mul i 1)) fun q' => setsK (kA U ok m i q j x ou q' y z) en fun en => kGoC U ok fk m ou fu l j false 0 en h nx κ)))) v := rfl
    rw [e]
    simp only [kGoC_eq l, expand, kGo_cons]
noncomputable def keptS : SegF := fun en h nx κ => xT 91 en (asU fun n' => xT 92 en (asU fun i0 => br (Nat.beq i0 0) (br (Nat.beq n' 0) (setK AV (.b false) 3 93 en fun en => κ en h nx)
  (xT 90 en (asSl fun ok fk n _ => xT 21 en fun U => asSl (fun ou fu m _ => br (Nat.beq n' n) (br (Nat.blt n 9223372036854775808) (br (Nat.blt ok 2097152) (br (Nat.blt ou 2097152) (br (Nat.beq ok ou) false
    (rdC ok fk n h fun l => kGoC U ok fk m ou fu l 0 false 0 en h nx κ)) false) false) false) false) U))) false))
theorem wrK_true {o off : Nat} {vs : List AV} {h : H} {κ : H → R} (e : wrK o off vs h κ = true) {e2 : noSh o h true = true} : ∃ h', κ h' = true ∧ (∀ κ', wrK o off vs h κ' = κ' h') ∧ ∀ o', o < 2097152 → o' < 2097152 → o' ≠ o → obj h' o' = obj h o' := by
  obtain ⟨a, ha, e1⟩ := get_true e
  obtain ⟨b, hb, e3⟩ := get_true e2
  have : b = a := by rw [ha] at hb; injection hb with hb; exact hb.symm
  subst this
  have other : ∀ (x : AO) o', o < 2097152 → o' < 2097152 → o' ≠ o → obj (setO h o x) o' = obj h o' := fun x o' h1 h2 h3 => getL_setL_ne (some x) 7 h h1 h2 h3
  cases b with
  | sm l =>
    simp only [putLK_eq, put_eq] at e1
    split at e1
    · rename_i hn
      refine ⟨_, e1, fun κ' => ?_, other _⟩
      unfold wrK
      rw [get_is ha]
      simp only [putLK_eq, put_eq]
      rw [if_pos hn]
    · cases e1
  | st t0 l => cases e3
  | ce N es z zl d t top sh =>
    obtain ⟨htop, e4⟩ := br_t e1
    obtain ⟨hle, e5⟩ := br_t e4
    cases sh with
    | cons x r => cases e3
    | nil =>
      rw [setsT_eq, put_eq, killK_eq] at e5
      refine ⟨_, e5, fun κ' => ?_, other _⟩
      unfold wrK
      rw [get_is ha]
      show br top (br _ _ _) _ = _
      rw [htop, brT]
      rw [show Nat.ble (Nat.add off (lenN AV vs)) N = true from hle, brT, setsT_eq, put_eq, killK_eq]
  | _ => cases e1
theorem rd1_true {o off : Nat} {h : H} {κ : AV → R} (e : rd1 o off h κ = true) : ∃ v, (∀ κ', rd1 o off h κ' = κ' v) ∧ κ v = true := by
  obtain ⟨a, ha, e1⟩ := get_true e
  cases a with
  | sm l =>
    have e1 : nthK AV κ l off = true := e1
    rw [nthK_eq] at e1
    cases hl : l[off]? with
    | none => rw [hl] at e1; cases e1
    | some v =>
      rw [hl] at e1
      refine ⟨v, fun κ' => ?_, e1⟩
      unfold rd1
      rw [get_is ha]
      show nthK AV κ' l off = _
      rw [nthK_eq, hl]
  | st t0 l =>
    have e1 : nthK AV κ l off = true := e1
    rw [nthK_eq] at e1
    cases hl : l[off]? with
    | none => rw [hl] at e1; cases e1
    | some v =>
      rw [hl] at e1
      refine ⟨v, fun κ' => ?_, e1⟩
      unfold rd1
      rw [get_is ha]
      show nthK AV κ' l off = _
      rw [nthK_eq, hl]
  | ce N es z zl d t top sh =>
    obtain ⟨hlt, e2⟩ := br_t e1
    rw [cellK_eq] at e2
    cases hl : cellO z zl d t off with
    | none => rw [hl] at e2; cases e2
    | some v =>
      rw [hl] at e2
      refine ⟨v, fun κ' => ?_, e2⟩
      unfold rd1
      rw [get_is ha]
      show br (Nat.blt off N) (cellK z zl d t κ' off) false = _
      rw [hlt, brT, cellK_eq, hl]
  | _ => cases e1
theorem arAdd_true {a b : Int} {κ : Int → R} (e : arAdd 3 a b κ = true) : ∃ z, (∀ κ', arAdd 3 a b κ' = κ' z) ∧ κ z = true := by
  rw [arAdd_eq] at e
  exact ⟨_, fun κ' => arAdd_eq 3 a b κ', e⟩
theorem noSh_true {o : Nat} {h : H} {κ : R} (e : noSh o h κ = true) : κ = true ∧ noSh o h true = true := by
  obtain ⟨a, ha, e1⟩ := get_true e
  unfold noSh
  rw [get_is ha]
  cases a with
  | sm l => exact ⟨e1, rfl⟩
  | st t0 l => cases e1
  | ce N es z zl d t top sh =>
    cases sh with
    | nil => exact ⟨e1, rfl⟩
    | cons x r => cases e1
  | _ => cases e1
section
variable {en : Env} {ok fk n ou fu m i x : Nat} {ck cu : Option Nat}
theorem KIn.quiet {p : Nat} (hk : KIn en ok fk n ou fu m i ck cu) {U : AV} {j : Nat} : KIn (esL (kQ U ok m i p j x) en) ok fk n ou fu m j ck cu := by
  have h90 : eg 90 en = _ := hk.h90
  have h91 : eg 91 en = _ := hk.h91
  have h21 : eg 21 en = _ := hk.h21
  constructor <;> simp only [kQ, esL, eg_es, Nat.reduceLT, Nat.reduceEqDiff, if_true, if_false, reduceIte, h90, h91, h21]
theorem KIn.add {p q : Nat} {y z : Int} (hk : KIn en ok fk n ou fu m i ck cu) {U : AV} {j : Nat} : KIn (esL (kA U ok m i p j x ou q y z) en) ok fk n ou fu m j ck cu := by
  have h90 : eg 90 en = _ := hk.h90
  have h91 : eg 91 en = _ := hk.h91
  have h21 : eg 21 en = _ := hk.h21
  constructor <;> simp only [kA, esL, eg_es, Nat.reduceLT, Nat.reduceEqDiff, if_true, if_false, reduceIte, h90, h91, h21]
theorem kQ_lt {U : AV} {p j : Nat} : ∀ r ∈ kQ U ok m i p j x, r.1 < 512 := by
  intro r hr
  simp only [kQ, List.mem_cons, List.not_mem_nil, or_false] at hr
  rcases hr with rfl | rfl | rfl | rfl | rfl | rfl | rfl | rfl | rfl | rfl | rfl | rfl | rfl | rfl | rfl | rfl <;> simp
theorem kQ_over {U : AV} {p j i' p' j' x' : Nat} : esL (kQ U ok m i' p' j' x') (esL (kQ U ok m i p j x) en) = esL (kQ U ok m i' p' j' x') en := by
  refine esL_over kQ_lt kQ_lt (fun r hr => ?_) en
  simp only [kQ, List.mem_cons, List.not_mem_nil, or_false] at hr
  rcases hr with rfl | rfl | rfl | rfl | rfl | rfl | rfl | rfl | rfl | rfl | rfl | rfl | rfl | rfl | rfl | rfl <;> simp [kQ]
/-- as the machine has it -/
noncomputable def kEn (U : AV) (ok fk m i : Nat) (p : Bool) (x : Nat) (en : Env) : Env := match p with
  | true => esL (kQ U ok m (Nat.pred i) (fk + Nat.pred i * 1) i x) en
  | false => en
theorem kUp_eq (U : AV) (p : Bool) (κ : Env → R) : kUp U ok fk m i p x en κ = κ (kEn U ok fk m i p x en) := by
  unfold kUp
  cases p with
  | false => rfl
  | true => rw [brT, fnat_eq, fnat_eq, setsK_eq]; rfl
theorem kGo_ok (F : L (Option AFn) 4) (Lp : L (Option ALp) 5) (k : List T) (fr : Fr) (cs : List AFr) (κ : ASt → R) (h1 : ok < 2097152) (h2 : ou < 2097152) (h3 : ok ≠ ou) (hn : n < 9223372036854775808) :
    ∀ (l : List AV) (i : Nat) (p : Bool) (x : Nat) (en : Env) (h : H) (nx : Nat), KIn (kEn (.sl ou fu m cu) ok fk m i p x en) ok fk n ou fu m i ck cu → i + l.length = n → (∀ j v, l[j]? = some v → objC h ok (fk + (i + j) * 1) = some v) →
      kGo (.sl ou fu m cu) ok fk m ou fu l i p x en h nx (fun en h nx => κ (.mk en k fr cs h nx)) = true → ∃ N, run (.mk F Lp false) (N + 1) (.mk (kEn (.sl ou fu m cu) ok fk m i p x en) (.lp kpB :: .blk 2 :: k) fr cs h nx) κ = true := by
  intro l
  induction l with
  | nil =>
    intro i p x en h nx hk hl hc e
    have hin : i = n := by simpa using hl
    have e : kUp (.sl ou fu m cu) ok fk m i p x en (fun en => setK AV (.b false) 3 93 en fun en => κ (.mk en k fr cs h nx)) = true := e
    rw [kUp_eq, setK_eq] at e
    refine ⟨1, ?_⟩
    rw [kept_run2]
    have h4 : Nat.blt i n = false := by
      cases hb : Nat.blt i n with
      | false => rfl
      | true => simp [Nat.blt_eq] at hb; omega
    have h91 : eg 91 (kEn (.sl ou fu m cu) ok fk m i p x en) = _ := hk.h91
    have h92 : eg 92 (kEn (.sl ou fu m cu) ok fk m i p x en) = _ := hk.h92
    simp only [kS1, sOp, sNil, oLt, xT_eq, dT_eq, eg_es, Nat.reduceLT, if_true, reduceIte, h91, h92, asK_i, asB_b, asBL_b, ltV_ii, geV_ii, eqV_ii, ldV_p, cmLt_nat, kB_eq, h4, brF]
    exact e
  | cons v l ih =>
    intro i p x en h nx hk hl hc e
    simp only [List.length_cons] at hl
    have hi : i < n := by omega
    have hv := hc 0 v rfl
    rw [Nat.add_zero] at hv
    have hc' : ∀ j v', l[j]? = some v' → objC h ok (fk + (i + 1 + j) * 1) = some v' := fun j v' hj => by
      have := hc (j + 1) v' (by simpa using hj)
      rw [show i + 1 + j = i + (j + 1) by omega]; exact this
    have e : asU (fun y => br (or' (Nat.beq y 0) (not' (Nat.blt i m))) (fnat (Nat.succ i) fun j => kGo (.sl ou fu m cu) ok fk m ou fu l j true y en h nx (fun en h nx => κ (.mk en k fr cs h nx)))
      (kUp (.sl ou fu m cu) ok fk m i p x en fun en => noSh ou h (rd1 ou (Nat.add fu (Nat.mul i 1)) h (asK 3 fun w => arAdd 3 w (.ofNat 1) fun z => wrK ou (Nat.add fu (Nat.mul i 1)) [.i 3 z] h fun h =>
        fnat (Nat.succ i) fun j => fnat (Nat.add fk (Nat.mul i 1)) fun q => fnat (Nat.add fu (Nat.mul i 1)) fun q' => setsK (kA (.sl ou fu m cu) ok m i q j y ou q' w z) en fun en => kGo (.sl ou fu m cu) ok fk m ou fu l j false 0 en h nx (fun en h nx => κ (.mk en k fr cs h nx)))))) v = true := e
    obtain ⟨y, rfl, e1⟩ := asU_true e
    rcases br_true e1 with ⟨g1, g2⟩ | ⟨g1, g2⟩
    · rw [fnat_eq] at g2
      have hq : Nat.blt i m = false ∨ y = 0 := by
        cases hb : Nat.blt i m with
        | false => exact .inl rfl
        | true =>
          rw [hb] at g1
          cases hy : Nat.beq y 0 with
          | true => exact .inr (Nat.eq_of_beq_eq_true hy)
          | false => rw [hy] at g1; cases g1
      have henv : esL (kQ (.sl ou fu m cu) ok m i (fk + i * 1) (i + 1) y) (kEn (.sl ou fu m cu) ok fk m i p x en) = kEn (.sl ou fu m cu) ok fk m (i + 1) true y en := by
        cases p with
        | false => rfl
        | true => exact kQ_over
      have hk' := hk.quiet (U := .sl ou fu m cu) (p := fk + i * 1) (j := i + 1) (x := y)
      rw [henv] at hk'
      obtain ⟨N, hN⟩ := ih (i + 1) true y en h nx hk' (by omega) hc' g2
      refine ⟨6 + (N + 1), ?_⟩
      rw [show 6 + (N + 1) + 1 = 7 + (N + 1) by omega, run_add, kept_run, k_quiet hk hi hn hv hq, henv]
      exact hN
    · rw [kUp_eq] at g2
      obtain ⟨g3, g4⟩ := noSh_true g2
      have hm : Nat.blt i m = true := by
        cases hb : Nat.blt i m with
        | true => rfl
        | false =>
          rw [hb] at g1
          cases hy : Nat.beq y 0 <;> rw [hy] at g1 <;> cases g1
      have hy : Nat.beq y 0 = false := by
        cases hy : Nat.beq y 0 with
        | false => rfl
        | true => rw [hy] at g1; cases g1
      obtain ⟨w, hw, g5⟩ := rd1_true g3
      obtain ⟨w', rfl, g6⟩ := asK_true g5
      obtain ⟨z, hz, g7⟩ := arAdd_true g6
      obtain ⟨h', g8, g9, g10⟩ := wrK_true (e2 := g4) g7
      rw [fnat_eq, fnat_eq, fnat_eq, setsK_eq] at g8
      have hk' : KIn (kEn (.sl ou fu m cu) ok fk m (i + 1) false 0 (esL (kA (.sl ou fu m cu) ok m i (fk + i * 1) (i + 1) y ou (fu + i * 1) w' z) (kEn (.sl ou fu m cu) ok fk m i p x en))) ok fk n ou fu m (i + 1) ck cu := hk.add
      obtain ⟨N, hN⟩ := ih (i + 1) false 0 _ h' nx hk' (by omega) (fun j v' hj => by
        have := hc' j v' hj
        unfold objC at this ⊢
        rw [g10 ok h2 h1 h3]; exact this) g8
      refine ⟨6 + (N + 1), ?_⟩
      rw [show 6 + (N + 1) + 1 = 7 + (N + 1) by omega, run_add, kept_run, k_add hk hi hn hv hm hy hw hz g9]
      exact hN
end
theorem kept_ok : SplOk keptS keptC := by
  intro F Lp en k fr cs h nx κ e
  have e : xT 91 en (asU fun n' => xT 92 en (asU fun i0 => br (Nat.beq i0 0) (br (Nat.beq n' 0) (setK AV (.b false) 3 93 en fun en => κ (.mk en k fr cs h nx))
    (xT 90 en (asSl fun ok fk n _ => xT 21 en fun U => asSl (fun ou fu m _ => br (Nat.beq n' n) (br (Nat.blt n 9223372036854775808) (br (Nat.blt ok 2097152) (br (Nat.blt ou 2097152) (br (Nat.beq ok ou) false
    (rdC ok fk n h fun l => kGoC U ok fk m ou fu l 0 false 0 en h nx (fun en h nx => κ (.mk en k fr cs h nx)))) false) false) false) false) U))) false)) = true := e
  rw [xT_eq] at e
  obtain ⟨n', h91, e1⟩ := asU_true e
  rw [xT_eq] at e1
  obtain ⟨i0, h92, e2⟩ := asU_true e1
  obtain ⟨b1, e3⟩ := br_t e2
  have b1 := Nat.eq_of_beq_eq_true b1
  subst b1
  rcases br_true e3 with ⟨b2, e4⟩ | ⟨b2, e4⟩
  · have b2 := Nat.eq_of_beq_eq_true b2
    subst b2
    rw [setK_eq] at e4
    refine ⟨2, ?_⟩
    rw [kept_run1, kept_run2]
    have h91 : eg 91 en = _ := h91
    have h92 : eg 92 en = _ := h92
    have h4 : Nat.blt 0 0 = false := rfl
    simp only [kS1, sOp, sNil, oLt, xT_eq, dT_eq, eg_es, Nat.reduceLT, if_true, reduceIte, h91, h92, asK_i, asB_b, asBL_b, ltV_ii, geV_ii, eqV_ii, ldV_p, cmLt_nat, kB_eq, h4, brF]
    exact e4
  · rw [xT_eq] at e4
    obtain ⟨ok, fk, n, ck, h90, e5⟩ := asSl_true e4
    rw [xT_eq] at e5
    obtain ⟨ou, fu, m, cu, h21, e6⟩ := asSl_true e5
    obtain ⟨b3, e7⟩ := br_t e6
    obtain ⟨b4, e8⟩ := br_t e7
    obtain ⟨b5, e9⟩ := br_t e8
    obtain ⟨b6, e10⟩ := br_t e9
    obtain ⟨b7, e11⟩ := br_f e10
    have b3 := Nat.eq_of_beq_eq_true b3
    subst b3
    have b7 : ok ≠ ou := fun h => by subst h; rw [Nat.beq_refl] at b7; cases b7
    obtain ⟨cl, k1, k2, k3⟩ := rdC_cells e11
    rw [kGoC_eq] at k2
    obtain ⟨l, hl⟩ : ∃ l, l = expand cl := ⟨_, rfl⟩
    rw [← hl] at k1 k2 k3
    rw [h21] at k2
    obtain ⟨N, hN⟩ := kGo_ok (ck := ck) (cu := cu) (n := n') F Lp k fr cs κ (by simpa [Nat.blt_eq] using b5) (by simpa [Nat.blt_eq] using b6) b7 (by simpa [Nat.blt_eq] using b4) l 0 false 0 en h nx ⟨h90, h91, h92, h21⟩ (by omega)
      (fun j v hj => by rw [Nat.zero_add, Nat.mul_one]; exact k3 j v hj) k2
    exact ⟨N + 1, by rw [kept_run1]; exact hN⟩
end Go.AM
