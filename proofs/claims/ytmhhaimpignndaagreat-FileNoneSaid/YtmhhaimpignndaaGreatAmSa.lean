/-
  AM, 30: pieces done at once: what they are made of. Conditions: none.
-/
import Derived.Test.YtmhhaimpignndaaGreatAmZb
namespace Go.AM
open Go

/-! ### Trees that agree everywhere -/
theorem ext_L {α : Type} : ∀ (n : Nat) (t u : L α n), (∀ i, i < 8 ^ n → getL α n i t = getL α n i u) → t = u
  | 0, t, u, h => h 0 (by simp)
  | n + 1, t, u, h => by
    have key : ∀ t u : N8 (L α n), (∀ c, c < 8 → ch c t = ch c u) → t = u := by
      intro t u hc
      cases t
      cases u
      have h0 := hc 0 (by omega)
      have h1 := hc 1 (by omega)
      have h2 := hc 2 (by omega)
      have h3 := hc 3 (by omega)
      have h4 := hc 4 (by omega)
      have h5 := hc 5 (by omega)
      have h6 := hc 6 (by omega)
      have h7 := hc 7 (by omega)
      simp only [ch] at h0 h1 h2 h3 h4 h5 h6 h7
      subst h0 h1 h2 h3 h4 h5 h6 h7
      rfl
    refine key t u fun c hc => ext_L n _ _ fun i hi => ?_
    have hp : 0 < 8 ^ n := Nat.pow_pos (by omega)
    have hlt : c * 8 ^ n + i < 8 ^ (n + 1) := by
      have : (c + 1) * 8 ^ n ≤ 8 * 8 ^ n := Nat.mul_le_mul_right _ (by omega)
      rw [Nat.pow_succ]
      rw [Nat.add_mul] at this
      omega
    have := h _ hlt
    have e1 : (c * 8 ^ n + i) / 8 ^ n = c := by
      rw [Nat.mul_comm, Nat.mul_add_div hp, Nat.div_eq_of_lt hi]; rfl
    have e2 : (c * 8 ^ n + i) % 8 ^ n = i := by
      rw [Nat.mul_comm, Nat.mul_add_mod, Nat.mod_eq_of_lt hi]
    have this : getL α n ((c * 8 ^ n + i) % 8 ^ n) (ch ((c * 8 ^ n + i) / 8 ^ n) (t : N8 (L α n))) = getL α n ((c * 8 ^ n + i) % 8 ^ n) (ch ((c * 8 ^ n + i) / 8 ^ n) (u : N8 (L α n))) := this
    rw [e1, e2] at this
    exact this

/-! ### Temporaries -/
abbrev eg (t : Nat) (en : Env) : AV := getL AV 3 t en
abbrev es (t : Nat) (v : AV) (en : Env) : Env := setL AV v 3 t en
theorem xT_eq (t : Nat) (en : Env) (κ : AV → R) : xT t en κ = κ (eg t en) := getK_eq κ 3 t en
theorem dT_eq (t : Nat) (v : AV) (en : Env) (κ : Env → R) : dT t v en κ = κ (es t v en) := setK_eq v 3 t en κ
theorem eg_es {t u : Nat} (v : AV) (en : Env) (ht : t < 512) (hu : u < 512) : eg t (es u v en) = if t = u then v else eg t en := by
  by_cases h : t = u
  · subst h; rw [if_pos rfl]; exact getL_setL v 3 t en
  · rw [if_neg h]; exact getL_setL_ne v 3 en hu ht h
/-- many are set, one behind the other -/
def esL : List (Nat × AV) → Env → Env
  | [], en => en
  | (t, v) :: l, en => esL l (es t v en)
noncomputable def setsK (l : List (Nat × AV)) : Env → (Env → R) → R :=
  @List.rec (Nat × AV) (fun _ => Env → (Env → R) → R) (fun en κ => κ en) (fun p _ ih en κ => match p with | (t, v) => setK AV v 3 t en fun en => ih en κ) l
theorem setsK_eq : ∀ (l : List (Nat × AV)) (en : Env) (κ : Env → R), setsK l en κ = κ (esL l en)
  | [], _, _ => rfl
  | (t, v) :: l, en, κ => by
    show setK AV v 3 t en (fun en => setsK l en κ) = _
    rw [setK_eq, setsK_eq l]; rfl
/-- the value that is set last -/
def lk (t : Nat) : List (Nat × AV) → AV → AV
  | [], d => d
  | (u, v) :: l, d => lk t l (if t = u then v else d)
theorem eg_esL {t : Nat} (ht : t < 512) : ∀ (l : List (Nat × AV)) (en : Env), (∀ p ∈ l, p.1 < 512) → eg t (esL l en) = lk t l (eg t en)
  | [], _, _ => rfl
  | (u, v) :: l, en, h => by
    show eg t (esL l (es u v en)) = lk t l (if t = u then v else eg t en)
    rw [eg_esL ht l _ (fun p hp => h p (List.mem_cons_of_mem _ hp)), eg_es v en ht (h _ (List.mem_cons_self ..))]
theorem lk_same {t : Nat} : ∀ (l : List (Nat × AV)) (d d' : AV), (∃ p ∈ l, p.1 = t) → lk t l d = lk t l d'
  | [], _, _, ⟨p, hp, _⟩ => by cases hp
  | (u, v) :: l, d, d', ⟨p, hp, hpt⟩ => by
    show lk t l (if t = u then v else d) = lk t l (if t = u then v else d')
    by_cases h : t = u
    · rw [if_pos h, if_pos h]
    · rw [if_neg h, if_neg h]
      rcases List.mem_cons.1 hp with rfl | hp
      · exact absurd hpt.symm h
      · exact lk_same l d d' ⟨p, hp, hpt⟩
theorem lk_none {t : Nat} : ∀ (l : List (Nat × AV)) (d : AV), (¬ ∃ p ∈ l, p.1 = t) → lk t l d = d
  | [], _, _ => rfl
  | (u, v) :: l, d, h => by
    show lk t l (if t = u then v else d) = d
    rw [if_neg (fun e => h ⟨_, List.mem_cons_self .., e.symm⟩)]
    exact lk_none l d fun ⟨p, hp, e⟩ => h ⟨p, List.mem_cons_of_mem _ hp, e⟩
/-- what was set is set anew -/
theorem esL_over {l1 l2 : List (Nat × AV)} (h1 : ∀ p ∈ l1, p.1 < 512) (h2 : ∀ p ∈ l2, p.1 < 512) (hs : ∀ p ∈ l1, ∃ q ∈ l2, q.1 = p.1) (en : Env) : esL l2 (esL l1 en) = esL l2 en := by
  refine ext_L 3 _ _ fun t ht => ?_
  have ht : t < 512 := ht
  show eg t _ = eg t _
  rw [eg_esL ht l2 _ h2, eg_esL ht l1 _ h1, eg_esL ht l2 _ h2]
  by_cases h : ∃ p ∈ l2, p.1 = t
  · exact lk_same l2 _ _ h
  · rw [lk_none l1 _ fun ⟨p, hp, e⟩ => h (let ⟨q, hq, e'⟩ := hs p hp; ⟨q, hq, e'.trans e⟩)]

/-! ### Runs -/
theorem run_add (tb : Tb) : ∀ (n m : Nat) (s : ASt) (κ : ASt → R), run tb (n + m) s κ = run tb n s fun s => run tb m s κ
  | 0, m, s, κ => by rw [Nat.zero_add]; rfl
  | n + 1, m, s, κ => by
    rw [show n + 1 + m = (n + m) + 1 by omega]
    show stepK tb s (fun s => run tb (n + m) s κ) = stepK tb s (fun s => run tb n s fun s => run tb m s κ)
    congr 1
    funext s
    exact run_add tb n m s κ
/-- from a state to another one -/
def To (tb : Tb) (s s' : ASt) : Prop := ∃ n, ∀ κ : ASt → R, κ s' = true → run tb n s κ = true
theorem To.refl (tb : Tb) (s : ASt) : To tb s s := ⟨0, fun _ h => h⟩
theorem To.trans {tb : Tb} {s s' s'' : ASt} : To tb s s' → To tb s' s'' → To tb s s''
  | ⟨n, h⟩, ⟨m, h'⟩ => ⟨n + m, fun κ hk => by rw [run_add]; exact h _ (h' κ hk)⟩

/-! ### Cells -/
theorem asN_i (k n : Nat) (κ : Nat → R) : asN κ (.i k (.ofNat n)) = κ n := rfl
theorem ltV_ii (k : Nat) (a b : Int) (κ : AV → R) : ltV k (.i k a) (.i k b) κ = cmLt a b fun c => κ (.b c) := by
  rw [ltV_old (fun _ _ h => by cases h) rfl, asK_i, asK_i]; simp only [fbool_eq]
theorem geV_ii (k : Nat) (a b : Int) (κ : AV → R) : geV k (.i k a) (.i k b) κ = cmLe b a fun c => κ (.b c) := by
  have e : geV k (.i k a) (.i k b) κ = asK k (fun a => asK k (fun b => cmLe b a fun c => fbool c fun c => κ (.b c)) (.i k b)) (.i k a) := rfl
  rw [e, asK_i, asK_i]; simp only [fbool_eq]
theorem eqV_ii (neg : Bool) (k : Nat) (a b : Int) (κ : AV → R) : eqV neg k (.i k a) (.i k b) κ = cmEq a b fun c => κ (.b (eqB neg (not' c))) := by
  have e : eqV neg k (.i k a) (.i k b) κ = asK k (fun a => asK k (fun b => cmEq a b fun c => fbool (eqB neg (not' c)) fun c => κ (.b c)) (.i k b)) (.i k a) := rfl
  rw [e, asK_i, asK_i]; simp only [fbool_eq]
theorem laV_ii (f : ArF) (g : LaF) (k : Nat) (a b : Int) (κ : AV → R) : laV f g k (.i k a) (.i k b) κ = f k a b fun r => κ (.i k r) := by
  have e : laV f g k (.i k a) (.i k b) κ = asK k (fun a => asK k (fun b => f k a b fun r => κ (.i k r)) (.i k b)) (.i k a) := rfl
  rw [e, asK_i, asK_i]
theorem ldV_p (h : H) (o i : Nat) (κ : AV → R) : ldV h (.p o i) κ = rd1 o i h κ := rfl
theorem asB_b (c : Bool) (κ : Bool → R) : asB κ (.b c) = κ c := rfl
theorem asP_p (o i : Nat) (κ : Nat → Nat → R) : asP κ (.p o i) = κ o i := rfl
theorem asSl_sl (o i l : Nat) (c : Option Nat) (κ : Nat → Nat → Nat → Option Nat → R) : asSl κ (.sl o i l c) = κ o i l c := rfl
theorem cmLt_nat (a b : Nat) (κ : Bool → R) : cmLt (.ofNat a) (.ofNat b) κ = κ (Nat.blt a b) := rfl
/-- what lies in an object, cell by cell -/
def objC (h : H) (o off : Nat) : Option AV := match obj h o with
  | some (.sm l) => l[off]?
  | some (.ce N _ z zl d t _ _) => if off < N then cellO z zl d t off else none
  | _ => none
theorem rd1_eq {o off : Nat} {h : H} {v : AV} (hv : objC h o off = some v) (κ : AV → R) : rd1 o off h κ = κ v := by
  unfold objC at hv
  cases ho : obj h o with
  | none => rw [ho] at hv; cases hv
  | some a =>
    rw [ho] at hv
    unfold rd1
    rw [get_is ho]
    cases a with
    | sm l =>
      show nthK AV κ l off = κ v
      rw [nthK_eq]
      rw [show l[off]? = some v from hv]
    | ce N es z zl d t top sh =>
      have hv : (if off < N then cellO z zl d t off else none) = some v := hv
      split at hv
      · rename_i hlt
        show br (Nat.blt off N) (cellK z zl d t κ off) false = _
        rw [show Nat.blt off N = true by simpa [Nat.blt_eq] using hlt, brT, cellK_eq, hv]
      · cases hv
    | _ => cases hv
theorem rdK_cells {o off n : Nat} {h : H} {κ : List AV → R} (e : rdK o off n h κ = true) : ∃ l, l.length = n ∧ κ l = true ∧ ∀ j v, l[j]? = some v → objC h o (off + j) = some v := by
  obtain ⟨a, ha, e1⟩ := get_true e
  unfold objC
  rw [ha]
  cases a with
  | sm l =>
    simp only [dropL_eq, takeK_eq, List.length_drop] at e1
    split at e1
    · rename_i hn
      refine ⟨(l.drop off).take n, by simp; omega, e1, fun j v hj => ?_⟩
      rw [List.getElem?_take] at hj
      split at hj
      · rw [List.getElem?_drop] at hj; exact hj
      · cases hj
    · cases e1
  | ce N es z zl d t top sh =>
    obtain ⟨hle, e2⟩ := br_t e1
    have hle : off + n ≤ N := Nat.le_of_ble_eq_true hle
    obtain ⟨vs, k1, k2, k3⟩ := cellsT_true e2
    rw [k3] at e2
    refine ⟨vs, k1, e2, fun j v hj => ?_⟩
    have hjn : j < n := by rw [← k1]; exact (List.getElem?_eq_some_iff.1 hj).1
    show (if off + j < N then cellO z zl d t (off + j) else none) = _
    rw [if_pos (by omega)]
    exact k2 j v hj
  | _ => cases e1
/-! ### A long row read at once: its noughts by the stretch -/
def kids {α : Type} : N8 α → List α
  | .mk a b c d e f g h => [a, b, c, d, e, f, g, h]
def cellsL (z0 : AV) : (d : Nat) → L (Option AV) d → List AV
  | 0, x => [Option.getD (α := AV) x z0]
  | n + 1, t => (kids (t : N8 (L (Option AV) n))).flatMap (cellsL z0 n)
theorem flat_get {α β : Type} {f : α → List β} {m : Nat} (hm : 0 < m) (hf : ∀ x, (f x).length = m) : ∀ (l : List α) (i : Nat), (l.flatMap f)[i]? = (l[i / m]?).bind fun x => (f x)[i % m]?
  | [], i => by simp
  | x :: l, i => by
    rw [List.flatMap_cons]
    by_cases h : i < m
    · rw [List.getElem?_append_left (by rw [hf]; exact h), Nat.div_eq_of_lt h, Nat.mod_eq_of_lt h]
      rfl
    · obtain ⟨j, rfl⟩ : ∃ j, i = j + m := ⟨i - m, by omega⟩
      rw [List.getElem?_append_right (by rw [hf]; omega), hf, Nat.add_sub_cancel, flat_get hm hf l j, Nat.add_div_right _ hm, Nat.add_mod_right]
      rfl
theorem cellsL_len (z0 : AV) : ∀ (d : Nat) (t : L (Option AV) d), (cellsL z0 d t).length = 8 ^ d
  | 0, _ => rfl
  | n + 1, t => by
    have key : ∀ t : N8 (L (Option AV) n), ((kids t).flatMap (cellsL z0 n)).length = 8 ^ (n + 1) := by
      intro t
      cases t
      simp only [kids, List.flatMap_cons, List.flatMap_nil, List.length_append, cellsL_len z0 n, List.length_nil, Nat.pow_succ]
      omega
    exact key t
theorem kids_get {α : Type} (t : N8 α) (i : Nat) (h : i < 8) : (kids t)[i]? = some (ch i t) := by
  cases t
  rcases i with _ | _ | _ | _ | _ | _ | _ | _ | i <;> first | rfl | omega
theorem cellsL_get (z0 : AV) : ∀ (d : Nat) (t : L (Option AV) d) (i : Nat), i < 8 ^ d → (cellsL z0 d t)[i]? = some ((getL (Option AV) d i t).getD z0)
  | 0, _, i, h => by
    have : i = 0 := by simp at h; omega
    subst this; rfl
  | n + 1, t, i, h => by
    have hp : 0 < 8 ^ n := Nat.pow_pos (by omega)
    have hd : i / 8 ^ n < 8 := Nat.div_lt_of_lt_mul (by rw [Nat.pow_succ] at h; exact h)
    have key : ∀ t : N8 (L (Option AV) n), ((kids t).flatMap (cellsL z0 n))[i]? = some ((getL (Option AV) n (i % 8 ^ n) (ch (i / 8 ^ n) t)).getD z0) := by
      intro t
      rw [flat_get hp (cellsL_len z0 n), kids_get t _ hd]
      exact cellsL_get z0 n _ _ (Nat.mod_lt _ hp)
    exact key t
/-- a stretch of noughts, or a value -/
inductive Ck where
  | z (n : Nat)
  | v (v : AV)
def expand : List Ck → List AV
  | [] => []
  | .z n :: r => List.replicate n (.i 3 (.ofNat 0)) ++ expand r
  | .v v :: r => v :: expand r
theorem expand_append : ∀ a b : List Ck, expand (a ++ b) = expand a ++ expand b
  | [], _ => rfl
  | .z n :: r, b => by simp only [List.cons_append, expand, expand_append r b, List.append_assoc]
  | .v v :: r, b => by simp only [List.cons_append, expand, expand_append r b]
noncomputable def isZ0 (v : AV) : Bool := match v with
  | .i k n => @Bool.rec (fun _ => Bool) false (@Int.rec (fun _ => Bool) (fun n => Nat.beq n 0) (fun _ => false) n) (Nat.beq k 3)
  | _ => false
theorem isZ0_eq {v : AV} (h : isZ0 v = true) : v = .i 3 (.ofNat 0) := by
  cases v <;> first | (cases h; done) | skip
  rename_i k n
  have h : (@Bool.rec (fun _ => Bool) false (@Int.rec (fun _ => Bool) (fun n => Nat.beq n 0) (fun _ => false) n) (Nat.beq k 3)) = true := h
  cases hk : Nat.beq k 3 with
  | false => rw [hk] at h; cases h
  | true =>
    rw [hk] at h
    have hk := Nat.eq_of_beq_eq_true hk
    subst hk
    cases n with
    | negSucc n => cases h
    | ofNat n => have := Nat.eq_of_beq_eq_true (show Nat.beq n 0 = true from h); subst this; rfl
noncomputable def isZo (x : Option AV) : Bool := @Option.rec AV (fun _ => Bool) true isZ0 x
theorem isZo_eq {x : Option AV} (h : isZo x = true) : x.getD (.i 3 (.ofNat 0)) = .i 3 (.ofNat 0) := by
  cases x with
  | none => rfl
  | some v => exact isZ0_eq h
noncomputable def and' (a b : Bool) : Bool := @Bool.rec (fun _ => Bool) false b a
theorem and'_true {a b : Bool} (h : and' a b = true) : a = true ∧ b = true := by
  cases a
  · cases h
  · exact ⟨rfl, h⟩
/-- nothing but noughts -/
noncomputable def allZ (d : Nat) : L (Option AV) d → Bool :=
  @Nat.rec (fun d => L (Option AV) d → Bool) isZo (fun n ih t => @N8.rec (L (Option AV) n) (fun _ => Bool) (fun a b c d e f g h => and' (ih a) (and' (ih b) (and' (ih c) (and' (ih d) (and' (ih e) (and' (ih f) (and' (ih g) (ih h)))))))) t) d
theorem allZ_cells : ∀ (d : Nat) (t : L (Option AV) d), allZ d t = true → cellsL (.i 3 (.ofNat 0)) d t = List.replicate (8 ^ d) (.i 3 (.ofNat 0))
  | 0, x, h => by
    show [Option.getD (α := AV) x _] = _
    rw [isZo_eq h]; rfl
  | n + 1, t, h => by
    have ih := allZ_cells n
    have key : ∀ t : N8 (L (Option AV) n), @N8.rec (L (Option AV) n) (fun _ => Bool) (fun a b c d e f g h => and' (allZ n a) (and' (allZ n b) (and' (allZ n c) (and' (allZ n d) (and' (allZ n e) (and' (allZ n f) (and' (allZ n g) (allZ n h)))))))) t = true →
        (kids t).flatMap (cellsL (.i 3 (.ofNat 0)) n) = List.replicate (8 ^ (n + 1)) (.i 3 (.ofNat 0)) := by
      intro t h
      cases t
      obtain ⟨h1, h⟩ := and'_true h
      obtain ⟨h2, h⟩ := and'_true h
      obtain ⟨h3, h⟩ := and'_true h
      obtain ⟨h4, h⟩ := and'_true h
      obtain ⟨h5, h⟩ := and'_true h
      obtain ⟨h6, h⟩ := and'_true h
      obtain ⟨h7, h8⟩ := and'_true h
      simp only [kids, List.flatMap_cons, List.flatMap_nil, ih _ h1, ih _ h2, ih _ h3, ih _ h4, ih _ h5, ih _ h6, ih _ h7, ih _ h8, List.append_nil, List.replicate_append_replicate, Nat.pow_succ]
      congr 1
      omega
    exact key t h
/-- a tree's stretches, ahead of those behind it -/
noncomputable def walk (d : Nat) : L (Option AV) d → List Ck → (List Ck → R) → R :=
  @Nat.rec (fun d => L (Option AV) d → List Ck → (List Ck → R) → R) (fun x acc κ => br (isZo x) (κ (.z 1 :: acc)) (@Option.rec AV (fun _ => R) false (fun v => κ (.v v :: acc)) x))
    (fun n ih t acc κ => br (allZ (Nat.succ n) t) (fnat (Nat.pow 8 (Nat.succ n)) fun m => κ (.z m :: acc))
      (@N8.rec (L (Option AV) n) (fun _ => R) (fun a b c d e f g h => ih h acc fun acc => ih g acc fun acc => ih f acc fun acc => ih e acc fun acc => ih d acc fun acc => ih c acc fun acc => ih b acc fun acc => ih a acc κ) t)) d
noncomputable def walkL (d : Nat) (l : List (L (Option AV) d)) : List Ck → (List Ck → R) → R :=
  @List.rec (L (Option AV) d) (fun _ => List Ck → (List Ck → R) → R) (fun acc κ => κ acc) (fun x _ ih acc κ => ih acc fun acc => walk d x acc κ) l
theorem walk_true : ∀ (d : Nat) (t : L (Option AV) d) (acc : List Ck) (κ : List Ck → R), walk d t acc κ = true → ∃ cs, κ cs = true ∧ expand cs = cellsL (.i 3 (.ofNat 0)) d t ++ expand acc
  | 0, x, acc, κ, e => by
    have key : ∀ x : Option AV, br (isZo x) (κ (.z 1 :: acc)) (@Option.rec AV (fun _ => R) false (fun v => κ (.v v :: acc)) x) = true → ∃ cs, κ cs = true ∧ expand cs = [x.getD (.i 3 (.ofNat 0))] ++ expand acc := by
      intro x e
      rcases br_true e with ⟨h, e1⟩ | ⟨_, e1⟩
      · exact ⟨_, e1, by rw [isZo_eq h]; rfl⟩
      · cases x with
        | none => cases e1
        | some v => exact ⟨_, e1, rfl⟩
    exact key x e
  | n + 1, t, acc, κ, e => by
    have ih := walk_true n
    have key : ∀ t : N8 (L (Option AV) n), br (allZ (Nat.succ n) t) (fnat (Nat.pow 8 (Nat.succ n)) fun m => κ (.z m :: acc))
      (@N8.rec (L (Option AV) n) (fun _ => R) (fun a b c d e f g h => walk n h acc fun acc => walk n g acc fun acc => walk n f acc fun acc => walk n e acc fun acc => walk n d acc fun acc => walk n c acc fun acc => walk n b acc fun acc => walk n a acc κ) t) = true →
        ∃ cs, κ cs = true ∧ expand cs = (kids t).flatMap (cellsL (.i 3 (.ofNat 0)) n) ++ expand acc := by
      intro t e
      rcases br_true e with ⟨h, e1⟩ | ⟨_, e1⟩
      · rw [fnat_eq] at e1
        exact ⟨_, e1, by rw [expand]; exact congrArg (· ++ expand acc) (allZ_cells (n + 1) t h).symm⟩
      · cases t
        obtain ⟨c8, e1, q8⟩ := ih _ _ _ e1
        obtain ⟨c7, e1, q7⟩ := ih _ _ _ e1
        obtain ⟨c6, e1, q6⟩ := ih _ _ _ e1
        obtain ⟨c5, e1, q5⟩ := ih _ _ _ e1
        obtain ⟨c4, e1, q4⟩ := ih _ _ _ e1
        obtain ⟨c3, e1, q3⟩ := ih _ _ _ e1
        obtain ⟨c2, e1, q2⟩ := ih _ _ _ e1
        obtain ⟨c1, e1, q1⟩ := ih _ _ _ e1
        exact ⟨c1, e1, by simp only [q1, q2, q3, q4, q5, q6, q7, q8, kids, List.flatMap_cons, List.flatMap_nil, List.append_assoc, List.append_nil, List.nil_append]⟩
    exact key t e
theorem walkL_true (d : Nat) : ∀ (l : List (L (Option AV) d)) (acc : List Ck) (κ : List Ck → R), walkL d l acc κ = true → ∃ cs, κ cs = true ∧ expand cs = l.flatMap (cellsL (.i 3 (.ofNat 0)) d) ++ expand acc
  | [], acc, κ, e => ⟨acc, e, rfl⟩
  | x :: l, acc, κ, e => by
    have e : walkL d l acc (fun acc => walk d x acc κ) = true := e
    obtain ⟨c1, e1, q1⟩ := walkL_true d l _ _ e
    obtain ⟨c2, e2, q2⟩ := walk_true d x _ _ e1
    exact ⟨c2, e2, by rw [q2, q1, List.flatMap_cons, List.append_assoc]⟩
/-- the first N cells of a tree -/
noncomputable def walkN (N : Nat) (κ : List Ck → R) (d : Nat) : L (Option AV) d → R :=
  @Nat.rec (fun d => L (Option AV) d → R) (fun _ => false) (fun n ih t => @N8.rec (L (Option AV) n) (fun _ => R) (fun a b c e f g i j => br (Nat.ble N (Nat.pow 8 n)) (ih a)
    (fnat (Nat.div N (Nat.pow 8 n)) fun q => br (Nat.ble q 8) (br (Nat.beq (Nat.mul q (Nat.pow 8 n)) N) (takeK (L (Option AV) n) q [a, b, c, e, f, g, i, j] fun l => walkL n l [] κ) false) false)) t) d
theorem walkN_true {N : Nat} {κ : List Ck → R} : ∀ (d : Nat) (t : L (Option AV) d), walkN N κ d t = true → ∃ cs, (expand cs).length = N ∧ κ cs = true ∧ ∀ j, j < N → (expand cs)[j]? = some ((getL (Option AV) d j t).getD (.i 3 (.ofNat 0)))
  | 0, _, e => by cases e
  | d + 1, t, e => by
    have ih := walkN_true (N := N) (κ := κ) d
    have hp : 0 < 8 ^ d := Nat.pow_pos (by omega)
    have key : ∀ t : N8 (L (Option AV) d), @N8.rec (L (Option AV) d) (fun _ => R) (fun a b c e f g i j => br (Nat.ble N (Nat.pow 8 d)) (walkN N κ d a)
        (fnat (Nat.div N (Nat.pow 8 d)) fun q => br (Nat.ble q 8) (br (Nat.beq (Nat.mul q (Nat.pow 8 d)) N) (takeK (L (Option AV) d) q [a, b, c, e, f, g, i, j] fun l => walkL d l [] κ) false) false)) t = true →
        ∃ cs, (expand cs).length = N ∧ κ cs = true ∧ ∀ j, j < N → (expand cs)[j]? = some ((getL (Option AV) d (j % 8 ^ d) (ch (j / 8 ^ d) t)).getD (.i 3 (.ofNat 0))) := by
      intro t e
      have e : br (Nat.ble N (8 ^ d)) (walkN N κ d (ch 0 t)) (fnat (N / 8 ^ d) fun q => br (Nat.ble q 8) (br (Nat.beq (q * 8 ^ d) N) (takeK (L (Option AV) d) q (kids t) fun l => walkL d l [] κ) false) false) = true := by
        cases t; exact e
      rcases br_true e with ⟨b1, e1⟩ | ⟨_, e1⟩
      · have b1 : N ≤ 8 ^ d := Nat.le_of_ble_eq_true b1
        obtain ⟨l, h1, h2, h3⟩ := ih _ e1
        refine ⟨l, h1, h2, fun j hj => ?_⟩
        rw [Nat.div_eq_of_lt (by omega), Nat.mod_eq_of_lt (by omega)]
        exact h3 j hj
      · rw [fnat_eq] at e1
        obtain ⟨b3, e2⟩ := br_t e1
        obtain ⟨b4, e3⟩ := br_t e2
        have b3 : N / 8 ^ d ≤ 8 := Nat.le_of_ble_eq_true b3
        have b4 : N / 8 ^ d * 8 ^ d = N := Nat.eq_of_beq_eq_true b4
        have hk8 : (kids t).length = 8 := by cases t; rfl
        rw [takeK_eq, if_pos (by rw [hk8]; exact b3)] at e3
        obtain ⟨cs, q1, q2⟩ := walkL_true d _ _ _ e3
        have q2 : expand cs = ((kids t).take (N / 8 ^ d)).flatMap (cellsL (.i 3 (.ofNat 0)) d) := by rw [q2, expand, List.append_nil]
        have hlen : (((kids t).take (N / 8 ^ d)).flatMap (cellsL (.i 3 (.ofNat 0)) d)).length = N := by
          have : ∀ l : List (L (Option AV) d), (l.flatMap (cellsL (.i 3 (.ofNat 0)) d)).length = l.length * 8 ^ d := by
            intro l
            induction l with
            | nil => simp
            | cons x l ih => rw [List.flatMap_cons, List.length_append, ih, cellsL_len, List.length_cons, Nat.add_mul]; omega
          rw [this, List.length_take, hk8, Nat.min_eq_left b3, b4]
        refine ⟨cs, by rw [q2]; exact hlen, q1, fun j hj => ?_⟩
        have hq : j / 8 ^ d < N / 8 ^ d := by
          rw [Nat.div_lt_iff_lt_mul hp, b4]; exact hj
        rw [q2, flat_get hp (cellsL_len _ d), List.getElem?_take_of_lt hq, kids_get _ _ (by omega)]
        exact cellsL_get _ d _ _ (Nat.mod_lt _ hp)
    exact key t e
/-- the first n cells of a row of numbers, as make leaves it but for some -/
noncomputable def rdC (o off n : Nat) (h : H) (κ : List Ck → R) : R := get o h fun a => match a with
  | .ce N _ z zl d t _ _ => (match z with
      | [z0] => br (isZ0 z0) (br (Nat.beq zl 1) (br (Nat.ble n N) (br (Nat.beq off 0) (walkN n κ d t) false) false) false) false
      | _ => false)
  | _ => false
theorem rdC_cells {o off n : Nat} {h : H} {κ : List Ck → R} (e : rdC o off n h κ = true) : ∃ cs, (expand cs).length = n ∧ κ cs = true ∧ ∀ j v, (expand cs)[j]? = some v → objC h o (off + j) = some v := by
  obtain ⟨a, ha, e1⟩ := get_true e
  cases a <;> first | (cases e1; done) | skip
  rename_i N es z zl d t top sh
  match z, e1, ha with
  | [], e1, _ => cases e1
  | _ :: _ :: _, e1, _ => cases e1
  | [z0], e1, ha =>
    have e1 : br (isZ0 z0) (br (Nat.beq zl 1) (br (Nat.ble n N) (br (Nat.beq off 0) (walkN n κ d t) false) false) false) false = true := e1
    obtain ⟨b0, e1⟩ := br_t e1
    obtain ⟨b1, e2⟩ := br_t e1
    obtain ⟨b2, e3⟩ := br_t e2
    obtain ⟨b3, e3⟩ := br_t e3
    have b0 := isZ0_eq b0
    have b1 := Nat.eq_of_beq_eq_true b1
    have b2 : n ≤ N := Nat.le_of_ble_eq_true b2
    have b3 := Nat.eq_of_beq_eq_true b3
    subst b0 b1 b3
    obtain ⟨cs, h1, h2, h3⟩ := walkN_true d t e3
    refine ⟨cs, h1, h2, fun j v hj => ?_⟩
    have hjn : j < n := by rw [← h1]; exact (List.getElem?_eq_some_iff.1 hj).1
    rw [h3 j hjn] at hj
    injection hj with hj
    rw [Nat.zero_add]
    unfold objC
    rw [ha]
    show (if j < N then cellO [.i 3 (.ofNat 0)] 1 d t j else none) = some v
    rw [if_pos (by omega)]
    unfold cellO
    rw [← hj]
    cases hg : getL (Option AV) d j t with
    | none => simp [Nat.mod_one]
    | some u => rfl
end Go.AM
