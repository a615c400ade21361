/-
  AM, 37: between two steps, what is named no more may be forgotten; runs told piece by piece. Conditions: none.
-/
import Derived.Test.YtafgmkboaippbaaGreatAmSa
namespace Go.AM
open Go

noncomputable def okSh (K : Nat → Bool) (l : List Nat) : Bool := @List.rec Nat (fun _ => Bool) true (fun o _ ih => and' (K o) ih) l
theorem okSh_mem {K : Nat → Bool} : ∀ {l : List Nat}, okSh K l = true → ∀ o ∈ l, K o = true
  | x :: l, h, o, ho => by
    obtain ⟨h1, h2⟩ := and'_true (show and' (K x) (okSh K l) = true from h)
    rcases List.mem_cons.1 ho with rfl | ho
    · exact h1
    · exact okSh_mem h2 o ho
/-! ### A heap without what lies from n on -/
noncomputable def t80 (α : Type) (z : α) (ih : α → (α → R) → R) (t : N8 α) (k : N8 α → R) : R := @N8.rec α (fun _ => R) (fun a b c d e f g h => ih a fun y => k (.mk y z z z z z z z)) t
noncomputable def t81 (α : Type) (z : α) (ih : α → (α → R) → R) (t : N8 α) (k : N8 α → R) : R := @N8.rec α (fun _ => R) (fun a b c d e f g h => ih b fun y => k (.mk a y z z z z z z)) t
noncomputable def t82 (α : Type) (z : α) (ih : α → (α → R) → R) (t : N8 α) (k : N8 α → R) : R := @N8.rec α (fun _ => R) (fun a b c d e f g h => ih c fun y => k (.mk a b y z z z z z)) t
noncomputable def t83 (α : Type) (z : α) (ih : α → (α → R) → R) (t : N8 α) (k : N8 α → R) : R := @N8.rec α (fun _ => R) (fun a b c d e f g h => ih d fun y => k (.mk a b c y z z z z)) t
noncomputable def t84 (α : Type) (z : α) (ih : α → (α → R) → R) (t : N8 α) (k : N8 α → R) : R := @N8.rec α (fun _ => R) (fun a b c d e f g h => ih e fun y => k (.mk a b c d y z z z)) t
noncomputable def t85 (α : Type) (z : α) (ih : α → (α → R) → R) (t : N8 α) (k : N8 α → R) : R := @N8.rec α (fun _ => R) (fun a b c d e f g h => ih f fun y => k (.mk a b c d e y z z)) t
noncomputable def t86 (α : Type) (z : α) (ih : α → (α → R) → R) (t : N8 α) (k : N8 α → R) : R := @N8.rec α (fun _ => R) (fun a b c d e f g h => ih g fun y => k (.mk a b c d e f y z)) t
noncomputable def t87 (α : Type) (z : α) (ih : α → (α → R) → R) (t : N8 α) (k : N8 α → R) : R := @N8.rec α (fun _ => R) (fun a b c d e f g h => ih h fun y => k (.mk a b c d e f g y)) t
noncomputable def selT (α : Type) (z : α) (d : Nat) : (α → (α → R) → R) → N8 α → (N8 α → R) → R := @Nat.rec (fun _ => (α → (α → R) → R) → N8 α → (N8 α → R) → R) (t80 α z) (fun d _ => @Nat.rec (fun _ => (α → (α → R) → R) → N8 α → (N8 α → R) → R) (t81 α z) (fun d _ => @Nat.rec (fun _ => (α → (α → R) → R) → N8 α → (N8 α → R) → R) (t82 α z) (fun d _ => @Nat.rec (fun _ => (α → (α → R) → R) → N8 α → (N8 α → R) → R) (t83 α z) (fun d _ => @Nat.rec (fun _ => (α → (α → R) → R) → N8 α → (N8 α → R) → R) (t84 α z) (fun d _ => @Nat.rec (fun _ => (α → (α → R) → R) → N8 α → (N8 α → R) → R) (t85 α z) (fun d _ => @Nat.rec (fun _ => (α → (α → R) → R) → N8 α → (N8 α → R) → R) (t86 α z) (fun d _ => t87 α z) d) d) d) d) d) d) d
noncomputable def trK (d : Nat) : Nat → L (Option AO) d → (L (Option AO) d → R) → R :=
  @Nat.rec (fun d => Nat → L (Option AO) d → (L (Option AO) d → R) → R) (fun i t κ => @Nat.rec (fun _ => R) (κ none') (fun _ _ => κ t) i)
    (fun d ih i => selT (L (Option AO) d) (repL (Option AO) none d) (Nat.div i (Nat.pow 8 d)) (ih (Nat.mod i (Nat.pow 8 d)))) d
/-- place q set, what lies behind it z -/
def tch {α : Type} (q : Nat) (y z : α) : N8 α → N8 α
  | .mk a b c d e f g _ => match q with
    | 0 => .mk y z z z z z z z | 1 => .mk a y z z z z z z | 2 => .mk a b y z z z z z | 3 => .mk a b c y z z z z
    | 4 => .mk a b c d y z z z | 5 => .mk a b c d e y z z | 6 => .mk a b c d e f y z | _ => .mk a b c d e f g y
theorem selT_eq {α : Type} (q : Nat) (ih : α → (α → R) → R) (y z : α) (t : N8 α) (k : N8 α → R) (h : ∀ k', ih (ch q t) k' = k' y) : selT α z q ih t k = k (tch q y z t) := by
  cases t
  match q with
  | 0 => exact h _
  | 1 => exact h _
  | 2 => exact h _
  | 3 => exact h _
  | 4 => exact h _
  | 5 => exact h _
  | 6 => exact h _
  | q + 7 => exact h _
theorem ch_tch {α : Type} {q p : Nat} (hq : q < 8) (hp : p < 8) (y z : α) (t : N8 α) : ch p (tch q y z t) = if p < q then ch p t else if p = q then y else z := by
  cases t
  rcases q with _ | _ | _ | _ | _ | _ | _ | _ | q <;> rcases p with _ | _ | _ | _ | _ | _ | _ | _ | p <;> first | rfl | omega
def trnF : (d : Nat) → Nat → L (Option AO) d → L (Option AO) d
  | 0, i, t => match i with | 0 => none | _ => t
  | d + 1, i, t => (tch (i / 8 ^ d) (trnF d (i % 8 ^ d) (ch (i / 8 ^ d) (t : N8 (L (Option AO) d)))) (repL (Option AO) none d) (t : N8 (L (Option AO) d)) : N8 (L (Option AO) d))
theorem trK_eq : ∀ (d i : Nat) (t : L (Option AO) d) (κ : L (Option AO) d → R), trK d i t κ = κ (trnF d i t)
  | 0, 0, _, _ => rfl
  | 0, _ + 1, _, _ => rfl
  | d + 1, i, t, κ => selT_eq (α := L (Option AO) d) (i / 8 ^ d) (trK d (i % 8 ^ d)) (trnF d (i % 8 ^ d) (ch (i / 8 ^ d) (t : N8 (L (Option AO) d)))) (repL (Option AO) none d) t κ (fun k' => trK_eq d _ _ k')
theorem getL_trnF : ∀ (d n j : Nat) (t : L (Option AO) d), n < 8 ^ d → j < 8 ^ d → getL (Option AO) d j (trnF d n t) = if j < n then getL (Option AO) d j t else none
  | 0, n, j, t, hn, hj => by
    have h0 : n = 0 := by simp at hn; omega
    subst h0
    rfl
  | d + 1, n, j, t, hn, hj => by
    have hp : 0 < 8 ^ d := Nat.pow_pos (by omega)
    rw [Nat.pow_succ] at hn hj
    have hq : n / 8 ^ d < 8 := Nat.div_lt_of_lt_mul (by omega)
    have hq' : j / 8 ^ d < 8 := Nat.div_lt_of_lt_mul (by omega)
    have ih := getL_trnF d (n % 8 ^ d) (j % 8 ^ d)
    have key : ∀ t : N8 (L (Option AO) d), getL (Option AO) d (j % 8 ^ d) (ch (j / 8 ^ d) (tch (n / 8 ^ d) (trnF d (n % 8 ^ d) (ch (n / 8 ^ d) t)) (repL (Option AO) none d) t)) = if j < n then getL (Option AO) d (j % 8 ^ d) (ch (j / 8 ^ d) t) else none := by
      intro t
      have e1 := Nat.div_add_mod n (8 ^ d)
      have e2 := Nat.div_add_mod j (8 ^ d)
      have m1 := Nat.mod_lt n hp
      have m2 := Nat.mod_lt j hp
      rw [ch_tch hq hq']
      by_cases h1 : j / 8 ^ d < n / 8 ^ d
      · have : 8 ^ d * (j / 8 ^ d + 1) ≤ 8 ^ d * (n / 8 ^ d) := Nat.mul_le_mul_left _ h1
        rw [Nat.mul_add] at this
        rw [if_pos h1, if_pos (by omega)]
      · rw [if_neg h1]
        by_cases h2 : j / 8 ^ d = n / 8 ^ d
        · rw [if_pos h2, ih _ m1 m2, h2]
          by_cases h3 : j % 8 ^ d < n % 8 ^ d
          · rw [if_pos h3, if_pos (by rw [h2] at e2; omega)]
          · rw [if_neg h3, if_neg (by rw [h2] at e2; omega)]
        · have h3 : n / 8 ^ d + 1 ≤ j / 8 ^ d := by omega
          have : 8 ^ d * (n / 8 ^ d + 1) ≤ 8 ^ d * (j / 8 ^ d) := Nat.mul_le_mul_left _ h3
          rw [Nat.mul_add] at this
          rw [if_neg h2, if_neg (by omega), getL_repL]
    exact key t

theorem memN_iff (n : Nat) : ∀ l : List Nat, memN n l = true ↔ n ∈ l
  | [] => by simp [memN]
  | x :: l => by
    have e : memN n (x :: l) = @Bool.rec (fun _ => Bool) (memN n l) true (Nat.beq x n) := rfl
    rw [e]
    cases h : Nat.beq x n with
    | true => have := Nat.eq_of_beq_eq_true h; subst this; simp
    | false =>
      have : ¬ n = x := fun e => by subst e; rw [Nat.beq_refl] at h; cases h
      simp only [List.mem_cons, this, false_or]
      exact memN_iff n l
noncomputable def fltK (K : Nat → Bool) (l : List Nat) : List Nat := @List.rec Nat (fun _ => List Nat) [] (fun o _ ih => @Bool.rec (fun _ => List Nat) ih (o :: ih) (K o)) l
theorem fltK_mem {K : Nat → Bool} {o : Nat} : ∀ {l : List Nat}, o ∈ fltK K l ↔ o ∈ l ∧ K o = true
  | [] => by simp [fltK]
  | x :: l => by
    have e : fltK K (x :: l) = @Bool.rec (fun _ => List Nat) (fltK K l) (x :: fltK K l) (K x) := rfl
    rw [e]
    cases h : K x with
    | true =>
      simp only [List.mem_cons, fltK_mem (l := l)]
      constructor
      · rintro (rfl | ⟨h1, h2⟩)
        · exact ⟨.inl rfl, h⟩
        · exact ⟨.inr h1, h2⟩
      · rintro ⟨h1 | h1, h2⟩
        · exact .inl h1
        · exact .inr ⟨h1, h2⟩
    | false =>
      simp only [List.mem_cons, fltK_mem (l := l)]
      constructor
      · rintro ⟨h1, h2⟩; exact ⟨.inr h1, h2⟩
      · rintro ⟨h1 | h1, h2⟩
        · subst h1; rw [h] at h2; cases h2
        · exact ⟨h1, h2⟩
noncomputable def cutA (K : Nat → Bool) (a : AO) : AO := match a with
  | .ce n es z zl d t top sh => .ce n es z zl d t top (fltK K sh)
  | a => a
noncomputable def putsK (K : Nat → Bool) (h : H) (ks : List Nat) : H → (H → R) → R :=
  @List.rec Nat (fun _ => H → (H → R) → R) (fun h1 κ => κ h1) (fun o _ ih h1 κ => get o h fun a => put o (cutA K a) h1 fun h1 => ih h1 κ) ks
theorem putsK_true {K : Nat → Bool} {h : H} : ∀ {ks : List Nat} {h1 : H} {κ : H → R}, putsK K h ks h1 κ = true → (∀ o ∈ ks, o < 2097152) →
    ∃ h2, κ h2 = true ∧ ∀ o, o < 2097152 → (o ∈ ks → ∃ a, obj h o = some a ∧ obj h2 o = some (cutA K a)) ∧ (o ∉ ks → obj h2 o = obj h1 o)
  | [], h1, κ, e, _ => ⟨h1, e, fun o _ => ⟨(fun h => by cases h), fun _ => rfl⟩⟩
  | x :: ks, h1, κ, e, hk => by
    have e : get x h (fun a => put x (cutA K a) h1 fun h1 => putsK K h ks h1 κ) = true := e
    obtain ⟨a, ha, e1⟩ := get_true e
    rw [put_eq] at e1
    obtain ⟨h2, k1, k2⟩ := putsK_true e1 (fun o ho => hk o (List.mem_cons_of_mem _ ho))
    have hx := hk x (List.mem_cons_self ..)
    refine ⟨h2, k1, fun o ho => ⟨fun hm => ?_, fun hm => ?_⟩⟩
    · by_cases hks : o ∈ ks
      · exact (k2 o ho).1 hks
      · have : o = x := by
          rcases List.mem_cons.1 hm with h | h
          · exact h
          · exact absurd h hks
        subst this
        exact ⟨a, ha, by rw [(k2 o ho).2 hks, obj_set]⟩
    · rw [(k2 o ho).2 (fun h => hm (List.mem_cons_of_mem _ h)), obj_set_ne h1 _ hx ho (fun h => hm (h ▸ List.mem_cons_self ..))]
theorem cutA_wr (K : Nat → Bool) (a : AO) : (cutA K a).wr = a.wr := by cases a <;> rfl
theorem cutA_live (K : Nat → Bool) (a : AO) : (cutA K a).live = a.live := by cases a <;> rfl
theorem cutA_ext (K : Nat → Bool) (θ : Th) (o : Nat) (a : AO) : (cutA K a).ext θ o = a.ext θ o := by cases a <;> rfl
theorem cutA_sh {K : Nat → Bool} {a : AO} {x : Nat} : x ∈ (cutA K a).sh ↔ x ∈ a.sh ∧ K x = true := by
  cases a <;> first | exact fltK_mem | exact ⟨(fun h => by cases h), (fun h => by cases h.1)⟩
theorem cutA_or {P : Program} {θ : Th} {w : World} {o : Nat} {K : Nat → Bool} {a : AO} (h : OR P θ w o a) : OR P θ w o (cutA K a) := by
  cases a <;> exact h
/-! ### What is not kept is forgotten -/
noncomputable def fgK (ks : List Nat) (h : H) (nx : Nat) (κ : H → R) : R :=
  br (Nat.blt nx 2097152) (trK 7 nx (repL (Option AO) (some .dead) 7) fun h1 => br (okSh (fun o => Nat.blt o nx) ks) (putsK (fun o => memN o ks) h ks h1 κ) false) false
theorem fg_ok {P : Program} {w0 w : World} {θ : Th} {h : H} {nx : Nat} {ks : List Nat} {κ : H → R} (hR : HR P w0 [] θ h nx w) (e : fgK ks h nx κ = true) : ∃ h', HR P w0 [] θ h' nx w ∧ κ h' = true := by
  obtain ⟨b1, e1⟩ := br_t e
  have b1 : nx < 2097152 := by simpa [Nat.blt_eq] using b1
  rw [trK_eq] at e1
  obtain ⟨b2, e2⟩ := br_t e1
  have hks : ∀ o ∈ ks, o < nx := fun o ho => by
    have := okSh_mem b2 o ho
    simpa [Nat.blt_eq] using this
  obtain ⟨h2, e3, k2⟩ := putsK_true e2 (fun o ho => Nat.lt_trans (hks o ho) b1)
  have hin : ∀ {o}, o < nx → o ∈ ks → ∃ a, obj h o = some a ∧ obj h2 o = some (cutA (fun o => memN o ks) a) := fun ho hm => (k2 _ (Nat.lt_trans ho b1)).1 hm
  have hout : ∀ {o}, o < 2097152 → o ∉ ks → obj h2 o = if o < nx then some .dead else none := fun {o} ho hm => by
    rw [(k2 o ho).2 hm]
    have := getL_trnF 7 nx o (repL (Option AO) (some .dead) 7) b1 ho
    rw [getL_repL] at this
    exact this
  refine ⟨h2, ?_, e3⟩
  exact
    { lim := hR.lim
      own := fun o ho => by
        obtain ⟨a1, a2, a3, a, ha, hor, hsh⟩ := hR.own o ho
        by_cases hm : o ∈ ks
        · obtain ⟨b, hb, hb2⟩ := hin a1 hm
          rw [ha] at hb; injection hb with hb; subst hb
          exact ⟨a1, a2, a3, _, hb2, cutA_or hor, fun x hx => hsh x (cutA_sh.1 hx).1⟩
        · exact ⟨a1, a2, a3, .dead, by rw [hout (Nat.lt_trans a1 b1) hm, if_pos a1], trivial, fun x hx => by cases hx⟩
      apart := fun o o' a a' hne ho ho' ha ha' hw hl heq => by
        have p1 := (hR.own o ho).1
        have p2 := (hR.own o' ho').1
        by_cases hm : o ∈ ks
        · obtain ⟨b, hb, hb2⟩ := hin p1 hm
          rw [ha] at hb2; injection hb2 with hb2; subst hb2
          by_cases hm' : o' ∈ ks
          · obtain ⟨b', hb', hb2'⟩ := hin p2 hm'
            rw [ha'] at hb2'; injection hb2' with hb2'; subst hb2'
            rw [cutA_wr] at hw
            rw [cutA_live] at hl
            obtain ⟨q1, q2, q3⟩ := hR.apart o o' b b' hne ho ho' hb hb' hw hl heq
            exact ⟨cutA_sh.2 ⟨q1, (memN_iff o' ks).2 hm'⟩, by rw [cutA_ext, cutA_ext]; exact q2, by rw [cutA_wr]; exact q3⟩
          · rw [hout (Nat.lt_trans p2 b1) hm', if_pos p2] at ha'
            injection ha' with ha'; subst ha'; cases hl
        · rw [hout (Nat.lt_trans p1 b1) hm, if_pos p1] at ha
          injection ha with ha; subst ha; cases hw
      size := hR.size
      kept := hR.kept
      plain := hR.plain
      pend := fun o a hm => by cases hm
      nodup := List.nodup_nil
      fresh := fun o a ho ha => by
        by_cases hm : o ∈ ks
        · exact hks o hm
        · rw [hout ho hm] at ha
          by_cases hnx : o < nx
          · exact hnx
          · rw [if_neg hnx] at ha; cases ha }

/-! ### Runs, piece by piece -/
noncomputable def isLp (td : List T) : Bool := match td with
  | .lp _ :: _ => true
  | _ => false
noncomputable def cutS (ks : List Nat) (s : ASt) (κ : ASt → R) : R := match s with
  | .mk en td fr cs h nx => match cs with
    | [] => br (isLp td) (fgK ks h nx fun h => κ (.mk en td fr [] h nx)) false
    | _ => false
  | _ => false
noncomputable def finB (v : AV) : R := match v with
  | .b c => c
  | _ => false
noncomputable def atLp (s : ASt) : Bool := match s with
  | .mk _ td _ cs _ _ => match cs with
    | [] => isLp td
    | _ => false
  | _ => false
/-- steps, until a loop of the first frame begins anew for the m + 1st time; where the run ends, it ends with true -/
noncomputable def runM (tb : Tb) (n : Nat) : Nat → ASt → (ASt → R) → R :=
  @Nat.rec (fun _ => Nat → ASt → (ASt → R) → R) (fun _ _ _ => false) (fun _ ih m s κ => @ASt.rec (fun _ => R) (fun en td fr cs h nx => todoK tb td en fr cs h nx fun s =>
    br (atLp s) (@Nat.rec (fun _ => R) (κ s) (fun m _ => ih m s κ) m) (ih m s κ)) (fun v _ _ => finB v) s) n
section
variable {P : Program} {w0 : World} {cs0 : List Frame} {f0 : F0} {tb : Tb}
/-- it ends with true -/
def Ends (P : Program) (w0 : World) (cs0 : List Frame) (f0 : F0) (m : Machine) : Prop := ∃ h nx m', Steps P m m' ∧ StR P w0 cs0 f0 (.fin (.b true) h nx) m'
def Snd (P : Program) (w0 : World) (cs0 : List Frame) (f0 : F0) (F : ASt → R) : Prop := ∀ s m, StR P w0 cs0 f0 s m → F s = true → Ends P w0 cs0 f0 m
theorem cutS_ok {κ : ASt → R} (hp : f0.pd = []) {ks : List Nat} {s : ASt} {m : Machine} (hs : StR P w0 cs0 f0 s m) (e : cutS ks s κ = true) : ∃ s', StR P w0 cs0 f0 s' m ∧ κ s' = true := by
  cases hs with
  | fin => cases e
  | @mk en td fr cs h nx θ q pd F Fs w hR hF hC =>
    cases cs with
    | cons => cases e
    | nil =>
      obtain ⟨b, e⟩ := br_t (show br (isLp td) (fgK ks h nx fun h => κ (.mk en td fr [] h nx)) false = true from e)
      have hpd : pd = f0.pd := hC.2.2.2.1
      cases hF with
      | @run _ _ f df kd rd a todo fn body hf hr hd hs hE htd =>
        rw [hpd, hp] at hR
        obtain ⟨h', hR', e'⟩ := fg_ok hR e
        exact ⟨_, .mk (q := []) (by rw [hpd, hp]; exact hR') (.run hf hr hd hs hE htd) hC, e'⟩
      | draw => cases b
      | ret => cases b
theorem runM_ok (ht : TbOk tb P) (hm : P.follows .mixedOrders = true) {κ : ASt → R} : ∀ (n k : Nat) (s : ASt) (m : Machine), StR P w0 cs0 f0 s m → runM tb n k s κ = true → Ends P w0 cs0 f0 m ∨ Goal P w0 cs0 f0 κ m
  | 0, _, s, m, hs, e => by cases e
  | n + 1, k, s, m, hs, e => by
    cases s with
    | mk en td fr cs h nx =>
      have e : stepK tb (.mk en td fr cs h nx) (fun s => br (atLp s) (@Nat.rec (fun _ => R) (κ s) (fun m _ => runM tb n m s κ) k) (runM tb n k s κ)) = true := e
      obtain ⟨s', m', h1, h2, h3⟩ := step_ok ht hm (lo_ok ht hm) hs e
      have on : ∀ k, runM tb n k s' κ = true → Ends P w0 cs0 f0 m ∨ Goal P w0 cs0 f0 κ m := fun k h3 => by
        rcases runM_ok ht hm n k s' m' h2 h3 with ⟨h, nx, m2, k1, k2⟩ | g
        · exact .inl ⟨h, nx, m2, h1.trans k1, k2⟩
        · exact .inr (g.of_steps h1)
      rcases br_true h3 with ⟨_, h3⟩ | ⟨_, h3⟩
      · cases k with
        | zero => exact .inr ⟨s', m', h1, h2, h3⟩
        | succ k => exact on k h3
      · exact on k h3
    | fin v h nx =>
      have e : finB v = true := e
      have hv : v = .b true := by
        cases v <;> first | (cases e; done) | exact congrArg AV.b e
      subst hv
      exact .inl ⟨h, nx, m, .refl P m, hs⟩
/-- a piece, and what comes behind it -/
noncomputable def pcK (tb : Tb) (k : Nat) (ks : List Nat) (F : ASt → R) (s : ASt) : R := runM tb 1000000 k s fun s => cutS ks s F
theorem pc_ok (ht : TbOk tb P) (hm : P.follows .mixedOrders = true) (hp : f0.pd = []) {k : Nat} {ks : List Nat} {F : ASt → R} (hF : Snd P w0 cs0 f0 F) : Snd P w0 cs0 f0 (pcK tb k ks F) := by
  intro s m hs e
  rcases runM_ok ht hm _ k s m hs e with g | ⟨s1, m1, k1, k2, k3⟩
  · exact g
  · obtain ⟨s2, k4, k5⟩ := cutS_ok hp k2 k3
    obtain ⟨h, nx, m2, k6, k7⟩ := hF s2 m1 k4 k5
    exact ⟨h, nx, m2, k1.trans k6, k7⟩
/-- the last piece -/
noncomputable def pcE (tb : Tb) (s : ASt) : R := runM tb 1000000 1000000 s fun _ => false
theorem pc_end (ht : TbOk tb P) (hm : P.follows .mixedOrders = true) : Snd P w0 cs0 f0 (pcE tb) := by
  intro s m hs e
  rcases runM_ok ht hm _ _ s m hs e with g | ⟨s1, m1, k1, k2, k3⟩
  · exact g
  · cases k3
end
/-- a call that is true, shown in pieces -/
theorem go_pieces {P : Program} {tb : Tb} (ht : TbOk tb P) (hm : P.follows .mixedOrders = true) {f : Nat} {vs : List AV} {X : Nat → Value} (hX : ∀ n, (X n).oneCell' = true) (hv : Oks (θ0 X hX) vs) {F : ASt → R}
    (hF : ∀ w0 cs0, Snd P w0 cs0 ⟨f, [], θ0 X hX⟩ F) (e : enterK tb f vs false [] h0 0 F = true) (w : World) :
    Calls P f (toVs (θ0 X hX) vs).toArray w fun r w' => r = .returned (.bool true) ∧ w'.os = w.os ∧ w'.tape = w.tape ∧ w'.output = w.output ∧ w.heap.size ≤ w'.heap.size ∧ ∀ b, b < w.heap.size → w'.heap[b]? = w.heap[b]? := by
  intro cs0
  obtain ⟨_, _, _, s, m1, h1, h2, h3⟩ := enter_ok (f0 := ⟨f, [], θ0 X hX⟩) (cs0 := cs0) (κ := F) ht e hv (hr0 P w hX) (Fs := []) ⟨rfl, rfl, rfl, rfl, .refl _⟩
  obtain ⟨h, nx, m2, k1, k2⟩ := hF w cs0 s m1 h2 h3
  cases k2 with
  | @fin _ u _ _ θ F' w' hR hv' hl hfn hle =>
    have hu : u = .bool true := by have := hv'.b; exact this
    subst hu
    exact ⟨_, w', F', ⟨rfl, hR.plain.1, hR.plain.2.1, hR.plain.2.2, hR.size, fun b hb => hR.kept b hb (by rw [hle.ini]; exact id)⟩, h1.trans k1, hfn, hl⟩
end Go.AM
namespace Go.AM
open Go

/-- what lies at a place of a list -/
def nth' : List Nat → Nat → Option Nat
  | [], _ => none
  | x :: _, 0 => some x
  | _ :: r, n + 1 => nth' r n
theorem nth'_eq : ∀ (l : List Nat) (n : Nat), nth' l n = l[n]?
  | [], n => by simp [nth']
  | x :: _, 0 => by simp [nth']
  | _ :: r, n + 1 => by simp [nth', nth'_eq r n]
def piB (pi : List Nat) (o' o : Nat) : Bool := match nth' pi o' with | some x => Nat.beq x o | none => false
theorem piB_true {pi : List Nat} {o' o : Nat} (h : piB pi o' o = true) : nth' pi o' = some o := by
  unfold piB at h
  split at h
  · rename_i x hx
    rw [Nat.eq_of_beq_eq_true h] at hx; exact hx
  · cases h
def limB (k N : Nat) : Bool := Nat.beq (Nat.land N (Nat.mul LO (Nat.sub (khi k) 1))) N
theorem limB_ok {k N : Nat} (h : limB k N = true) : Lim (khi k) N := by
  intro i hi
  obtain ⟨b, hb, hb64⟩ := khi_two k
  have hm := ln_mask (N := N) (j := i) (b := b) (by omega) hi
  rw [← hb] at hm
  have h2 : N &&& (LO * (khi k - 1)) = N := Nat.eq_of_beq_eq_true h
  rw [h2] at hm
  rw [hm]; exact Nat.mod_lt _ (by rw [hb]; exact Nat.pow_pos (by decide))

/-- how numbers in lanes go over -/
structure La where
  ll : Nat → Nat → Bool
  li : Nat → Nat → Bool
  il : Nat → Nat → Bool
section
variable (pi : List Nat) (la : La)
mutual
/-- the new value says what the old one says -/
def isoV : AV → AV → Bool
  | .i k n, v => match v with
    | .i k' m => Nat.beq k k' && (n == m)
    | .l k' M => Nat.beq k k' && Nat.blt k 8 && (match n with | .ofNat n => la.il n M | _ => false)
    | _ => false
  | .l k N, v => match v with
    | .l k' M => Nat.beq k k' && Nat.blt k 8 && limB k N && la.ll N M
    | .i k' m => Nat.beq k k' && Nat.blt k 8 && limB k N && (match m with | .ofNat m => la.li N m | _ => false)
    | _ => false
  | .b c, v => match v with | .b d => c == d | _ => false
  | .s l, v => match v with | .s r => l == r | _ => false
  | .p o i, v => match v with | .p o' i' => piB pi o o' && Nat.beq i i' | _ => false
  | .np, v => match v with | .np => true | _ => false
  | .sl o i l c, v => match v with | .sl o' i' l' c' => piB pi o o' && Nat.beq i i' && Nat.beq l l' && c == c' | _ => false
  | .ns, v => match v with | .ns => true | _ => false
  | .m o, v => match v with | .m o' => piB pi o o' | _ => false
  | .nm, v => match v with | .nm => true | _ => false
  | .nf, v => match v with | .nf => true | _ => false
  | .ni, v => match v with | .ni => true | _ => false
  | .fn f l, v => match v with | .fn f' l' => Nat.beq f f' && isoVs l l' | _ => false
  | .ifc t u, v => match v with | .ifc t' u' => Nat.beq t t' && isoV u u' | _ => false
  | .xi n k r m, v => match v with | .xi n' k' r' m' => Nat.blt n 1000 && Nat.ble 13 k && Nat.ble k 15 && Nat.beq n n' && Nat.beq k k' && Nat.beq r r' && Nat.beq m m' | _ => false
  | .ag l, v => match v with | .ag l' => isoVs l l' && l.all one | _ => false
  | .tu l, v => match v with | .tu l' => isoVs l l' | _ => false
  | _, _ => false
def isoVs : List AV → List AV → Bool
  | [], v => match v with | [] => true | _ => false
  | x :: r, v => match v with | y :: s => isoV x y && isoVs r s | _ => false
end
/-- .. or is not asked for -/
def isoC (new old : AV) : Bool := match new with
  | .x i => Nat.ble 1000 i && one old
  | new => isoV pi la new old
end
/-- what is handed in for a value -/
def wC (new old : AV) : List (Nat × AV) := match new with
  | .x i => [(i, old)]
  | _ => []
def look : List (Nat × AV) → Nat → Option AV
  | [], _ => none
  | (i, v) :: r, n => if i = n then some v else look r n
/-- numbers that go up -/
def incr : Nat → List (Nat × AV) → Bool
  | _, [] => true
  | lo, (i, _) :: r => Nat.ble lo i && Nat.blt i 65535 && incr (i + 1) r
theorem incr_ge : ∀ {lo : Nat} {W : List (Nat × AV)}, incr lo W = true → ∀ p ∈ W, lo ≤ p.1 ∧ p.1 < 65535
  | _, [], _, p, hp => by cases hp
  | lo, (i, v) :: r, h, p, hp => by
    simp only [incr, Bool.and_eq_true] at h
    obtain ⟨⟨h1, h2⟩, h3⟩ := h
    have h1 := Nat.le_of_ble_eq_true h1
    have h2 : i < 65535 := by simpa [Nat.blt_eq] using h2
    rcases List.mem_cons.1 hp with rfl | hp
    · exact ⟨h1, h2⟩
    · have := incr_ge h3 p hp
      omega
theorem look_mem : ∀ {lo : Nat} {W : List (Nat × AV)}, incr lo W = true → ∀ i v, (i, v) ∈ W → look W i = some v
  | _, [], _, i, v, hp => by cases hp
  | lo, (j, u) :: r, h, i, v, hp => by
    simp only [incr, Bool.and_eq_true] at h
    obtain ⟨_, h3⟩ := h
    rcases List.mem_cons.1 hp with e | hp
    · cases e; simp [look]
    · have := incr_ge h3 _ hp
      have hne : ¬ j = i := by simp only at this; omega
      simp only [look, if_neg hne]
      exact look_mem h3 i v hp
theorem look_lo : ∀ {lo : Nat} {W : List (Nat × AV)}, incr lo W = true → ∀ i, i < lo ∨ 65535 ≤ i → look W i = none
  | _, [], _, _, _ => rfl
  | lo, (j, u) :: r, h, i, hi => by
    simp only [incr, Bool.and_eq_true] at h
    obtain ⟨⟨h1, h2⟩, h3⟩ := h
    have h1 := Nat.le_of_ble_eq_true h1
    have h2 : j < 65535 := by simpa [Nat.blt_eq] using h2
    have hne : ¬ j = i := by omega
    simp only [look, if_neg hne]
    exact look_lo h3 i (by omega)

/-- what the two states' places have to do with one another -/
structure IsoT (pi : List Nat) (la : La) (θ θ' : Th) : Prop where
  has : ∀ o' o, nth' pi o' = some o → θ.has o → θ'.has o'
  blk : ∀ o' o, nth' pi o' = some o → θ'.blk o' = θ.blk o
  bas : ∀ o' o, nth' pi o' = some o → θ'.bas o' = θ.bas o
  siz : ∀ o' o, nth' pi o' = some o → θ'.siz o' = θ.siz o
  esz : ∀ o' o, nth' pi o' = some o → θ'.esz o' = θ.esz o
  ll : ∀ N M, la.ll N M = true → ln θ'.lane N = ln θ.lane M
  li : ∀ N m, la.li N m = true → ln θ'.lane N = m
  il : ∀ n M, la.il n M = true → n = ln θ.lane M
  ext : ∀ i, i < 1000 → θ'.ext i = θ.ext i
section
variable {pi : List Nat} {la : La} {θ θ' : Th}
mutual
theorem isoV_ok (hT : IsoT pi la θ θ') : ∀ (new old : AV), isoV pi la new old = true → Ok θ old → toV θ' new = toV θ old ∧ Ok θ' new
  | .i k n, v, h, hv => by
    cases v <;> simp only [isoV, Bool.and_eq_true] at h <;> first | (cases h; done) | skip
    · rename_i k' m
      obtain ⟨h1, h2⟩ := h
      rw [Nat.eq_of_beq_eq_true h1, eq_of_beq h2]; exact ⟨rfl, trivial⟩
    · rename_i k' M
      obtain ⟨⟨h1, h2⟩, h3⟩ := h
      have h1 := Nat.eq_of_beq_eq_true h1
      subst h1
      have hk : k < 8 := by simpa [Nat.blt_eq] using h2
      cases n with
      | negSucc n => cases h3
      | ofNat n =>
        refine ⟨?_, trivial⟩
        show Value.int (kindOf k) (n : Int) = lV k (ln θ.lane M)
        rw [← hT.il _ _ h3, lV, if_neg (by omega)]
  | .l k N, v, h, hv => by
    cases v <;> simp only [isoV, Bool.and_eq_true] at h <;> first | (cases h; done) | skip
    · rename_i k' m
      obtain ⟨⟨⟨h1, h2⟩, h4⟩, h3⟩ := h
      have h1 := Nat.eq_of_beq_eq_true h1
      subst h1
      have hk : k < 8 := by simpa [Nat.blt_eq] using h2
      cases m with
      | negSucc n => cases h3
      | ofNat n =>
        refine ⟨?_, .inl ⟨hk, limB_ok h4⟩⟩
        show lV k (ln θ'.lane N) = Value.int (kindOf k) (n : Int)
        rw [hT.li _ _ h3, lV, if_neg (by omega)]
    · rename_i k' M
      obtain ⟨⟨⟨h1, h2⟩, h4⟩, h3⟩ := h
      have h1 := Nat.eq_of_beq_eq_true h1
      subst h1
      have hk : k < 8 := by simpa [Nat.blt_eq] using h2
      refine ⟨?_, .inl ⟨hk, limB_ok h4⟩⟩
      show lV k (ln θ'.lane N) = lV k (ln θ.lane M)
      rw [hT.ll _ _ h3]
  | .b c, v, h, hv => by
    cases v <;> simp only [isoV] at h <;> first | (cases h; done) | skip
    rw [eq_of_beq h]; exact ⟨rfl, trivial⟩
  | .s l, v, h, hv => by
    cases v <;> simp only [isoV] at h <;> first | (cases h; done) | skip
    rw [eq_of_beq h]; exact ⟨rfl, hv⟩
  | .p o i, v, h, hv => by
    cases v <;> simp only [isoV, Bool.and_eq_true] at h <;> first | (cases h; done) | skip
    obtain ⟨h1, h2⟩ := h
    have h1 := piB_true h1
    have h2 := Nat.eq_of_beq_eq_true h2
    subst h2
    exact ⟨by simp only [toV, hT.blk _ _ h1, hT.bas _ _ h1], hT.has _ _ h1 hv⟩
  | .np, v, h, hv => by cases v <;> simp only [isoV] at h <;> first | (cases h; done) | exact ⟨rfl, trivial⟩
  | .sl o i l c, v, h, hv => by
    cases v <;> simp only [isoV, Bool.and_eq_true] at h <;> first | (cases h; done) | skip
    obtain ⟨⟨⟨h1, h2⟩, h3⟩, h4⟩ := h
    have h1 := piB_true h1
    have h2 := Nat.eq_of_beq_eq_true h2
    have h3 := Nat.eq_of_beq_eq_true h3
    have h4 := eq_of_beq h4
    subst h2 h3 h4
    exact ⟨by simp only [toV, hT.blk _ _ h1, hT.bas _ _ h1, hT.siz _ _ h1, hT.esz _ _ h1], hT.has _ _ h1 hv⟩
  | .ns, v, h, hv => by cases v <;> simp only [isoV] at h <;> first | (cases h; done) | exact ⟨rfl, trivial⟩
  | .m o, v, h, hv => by
    cases v <;> simp only [isoV] at h <;> first | (cases h; done) | skip
    have h1 := piB_true h
    exact ⟨by simp only [toV, hT.blk _ _ h1], hT.has _ _ h1 hv⟩
  | .nm, v, h, hv => by cases v <;> simp only [isoV] at h <;> first | (cases h; done) | exact ⟨rfl, trivial⟩
  | .nf, v, h, hv => by cases v <;> simp only [isoV] at h <;> first | (cases h; done) | exact ⟨rfl, trivial⟩
  | .ni, v, h, hv => by cases v <;> simp only [isoV] at h <;> first | (cases h; done) | exact ⟨rfl, trivial⟩
  | .fn f l, v, h, hv => by
    cases v <;> simp only [isoV, Bool.and_eq_true] at h <;> first | (cases h; done) | skip
    obtain ⟨h1, h2⟩ := h
    have h1 := Nat.eq_of_beq_eq_true h1
    subst h1
    obtain ⟨k1, k2⟩ := isoVs_ok hT _ _ h2 hv
    exact ⟨by simp only [toV, k1], k2⟩
  | .ifc t u, v, h, hv => by
    cases v <;> simp only [isoV, Bool.and_eq_true] at h <;> first | (cases h; done) | skip
    obtain ⟨h1, h2⟩ := h
    have h1 := Nat.eq_of_beq_eq_true h1
    subst h1
    obtain ⟨k1, k2⟩ := isoV_ok hT _ _ h2 hv
    exact ⟨by simp only [toV, k1], k2⟩
  | .xi n k r m, v, h, hv => by
    cases v <;> simp only [isoV, Bool.and_eq_true] at h <;> first | (cases h; done) | skip
    obtain ⟨⟨⟨⟨⟨⟨h1, h2⟩, h3⟩, h4⟩, h5⟩, h6⟩, h7⟩ := h
    have h1 : n < 1000 := by simpa [Nat.blt_eq] using h1
    have h2 := Nat.le_of_ble_eq_true h2
    have h3 := Nat.le_of_ble_eq_true h3
    have h4 := Nat.eq_of_beq_eq_true h4
    have h5 := Nat.eq_of_beq_eq_true h5
    have h6 := Nat.eq_of_beq_eq_true h6
    have h7 := Nat.eq_of_beq_eq_true h7
    subst h4 h5 h6 h7
    obtain ⟨k1, w, k2, k3, k4⟩ := xo_num h2 hv
    have hok : Ok θ' (.xi n k r m) := xo_ok h2 w (by rw [hT.ext n h1]; exact k2) k3 k1
    obtain ⟨_, _, _, _, k5⟩ := xo_num h2 hok
    refine ⟨?_, hok⟩
    rw [k4, k5, hT.ext n h1]
    unfold xoV
    by_cases e1 : k = 13
    · rw [if_pos e1, if_pos e1]
    by_cases e2 : k = 14
    · rw [if_neg e1, if_pos e2, if_neg e1, if_pos e2]
    have e3 : k = 15 := by omega
    rw [if_neg e1, if_neg e2, if_pos e3, if_neg e1, if_neg e2, if_pos e3]
  | .ag l, v, h, hv => by
    cases v <;> simp only [isoV, Bool.and_eq_true] at h <;> first | (cases h; done) | skip
    obtain ⟨h1, h2⟩ := h
    obtain ⟨k1, k2⟩ := isoVs_ok hT _ _ h1 hv.1
    exact ⟨by simp only [toV, k1], k2, h2⟩
  | .tu l, v, h, hv => by
    cases v <;> simp only [isoV] at h <;> first | (cases h; done) | skip
    obtain ⟨k1, k2⟩ := isoVs_ok hT _ _ h hv
    exact ⟨by simp only [toV, k1], k2⟩
  | .yl _, v, h, _ => by cases v <;> (simp only [isoV] at h; cases h)
  | .x _, v, h, _ => by cases v <;> (simp only [isoV] at h; cases h)
  | .q _ _ _, v, h, _ => by cases v <;> (simp only [isoV] at h; cases h)
  | .t _, v, h, _ => by cases v <;> (simp only [isoV] at h; cases h)
  | .f _ _, v, h, _ => by cases v <;> (simp only [isoV] at h; cases h)
  | .z _ _, v, h, _ => by cases v <;> (simp only [isoV] at h; cases h)
theorem isoVs_ok (hT : IsoT pi la θ θ') : ∀ (new old : List AV), isoVs pi la new old = true → Oks θ old → toVs θ' new = toVs θ old ∧ Oks θ' new
  | [], v, h, hv => by cases v <;> simp only [isoVs] at h <;> first | (cases h; done) | exact ⟨rfl, trivial⟩
  | x :: r, v, h, hv => by
    cases v <;> simp only [isoVs, Bool.and_eq_true] at h <;> first | (cases h; done) | skip
    obtain ⟨h1, h2⟩ := h
    obtain ⟨k1, k2⟩ := isoV_ok hT _ _ h1 hv.1
    obtain ⟨k3, k4⟩ := isoVs_ok hT _ _ h2 hv.2
    exact ⟨by simp only [toVs, k1, k3], k2, k4⟩
end
theorem isoC_ok (hT : IsoT pi la θ θ') {new old : AV} (h : isoC pi la new old = true) (hw : ∀ p ∈ wC new old, θ'.ext p.1 = toV θ p.2) (hv : Ok θ old) : toV θ' new = toV θ old ∧ Ok θ' new := by
  by_cases hx : ∃ i, new = .x i
  · obtain ⟨i, rfl⟩ := hx
    exact ⟨hw (i, old) (List.mem_cons_self ..), trivial⟩
  · have h : isoV pi la new old = true := by
      cases new <;> first | exact h | exact absurd ⟨_, rfl⟩ hx
    exact isoV_ok hT _ _ h hv
end
end Go.AM
namespace Go.AM
open Go

section
variable (pi : List Nat) (la : La)
def isoK : Option AV → Option AV → Bool
  | some a, v => match v with | some b => isoC pi la a b && one a | none => false
  | none, _ => false
def wK : Option AV → Option AV → List (Nat × AV)
  | some a, v => match v with | some b => wC a b | none => []
  | none, _ => []
def isoL : List AV → List AV → Bool
  | [], v => match v with | [] => true | _ => false
  | x :: r, v => match v with | y :: s => isoC pi la x y && one x && isoL r s | _ => false
def wL : List AV → List AV → List (Nat × AV)
  | [], _ => []
  | x :: r, v => match v with | y :: s => wC x y ++ wL r s | _ => []
def isoM : List ME → List ME → Bool
  | [], v => match v with | [] => true | _ => false
  | .mk k u b :: r, v => match v with | .mk k' u' b' :: s => isoV pi la k k' && isoV pi la u u' && Nat.beq b b' && isoM r s | _ => false
def isoA (new old : AO) : Bool := match new with
  | .dead => true
  | .sm l => match old with | .sm l' => isoL pi la l l' | _ => false
  | .ce n es z zl d t top sh => match old with
    | .ce n' es' z' zl' d' t' top' sh' => Nat.beq n n' && Nat.beq es es' && (top == top') && sh.isEmpty && (sh'.all fun x => !pi.contains x) && Nat.ble n (8 ^ d) && (Nat.beq zl 0 || !Nat.beq zl' 0) &&
        (List.range n).all fun i => isoK pi la (cellO z zl d t i) (cellO z' zl' d' t' i)
    | _ => false
  | .mp es c => match old with | .mp es' c' => Nat.beq c c' && isoM pi la es es' | _ => false
  | _ => false
def wA (new old : AO) : List (Nat × AV) := match new with
  | .sm l => match old with | .sm l' => wL l l' | _ => []
  | .ce n _ z zl d t _ _ => match old with
    | .ce _ _ z' zl' d' t' _ _ => (List.range n).flatMap fun i => wK (cellO z zl d t i) (cellO z' zl' d' t' i)
    | _ => []
  | _ => []
def isoO (h' h : H) (o' : Nat) : Bool := match obj h' o' with
  | some a' => match nth' pi o' with
    | some o => match obj h o with
      | some a => isoA pi la a' a
      | none => false
    | none => false
  | none => false
def wO (h' h : H) (o' : Nat) : List (Nat × AV) := match obj h' o' with
  | some a' => match nth' pi o' with
    | some o => match obj h o with
      | some a => wA a' a
      | none => []
    | none => []
  | none => []
def ndB : List Nat → Bool
  | [] => true
  | x :: r => !r.contains x && ndB r
def tdPl : List T → Bool
  | [] => true
  | t :: r => (match t with | .c _ => true | .rg _ => true | .blk _ => true | .lp _ => true | .sc => true | .br => true | _ => false) && tdPl r
def frPl : Fr → Bool
  | .mk _ df kd rd => df.isEmpty && !kd && rd.isNone
def isoW (en' : Env) (h' : H) (en : Env) (h : H) : List (Nat × AV) :=
  ((List.range 512).flatMap fun t => wC (getL AV 3 t en') (getL AV 3 t en)) ++ (List.range pi.length).flatMap fun o => wO pi h' h o
noncomputable def isoB (en' : Env) (h' : H) (en : Env) (td : List T) (fr : Fr) (cs : List AFr) (h : H) : Bool :=
  cs.isEmpty && isLp td && frPl fr && tdPl td && ndB pi && (List.range 512).all (fun t => isoC pi la (getL AV 3 t en') (getL AV 3 t en)) && (List.range pi.length).all (fun o => isoO pi la h' h o) && incr 1000 (isoW pi en' h' en h)
end

theorem nth'_lt {l : List Nat} {n x : Nat} (h : nth' l n = some x) : n < l.length := by
  rw [nth'_eq] at h
  exact (List.getElem?_eq_some_iff.1 h).1
theorem nth'_mem {l : List Nat} {n x : Nat} (h : nth' l n = some x) : x ∈ l := by
  rw [nth'_eq] at h
  exact List.mem_of_getElem? h
theorem ndB_inj : ∀ {l : List Nat}, ndB l = true → ∀ i j x, nth' l i = some x → nth' l j = some x → i = j
  | [], _, i, j, x, h, _ => by cases h
  | y :: r, hn, i, j, x, h1, h2 => by
    simp only [ndB, Bool.and_eq_true, Bool.not_eq_true', List.contains_eq_mem, decide_eq_false_iff_not] at hn
    obtain ⟨a, b⟩ := hn
    cases i with
    | zero =>
      injection h1 with h1
      cases j with
      | zero => rfl
      | succ j => subst h1; exact absurd (nth'_mem (l := r) h2) a
    | succ i =>
      cases j with
      | zero => injection h2 with h2; subst h2; exact absurd (nth'_mem (l := r) h1) a
      | succ j => rw [ndB_inj (l := r) b i j x h1 h2]
section
variable {P : Program} {pi : List Nat} {la : La} {θ θ' : Th} {w : World}
/-- what is handed in is so -/
def WOk (θ θ' : Th) (W : List (Nat × AV)) : Prop := ∀ p ∈ W, one p.2 = true → θ'.ext p.1 = toV θ p.2
theorem isoC_w (hT : IsoT pi la θ θ') {new old : AV} (h : isoC pi la new old = true) (hw : WOk θ θ' (wC new old)) (hv : Ok θ old) : toV θ' new = toV θ old ∧ Ok θ' new := by
  refine isoC_ok hT h (fun p hp => hw p hp ?_) hv
  cases new <;> first | (cases hp; done) | skip
  rename_i i
  have h : (Nat.ble 1000 i && one old) = true := h
  rcases List.mem_cons.1 hp with rfl | hp
  · exact (Bool.and_eq_true _ _ ▸ h).2
  · cases hp
theorem isoL_ok (hT : IsoT pi la θ θ') : ∀ (new old : List AV), isoL pi la new old = true → WOk θ θ' (wL new old) → Oks θ old → toVs θ' new = toVs θ old ∧ Oks θ' new ∧ new.all one = true
  | [], v, h, _, hv => by cases v <;> simp only [isoL] at h <;> first | (cases h; done) | exact ⟨rfl, trivial, rfl⟩
  | x :: r, v, h, hw, hv => by
    cases v <;> simp only [isoL, Bool.and_eq_true] at h <;> first | (cases h; done) | skip
    rename_i y s
    obtain ⟨⟨h1, h2⟩, h3⟩ := h
    obtain ⟨k1, k2⟩ := isoC_w hT h1 (fun p hp => hw p (List.mem_append_left _ hp)) hv.1
    obtain ⟨k3, k4, k5⟩ := isoL_ok hT r s h3 (fun p hp => hw p (List.mem_append_right _ hp)) hv.2
    exact ⟨by simp only [toVs, k1, k3], ⟨k2, k4⟩, by simp [h2, k5]⟩
theorem isoM_ok (hT : IsoT pi la θ θ') : ∀ (new old : List ME), isoM pi la new old = true → (∀ e ∈ old, meOk θ e) → new.map (meV θ') = old.map (meV θ) ∧ ∀ e ∈ new, meOk θ' e
  | [], v, h, hv => by cases v <;> simp only [isoM] at h <;> first | (cases h; done) | exact ⟨rfl, fun e he => by cases he⟩
  | .mk k u b :: r, v, h, hv => by
    cases v with
    | nil => simp only [isoM] at h; cases h
    | cons e s =>
      obtain ⟨k', u', b'⟩ := e
      simp only [isoM, Bool.and_eq_true] at h
      obtain ⟨⟨⟨h1, h2⟩, h3⟩, h4⟩ := h
      have h3 := Nat.eq_of_beq_eq_true h3
      subst h3
      have hm := hv _ (List.mem_cons_self ..)
      obtain ⟨k1, k2⟩ := isoV_ok hT _ _ h1 hm.1
      obtain ⟨k3, k4⟩ := isoV_ok hT _ _ h2 hm.2
      obtain ⟨k5, k6⟩ := isoM_ok hT r s h4 (fun e he => hv e (List.mem_cons_of_mem _ he))
      refine ⟨by simp only [List.map_cons, meV, k1, k3, k5], fun e he => ?_⟩
      rcases List.mem_cons.1 he with rfl | he
      · exact ⟨k2, k4⟩
      · exact k6 e he
theorem isoA_ok (hT : IsoT pi la θ θ') {o' o : Nat} (ho : nth' pi o' = some o) {new old : AO} (h : isoA pi la new old = true) (hw : WOk θ θ' (wA new old)) (hr : OR P θ w o old) : OR P θ' w o' new ∧ new.sh = [] := by
  cases new with
  | dead => exact ⟨trivial, rfl⟩
  | sm l =>
    cases old <;> first | (cases h; done) | skip
    rename_i l'
    obtain ⟨ty, h1, h2, h3, h4⟩ := hr
    obtain ⟨k1, k2, k3⟩ := isoL_ok hT l l' h hw h3
    exact ⟨⟨ty, by rw [hT.blk _ _ ho, k1]; exact h1, by rw [hT.bas _ _ ho]; exact h2, k2, k3⟩, rfl⟩
  | ce n es z zl d t top sh =>
    cases old <;> first | (cases h; done) | skip
    rename_i n' es' z' zl' d' t' top' sh'
    simp only [isoA, Bool.and_eq_true] at h
    obtain ⟨⟨⟨⟨⟨⟨⟨e1, e2⟩, e3⟩, e4⟩, e5⟩, e6⟩, e7⟩, e8⟩ := h
    have e1 := Nat.eq_of_beq_eq_true e1
    have e2 := Nat.eq_of_beq_eq_true e2
    have e4 : sh = [] := by simpa using e4
    have e6 := Nat.le_of_ble_eq_true e6
    subst e1 e2 e4
    obtain ⟨c, ty, fz, h1, h2, h3, h4, h5, h6⟩ := hr
    refine ⟨⟨c, ty, fz, by rw [hT.blk _ _ ho]; exact h1, e6, fun i hi => ?_, h4, fun h0 => ?_, fun h0 => ?_⟩, rfl⟩
    · obtain ⟨v, v1, v2, v3, v4⟩ := h3 i hi
      have e9 := List.all_eq_true.1 e8 i (List.mem_range.2 hi)
      rw [v1] at e9
      cases hc : cellO z zl d t i with
      | none => rw [hc] at e9; cases e9
      | some u =>
        rw [hc] at e9
        simp only [isoK, Bool.and_eq_true] at e9
        obtain ⟨k1, k2⟩ := isoC_w hT e9.1 (fun p hp => hw p (by
          simp only [wA, List.mem_flatMap]
          exact ⟨i, List.mem_range.2 hi, by rw [hc, v1]; exact hp⟩)) v2
        exact ⟨u, rfl, k2, e9.2, by rw [hT.bas _ _ ho, k1]; exact v4⟩
    · obtain ⟨q1, q2, q3⟩ := h5 h0
      refine ⟨by rw [hT.bas _ _ ho]; exact q1, q2, fun hz => q3 ?_⟩
      simp only [Bool.or_eq_true, Bool.not_eq_true'] at e7
      rcases e7 with e7 | e7
      · exact absurd (Nat.eq_of_beq_eq_true e7) hz
      · intro h; subst h; cases e7
    · rw [hT.esz _ _ ho, hT.siz _ _ ho, hT.bas _ _ ho]; exact h6 h0
  | mp es c =>
    cases old <;> first | (cases h; done) | skip
    rename_i es' c'
    simp only [isoA, Bool.and_eq_true] at h
    have e1 := Nat.eq_of_beq_eq_true h.1
    subst e1
    obtain ⟨h1, h2⟩ := hr
    obtain ⟨k1, k2⟩ := isoM_ok hT es es' h.2 h2
    exact ⟨⟨by rw [hT.blk _ _ ho, k1]; exact h1, k2⟩, rfl⟩
  | it _ _ _ _ => cases h
  | lp _ _ _ _ _ _ => cases h
  | df _ => cases h
theorem isoA_wr {new old : AO} (h : isoA pi la new old = true) (hw : new.wr = true) : old.wr = true ∧ ∀ x ∈ old.sh, x ∉ pi := by
  cases new <;> cases old <;> first | (cases h; done) | (cases hw; done) | exact ⟨rfl, fun x hx => by cases hx⟩ | skip
  rename_i n es z zl d t top sh n' es' z' zl' d' t' top' sh'
  simp only [isoA, Bool.and_eq_true] at h
  obtain ⟨⟨⟨⟨⟨⟨⟨e1, e2⟩, e3⟩, e4⟩, e5⟩, e6⟩, e7⟩, e8⟩ := h
  have e3 := eq_of_beq e3
  refine ⟨by rw [← hw]; exact e3.symm, fun x hx hp => ?_⟩
  have := List.all_eq_true.1 e5 x hx
  simp [hp] at this
theorem isoA_live {new old : AO} (h : isoA pi la new old = true) (hw : new.live = true) : old.live = true := by
  cases new <;> cases old <;> first | (cases h; done) | (cases hw; done) | rfl
theorem tdPl_ok {f nt : Nat} {body : Code} {td : List T} {todo : List Item} (h : TdR P θ f nt body td todo) (hp : tdPl td = true) : TdR P θ' f nt body td todo := by
  induction h with
  | nil => exact .nil
  | cons h _ ih =>
    simp only [tdPl, Bool.and_eq_true] at hp
    refine .cons ?_ (ih hp.2)
    cases h with
    | code h hc => exact .code h hc
    | reg h => exact .reg h
    | blk id => exact .blk id
    | lp h hc => exact .lp h hc
    | sc c => exact .sc c
    | irf h => cases hp.1
    | erf h => cases hp.1
    | br => exact .br
end

/-- where the new state's objects lie -/
def isoTh (pi : List Nat) (θ : Th) (W : List (Nat × AV)) (lane : Nat) : Th where
  has o' := ∃ o, nth' pi o' = some o ∧ θ.has o
  blk o' := match nth' pi o' with | some o => θ.blk o | none => 0
  bas o' := match nth' pi o' with | some o => θ.bas o | none => 0
  siz o' := match nth' pi o' with | some o => θ.siz o | none => 0
  esz o' := match nth' pi o' with | some o => θ.esz o | none => 0
  ini := θ.ini
  ext i := if i = 65535 then .int .u8 (lane : Int) else match look W i with
    | some v => if one v = true then toV θ v else θ.ext i
    | none => θ.ext i
  ext1 := by
    intro i
    split
    · rfl
    split
    · split
      · rename_i h; exact toV_one h
      · exact θ.ext1 i
    · exact θ.ext1 i
theorem isoTh_lane (pi : List Nat) (θ : Th) (W : List (Nat × AV)) {lane : Nat} (h : lane < 256) : (isoTh pi θ W lane).lane = lane := by
  have e : (isoTh pi θ W lane).ext 65535 = .int .u8 (lane : Int) := by
    simp only [isoTh, if_true]
  show (xnat ((isoTh pi θ W lane).ext 65535)).toNat % 256 = lane
  rw [e]
  exact Nat.mod_eq_of_lt h
section
variable {P : Program} {w0 : World} {cs0 : List Frame} {f0 : F0}
theorem iso_ok {pi : List Nat} {la : La} {en' en : Env} {h' h : H} {nx : Nat} {td : List T} {fr : Fr} {cs : List AFr} {m : Machine} {lane : Nat} (hs : StR P w0 cs0 f0 (.mk en td fr cs h nx) m) (hpd : f0.pd = []) (hl : lane < 256)
    (l1 : ∀ N M, la.ll N M = true → ln lane N = ln f0.θ.lane M) (l2 : ∀ N n, la.li N n = true → ln lane N = n) (l3 : ∀ n M, la.il n M = true → n = ln f0.θ.lane M)
    (e : isoB pi la en' h' en td fr cs h = true) (hf : Fresh h' pi.length) (hn : pi.length ≤ 2097152) :
    ∃ θ' : Th, (∀ i, i < 1000 → θ'.ext i = f0.θ.ext i) ∧ θ'.lane = lane ∧ θ'.ini = f0.θ.ini ∧ StR P w0 cs0 ⟨f0.f, [], θ'⟩ (.mk en' td fr [] h' pi.length) m := by
  simp only [isoB, Bool.and_eq_true] at e
  obtain ⟨⟨⟨⟨⟨⟨⟨e1, e2⟩, e3⟩, e4⟩, e5⟩, e6⟩, e7⟩, e8⟩ := e
  have e1 : cs = [] := by simpa using e1
  subst e1
  cases hs with
  | @mk _ _ _ _ _ _ θ q pd F Fs w hR hF hC =>
    obtain ⟨c1, c2, c3, c4, c5⟩ := hC
    have hlane : θ.lane = f0.θ.lane := by simp only [Th.lane, c5.ext]
    generalize hW : isoW pi en' h' en h = W at e8
    have hT : IsoT pi la θ (isoTh pi θ W lane) :=
      { has := fun o' o h1 h2 => ⟨o, h1, h2⟩
        blk := fun o' o h1 => by simp only [isoTh, h1]
        bas := fun o' o h1 => by simp only [isoTh, h1]
        siz := fun o' o h1 => by simp only [isoTh, h1]
        esz := fun o' o h1 => by simp only [isoTh, h1]
        ll := fun N M h1 => by rw [isoTh_lane _ _ _ hl, hlane]; exact l1 N M h1
        li := fun N n h1 => by rw [isoTh_lane _ _ _ hl]; exact l2 N n h1
        il := fun n M h1 => by rw [hlane]; exact l3 n M h1
        ext := fun i hi => by
          show (if i = 65535 then _ else _) = _
          rw [if_neg (by omega), look_lo e8 i (.inl hi)] }
    have hWO : ∀ p ∈ W, one p.2 = true → (isoTh pi θ W lane).ext p.1 = toV θ p.2 := fun p hp h1 => by
      have := incr_ge e8 p hp
      show (if p.1 = 65535 then _ else _) = _
      rw [if_neg (by omega), look_mem e8 p.1 p.2 hp]
      show (if one p.2 = true then _ else _) = _
      rw [if_pos h1]
    have hobj : ∀ o' o, nth' pi o' = some o → ∃ a' a, obj h' o' = some a' ∧ obj h o = some a ∧ isoA pi la a' a = true ∧ WOk θ (isoTh pi θ W lane) (wA a' a) := fun o' o ho => by
      have h1 := List.all_eq_true.1 e7 o' (List.mem_range.2 (nth'_lt ho))
      unfold isoO at h1
      cases ha' : obj h' o' with
      | none => rw [ha'] at h1; cases h1
      | some a' =>
        rw [ha', ho] at h1
        cases ha : obj h o with
        | none => simp only [ha] at h1; cases h1
        | some a =>
          simp only [ha] at h1
          refine ⟨a', a, rfl, rfl, h1, fun p hp => hWO p ?_⟩
          rw [← hW]
          refine List.mem_append_right _ (List.mem_flatMap.2 ⟨o', List.mem_range.2 (nth'_lt ho), ?_⟩)
          unfold wO
          rw [ha', ho]
          simp only [ha]
          exact hp
    refine ⟨isoTh pi θ W lane, fun i hi => (hT.ext i hi).trans (by rw [c5.ext]), isoTh_lane _ _ _ hl, c5.ini, ?_⟩
    have hpd0 : pd = [] := c4.trans hpd
    cases hF with
    | draw => cases e2
    | ret => cases e2
    | @run _ _ f df kd rd a todo fn body hfn hr hd hsz hE htd =>
      simp only [frPl, Bool.and_eq_true, Bool.not_eq_true', Option.isNone_iff_eq_none] at e3
      obtain ⟨⟨d1, d2⟩, d3⟩ := e3
      have d1 : df = [] := by simpa using d1
      subst d1 d2 d3 c3 hpd0
      have hR2 : HR P w0 ([] ++ []) (isoTh pi θ W lane) h' pi.length w :=
        { lim := hn
          own := fun o' ho' => by
            obtain ⟨o, ho, hh⟩ := ho'
            obtain ⟨b1, b2, b3, a0, b4, b5, b6⟩ := hR.own o hh
            obtain ⟨a', a1, g1, g2, g3, g4⟩ := hobj o' o ho
            rw [b4] at g2; injection g2 with g2; subst g2
            obtain ⟨k1, k2⟩ := isoA_ok hT ho g3 g4 b5
            refine ⟨nth'_lt ho, ?_, ?_, a', g1, k1, fun x hx => by rw [k2] at hx; cases hx⟩
            · rw [hT.blk _ _ ho]; exact b2
            · rw [hT.blk _ _ ho]; exact b3
          apart := fun o1 o2 a1 a2 hne h1 h2 ha1 ha2 hw1 hl2 hb => by
            exfalso
            obtain ⟨p1, hp1, hh1⟩ := h1
            obtain ⟨p2, hp2, hh2⟩ := h2
            obtain ⟨a1', b1, g1, g2, g3, _⟩ := hobj o1 p1 hp1
            obtain ⟨a2', b2, g5, g6, g7, _⟩ := hobj o2 p2 hp2
            rw [ha1] at g1; injection g1 with g1; subst g1
            rw [ha2] at g5; injection g5 with g5; subst g5
            obtain ⟨w1, w2⟩ := isoA_wr g3 hw1
            have hne2 : p1 ≠ p2 := fun h => by subst h; exact hne (ndB_inj e5 o1 o2 p1 hp1 hp2)
            rw [hT.blk _ _ hp1, hT.blk _ _ hp2] at hb
            exact w2 p2 (hR.apart p1 p2 b1 b2 hne2 hh1 hh2 g2 g6 w1 (isoA_live g7 hl2) hb).1 (nth'_mem hp2)
          size := hR.size
          kept := hR.kept
          plain := hR.plain
          pend := fun o a hm => by cases hm
          nodup := List.nodup_nil
          fresh := hf }
      exact .mk (q := []) hR2 (.run (rd := none) hfn (fun o h => by cases h) hd hsz (fun t ht => by
        have hv := hE t ht
        have h1 := List.all_eq_true.1 e6 t (List.mem_range.2 ht)
        obtain ⟨k1, k2⟩ := isoC_w hT h1 (fun p hp => hWO p (by
          rw [← hW]
          exact List.mem_append_left _ (List.mem_flatMap.2 ⟨t, List.mem_range.2 ht, hp⟩))) hv.1
        exact ⟨k2, by rw [k1]; exact hv.2⟩) (tdPl_ok htd e4)) ⟨c1, c2, rfl, rfl, .refl _⟩
end
end Go.AM
namespace Go.AM
open Go

section
variable (P : Program) (w0 : World) (cs0 : List Frame)
/-- it ends with true, and all that was there stays -/
def EndsB (f : Nat) (m : Machine) : Prop := ∃ F w', Steps P m (lone F cs0 w') ∧ F.leaving P w' (.returned (.bool true)) ∧ F.fn = f ∧
  w'.os = w0.os ∧ w'.tape = w0.tape ∧ w'.output = w0.output ∧ w0.heap.size ≤ w'.heap.size ∧ ∀ b, b < w0.heap.size → w'.heap[b]? = w0.heap[b]?
/-- from this state on, in lane r -/
def Sem (f r : Nat) (s : ASt) : Prop := ∀ f0 m, f0.f = f → f0.pd = [] → (∀ b, ¬ f0.θ.ini b) → f0.θ.lane = r → StR P w0 cs0 f0 s m → EndsB P w0 cs0 f m
end
noncomputable def isoF (pi : Env → H → List Nat) (la : La) (k : Nat) (en' : Env) (h' : H) (s : ASt) (κ : List T → Fr → R) : R := match s with
  | .mk en td fr cs h _ => br (Nat.beq (pi en h).length k && isoB (pi en h) la en' h' en td fr cs h) (κ td fr) false
  | _ => false
/-- how numbers go over from lane r to lane r' -/
def LaT (la : La) (r r' : Nat) : Prop := (∀ N M, la.ll N M = true → ln r' N = ln r M) ∧ (∀ N n, la.li N n = true → ln r' N = n) ∧ ∀ n M, la.il n M = true → n = ln r M
section
variable {P : Program} {w0 : World} {cs0 : List Frame} {tb : Tb}
theorem EndsB.of_steps {f : Nat} {m m' : Machine} (h : Steps P m m') : EndsB P w0 cs0 f m' → EndsB P w0 cs0 f m
  | ⟨F, w', h1, h2⟩ => ⟨F, w', h.trans h1, h2⟩
theorem ends_b {f0 : F0} {m : Machine} (hpd : f0.pd = []) (hi : ∀ b, ¬ f0.θ.ini b) (h : Ends P w0 cs0 f0 m) : EndsB P w0 cs0 f0.f m := by
  obtain ⟨h, nx, m2, k1, k2⟩ := h
  cases k2 with
  | @fin _ u _ _ θ F' w' hR hv' hl hfn hle =>
    have hu : u = .bool true := by have := hv'.b; exact this
    subst hu
    exact ⟨F', w', k1, hl, hfn, hR.plain.1, hR.plain.2.1, hR.plain.2.2, hR.size, fun b hb => hR.kept b hb (by rw [hle.ini]; exact hi b)⟩
/-- what is left when a state is told anew -/
theorem isoF_ok {f r r' k : Nat} {pi : Env → H → List Nat} {la : La} {en' : Env} {h' : H} {TD : List T} {fr0 : Fr} {s : ASt} {f0 : F0} {m : Machine} (hla : LaT la r r') (hr : r' < 256) (hf : Fresh h' k) (hk : k ≤ 2097152)
    (hn : Sem P w0 cs0 f r' (.mk en' TD fr0 [] h' k)) (h1 : f0.f = f) (h2 : f0.pd = []) (h3 : ∀ b, ¬ f0.θ.ini b) (h4 : f0.θ.lane = r) (hs : StR P w0 cs0 f0 s m)
    (κ : List T → Fr → R) (hκ : ∀ td fr, κ td fr = true → td = TD ∧ fr = fr0) (e : isoF pi la k en' h' s κ = true) : EndsB P w0 cs0 f m := by
  cases s with
  | fin => cases e
  | mk en td fr cs h nx =>
    obtain ⟨b, e⟩ := br_t (show br (Nat.beq (pi en h).length k && isoB (pi en h) la en' h' en td fr cs h) (κ td fr) false = true from e)
    obtain ⟨rfl, rfl⟩ := hκ _ _ e
    rw [Bool.and_eq_true] at b
    have bk := Nat.eq_of_beq_eq_true b.1
    obtain ⟨θ', t1, t2, t3, t4⟩ := iso_ok (lane := r') hs h2 hr (by rw [h4]; exact hla.1) hla.2.1 (by rw [h4]; exact hla.2.2) b.2 (by rw [bk]; exact hf) (by rw [bk]; exact hk)
    rw [bk] at t4
    exact hn ⟨f0.f, [], θ'⟩ m h1 rfl (fun b => by show ¬ θ'.ini b; rw [t3]; exact h3 b) t2 t4
theorem piece_ok (ht : TbOk tb P) (hm : P.follows .mixedOrders = true) {f r r' k N c : Nat} {pi : Env → H → List Nat} {la : La} {en' : Env} {h' : H} {TD : List T} {fr0 : Fr} {s : ASt} (hla : LaT la r r') (hr : r' < 256) (hf : Fresh h' k) (hk : k ≤ 2097152)
    (hp : ∀ κ, runM tb N c s (fun s => isoF pi la k en' h' s κ) = κ TD fr0) (hn : Sem P w0 cs0 f r' (.mk en' TD fr0 [] h' k)) : Sem P w0 cs0 f r s := by
  intro f0 m h1 h2 h3 h4 hs
  classical
  have e := hp fun td fr => decide (td = TD ∧ fr = fr0)
  rw [decide_eq_true ⟨rfl, rfl⟩] at e
  rcases runM_ok ht hm N c s m hs e with g | ⟨s1, m1, k1, k2, k3⟩
  · subst h1; exact ends_b h2 h3 g
  · exact (isoF_ok hla hr hf hk hn h1 h2 h3 h4 k2 _ (fun td fr h => of_decide_eq_true h) k3).of_steps k1
/-- a run that ends -/
theorem last_ok (ht : TbOk tb P) (hm : P.follows .mixedOrders = true) {f r N c : Nat} {s : ASt} (hp : runM tb N c s (fun _ => false) = true) : Sem P w0 cs0 f r s := by
  intro f0 m h1 h2 h3 h4 hs
  rcases runM_ok ht hm N c s m hs hp with g | ⟨s1, m1, k1, k2, k3⟩
  · subst h1; exact ends_b h2 h3 g
  · cases k3
/-- the same state, told in another way -/
theorem told_ok {f r r' k : Nat} {pi : Env → H → List Nat} {la : La} {en' : Env} {h' : H} {TD : List T} {fr0 : Fr} {s : ASt} (hla : LaT la r r') (hr : r' < 256) (hf : Fresh h' k) (hk : k ≤ 2097152)
    (hp : ∀ κ, isoF pi la k en' h' s κ = κ TD fr0) (hn : Sem P w0 cs0 f r' (.mk en' TD fr0 [] h' k)) : Sem P w0 cs0 f r s := by
  intro f0 m h1 h2 h3 h4 hs
  classical
  have e := hp fun td fr => decide (td = TD ∧ fr = fr0)
  rw [decide_eq_true ⟨rfl, rfl⟩] at e
  exact isoF_ok hla hr hf hk hn h1 h2 h3 h4 hs _ (fun td fr h => of_decide_eq_true h) e
/-- a call that is true, shown in pieces -/
theorem go_told (ht : TbOk tb P) (hm : P.follows .mixedOrders = true) {f N c k : Nat} {vs : List AV} {X : Nat → Value} (hX : ∀ n, (X n).oneCell' = true) (hv : Oks (θ0 X hX) vs) {r' : Nat} {pi : Env → H → List Nat} {la : La} {en' : Env} {h' : H} {TD : List T} {fr0 : Fr}
    (hla : LaT la (θ0 X hX).lane r') (hr : r' < 256) (hf : Fresh h' k) (hk : k ≤ 2097152)
    (hp : ∀ κ, enterK tb f vs false [] h0 0 (fun s => runM tb N c s fun s => isoF pi la k en' h' s κ) = κ TD fr0) (hn : ∀ w0 cs0, Sem P w0 cs0 f r' (.mk en' TD fr0 [] h' k)) (w : World) :
    Calls P f (toVs (θ0 X hX) vs).toArray w fun r w' => r = .returned (.bool true) ∧ w'.os = w.os ∧ w'.tape = w.tape ∧ w'.output = w.output ∧ w.heap.size ≤ w'.heap.size ∧ ∀ b, b < w.heap.size → w'.heap[b]? = w.heap[b]? := by
  intro cs0
  classical
  have e := hp fun td fr => decide (td = TD ∧ fr = fr0)
  rw [decide_eq_true ⟨rfl, rfl⟩] at e
  obtain ⟨_, _, _, s, m1, h1, h2, h3⟩ := enter_ok (f0 := ⟨f, [], θ0 X hX⟩) (cs0 := cs0) (κ := fun s => runM tb N c s fun s => isoF pi la k en' h' s fun td fr => decide (td = TD ∧ fr = fr0)) ht e hv (hr0 P w hX) (Fs := []) ⟨rfl, rfl, rfl, rfl, .refl _⟩
  have g : EndsB P w cs0 f m1 := by
    rcases runM_ok ht hm N c s m1 h2 h3 with g | ⟨s1, m2, k1, k2, k3⟩
    · exact ends_b (f0 := ⟨f, [], θ0 X hX⟩) rfl (fun b h => h) g
    · exact (isoF_ok (f0 := ⟨f, [], θ0 X hX⟩) hla hr hf hk (hn w cs0) rfl rfl (fun b h => h) rfl k2 _ (fun td fr h => of_decide_eq_true h) k3).of_steps k1
  obtain ⟨F, w', g1, g2, g3, g4⟩ := g
  exact ⟨_, w', F, ⟨rfl, g4⟩, h1.trans g1, g3, g2⟩
end
/-! ### How numbers go over -/
/-- no lanes -/
def laN : La := ⟨fun _ _ => false, fun _ _ => false, fun _ _ => false⟩
theorem laN_ok (r r' : Nat) : LaT laN r r' := ⟨fun _ _ h => (by cases h), fun _ _ h => (by cases h), fun _ _ h => (by cases h)⟩
/-- into lane 0 -/
def laI : La := ⟨fun _ _ => false, fun N n => Nat.beq (Nat.mod N 340282366920938463463374607431768211456) n, fun _ _ => false⟩
theorem laI_ok (r : Nat) : LaT laI r 0 := ⟨fun _ _ h => (by cases h), fun N n h => by
  have h := Nat.eq_of_beq_eq_true h
  rw [← h]; simp only [ln, Nat.mul_zero, Nat.pow_zero, Nat.div_one]; rfl, fun _ _ h => (by cases h)⟩
/-- as they are -/
def laS : La := ⟨Nat.beq, fun N n => Nat.beq N (Nat.mul LO n) && Nat.blt n 340282366920938463463374607431768211456, fun n N => Nat.beq N (Nat.mul LO n) && Nat.blt n 340282366920938463463374607431768211456⟩
theorem laS_ok {r : Nat} (hr : r < 256) : LaT laS r r := by
  refine ⟨fun N M h => by rw [Nat.eq_of_beq_eq_true h], fun N n h => ?_, fun n N h => ?_⟩
  all_goals
    obtain ⟨h1, h2⟩ := (Bool.and_eq_true _ _ ▸ h : _ ∧ _)
    have h2 : n < 2 ^ 128 := by simpa [Nat.blt_eq] using h2
    rw [Nat.eq_of_beq_eq_true h1, mul_is, ln_LO h2 hr]
/-- one lane on: the lanes below 13 -/
def L13 : Nat := 2 ^ 1664
theorem L13_eq : L13 = 2 ^ (128 * 13) := by decide +kernel
def R13 : Nat := (2 ^ 1664 - 1) / (2 ^ 128 - 1)
theorem R13_eq : R13 = rep1 13 := by decide +kernel
theorem ln_low {N j : Nat} (hj : j < 13) : ln j (N % L13) = ln j N := by
  simp only [ln]
  have e : L13 = 2 ^ (128 * j) * 2 ^ (128 * (13 - j)) := by
    rw [← Nat.pow_add, L13_eq, show 128 * 13 = 128 * j + 128 * (13 - j) by omega]
  rw [e, Nat.mod_mul_right_div_self]
  exact Nat.mod_mod_of_dvd _ (Nat.pow_dvd_pow 2 (by omega))
def laD : La := ⟨fun N M => Nat.beq (Nat.mod (Nat.shiftRight N 128) L13) (Nat.mod M L13), fun N n => Nat.beq (Nat.mod (Nat.shiftRight N 128) L13) (Nat.mul R13 n) && Nat.blt n 340282366920938463463374607431768211456,
  fun n M => Nat.beq (Nat.mod M L13) (Nat.mul R13 n) && Nat.blt n 340282366920938463463374607431768211456⟩
theorem ln_up {N r : Nat} (hr : r < 13) : ln (r + 1) N = ln r ((N >>> 128) % L13) := by
  rw [ln_low hr, ln_succ, Nat.shiftRight_eq_div_pow]
theorem laD_ok {r : Nat} (hr : r < 13) : LaT laD r (r + 1) := by
  refine ⟨fun N M h => ?_, fun N n h => ?_, fun n M h => ?_⟩
  · have h : (N >>> 128) % L13 = M % L13 := Nat.eq_of_beq_eq_true h
    rw [ln_up hr, h, ln_low hr]
  · obtain ⟨h1, h2⟩ := (Bool.and_eq_true _ _ ▸ h : _ ∧ _)
    have h2 : n < 2 ^ 128 := by simpa [Nat.blt_eq] using h2
    have h1 : (N >>> 128) % L13 = R13 * n := Nat.eq_of_beq_eq_true h1
    rw [ln_up hr, h1, R13_eq, ln_rep h2 hr]
  · obtain ⟨h1, h2⟩ := (Bool.and_eq_true _ _ ▸ h : _ ∧ _)
    have h2 : n < 2 ^ 128 := by simpa [Nat.blt_eq] using h2
    have h1 : M % L13 = R13 * n := Nat.eq_of_beq_eq_true h1
    rw [← ln_low hr, h1, R13_eq, ln_rep h2 hr]
/-- out of lane 13 -/
def laE : La := ⟨fun _ _ => false, fun _ _ => false, fun n M => Nat.beq (Nat.mod (Nat.shiftRight M 1664) 340282366920938463463374607431768211456) n⟩
theorem laE_ok (r' : Nat) : LaT laE 13 r' := ⟨fun _ _ h => (by cases h), fun _ _ h => (by cases h), fun n M h => by
  have h : (M >>> (128 * 13)) % 2 ^ 128 = n := Nat.eq_of_beq_eq_true h
  rw [← h, Nat.shiftRight_eq_div_pow, ln]⟩
/-! ### Words of states -/
/-- 14 numbers in lanes, the last one in all that are left -/
def LT : Nat := (2 ^ 31104 - 1) / (2 ^ 128 - 1)
def lw : List Nat → Nat
  | [] => 0
  | a :: r => match r with
    | [] => Nat.mul a LT
    | b :: s => Nat.add a (Nat.mul 340282366920938463463374607431768211456 (lw (b :: s)))
/-- cells that are not asked for -/
def wT : (d : Nat) → Nat → L (Option AV) d
  | 0, b => some (.x b)
  | d + 1, b => (N8.mk (wT d b) (wT d (Nat.add b (8 ^ d))) (wT d (Nat.add b (2 * 8 ^ d))) (wT d (Nat.add b (3 * 8 ^ d))) (wT d (Nat.add b (4 * 8 ^ d))) (wT d (Nat.add b (5 * 8 ^ d))) (wT d (Nat.add b (6 * 8 ^ d))) (wT d (Nat.add b (7 * 8 ^ d))) : N8 (L (Option AV) d))
theorem fresh_mk {l : List (Nat × AO)} {k : Nat} (hl : (l.all fun p => Nat.blt p.1 k && Nat.blt p.1 1835008) = true) : Fresh (mkT 7 l) k := by
  intro o a ho h
  have hm := mkT_at (n := 6) (l := l) (fun p hp => by
    have := List.all_eq_true.1 hl p hp
    simp only [Bool.and_eq_true, Nat.blt_eq] at this
    exact this.2) h
  have := List.all_eq_true.1 hl _ hm
  simp only [Bool.and_eq_true, Nat.blt_eq] at this
  exact this.1
end Go.AM
