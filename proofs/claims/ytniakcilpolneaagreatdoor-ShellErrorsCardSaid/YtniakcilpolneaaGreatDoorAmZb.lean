/-
  AM, 28: tables; what a run of a closed call shows of the model. Conditions: none.
-/
import Derived.Test.YtniakcilpolneaaGreatDoorAmY
import Derived.ShutString
import Derived.Carry
import Derived.OpenShut
import Derived.WalkKit
import Derived.WideShapes
namespace Go.AM
open Go

/-! ### Tables -/
def mkT {α : Type} (n : Nat) : List (Nat × α) → L (Option α) n
  | [] => repL (Option α) none n
  | (i, x) :: l => setL (Option α) (some x) n i (mkT n l)
theorem mkT_get {α : Type} {n : Nat} {i : Nat} {x : α} (hi : i < 8 ^ n) : ∀ {l : List (Nat × α)}, (∀ p ∈ l, p.1 < 8 ^ n) → getL (Option α) n i (mkT n l) = some x → (i, x) ∈ l
  | [], _, h => by
    have : getL (Option α) n i (repL (Option α) none n) = some x := h
    rw [getL_repL] at this
    cases this
  | (j, y) :: l, hl, h => by
    have h : getL (Option α) n i (setL (Option α) (some y) n j (mkT n l)) = some x := h
    by_cases e : i = j
    · subst e
      rw [getL_setL] at h
      injection h with h; subst h
      exact List.mem_cons_self ..
    · rw [getL_setL_ne (some y) n _ (hl _ (List.mem_cons_self ..)) hi e] at h
      exact List.mem_cons_of_mem _ (mkT_get hi (fun p hp => hl p (List.mem_cons_of_mem _ hp)) h)
theorem getL_clip {α : Type} (n : Nat) (t : L α (n + 1)) {i : Nat} (hi : 8 ^ (n + 1) ≤ i) : getL α (n + 1) i t = getL α (n + 1) (7 * 8 ^ n + i % 8 ^ n) t := by
  have hp : 0 < 8 ^ n := Nat.pow_pos (by omega)
  show getL α n (i % 8 ^ n) (ch (i / 8 ^ n) (t : N8 (L α n))) = getL α n ((7 * 8 ^ n + i % 8 ^ n) % 8 ^ n) (ch ((7 * 8 ^ n + i % 8 ^ n) / 8 ^ n) (t : N8 (L α n)))
  have hlt := Nat.mod_lt i hp
  have e1 : (7 * 8 ^ n + i % 8 ^ n) % 8 ^ n = i % 8 ^ n := by
    rw [Nat.mul_comm, Nat.mul_add_mod, Nat.mod_mod]
  have e2 : (7 * 8 ^ n + i % 8 ^ n) / 8 ^ n = 7 := by
    rw [Nat.mul_comm, Nat.mul_add_div hp, Nat.div_eq_of_lt hlt]
  obtain ⟨k, e3⟩ : ∃ k, i / 8 ^ n = k + 7 := by
    have : 8 ≤ i / 8 ^ n := (Nat.le_div_iff_mul_le hp).2 (by rw [Nat.pow_succ] at hi; omega)
    exact ⟨i / 8 ^ n - 7, by omega⟩
  rw [e1, e2, e3]
  have : ∀ t : N8 (L α n), ch (k + 7) t = ch 7 t := by intro t; cases t; rfl
  exact congrArg _ (this _)
theorem mkT_at {α : Type} {n : Nat} {i : Nat} {x : α} {l : List (Nat × α)} (hl : ∀ p ∈ l, p.1 < 7 * 8 ^ n) (h : getL (Option α) (n + 1) i (mkT (n + 1) l) = some x) : (i, x) ∈ l := by
  have hp : 0 < 8 ^ n := Nat.pow_pos (by omega)
  have hl' : ∀ p ∈ l, p.1 < 8 ^ (n + 1) := fun p hp => by have := hl p hp; rw [Nat.pow_succ]; omega
  by_cases hi : i < 8 ^ (n + 1)
  · exact mkT_get hi hl' h
  · rw [getL_clip n _ (Nat.le_of_not_lt hi)] at h
    have hm := mkT_get (by have := Nat.mod_lt i hp; rw [Nat.pow_succ]; omega) hl' h
    have := hl _ hm
    simp only at this
    omega
/-- all of a list -/
def All {α : Type} (p : α → Prop) : List α → Prop
  | [] => True
  | x :: l => p x ∧ All p l
theorem All.mem {α : Type} {p : α → Prop} : ∀ {l : List α}, All p l → ∀ x ∈ l, p x
  | [], _, x, hx => by cases hx
  | y :: l, h, x, hx => by
    rcases List.mem_cons.1 hx with rfl | hx
    · exact h.1
    · exact h.2.mem x hx
theorem All.app {α : Type} {p : α → Prop} : ∀ {l r : List α}, All p l → All p r → All p (l ++ r)
  | [], _, _, h => h
  | _ :: _, _, h, h' => ⟨h.1, h.2.app h'⟩
/-- a function's code, or its contract -/
def FOk (P : Program) : Nat × AFn → Prop
  | (f, .mk c r) => f < 3584 ∧ ∃ c0, trF P f = some (.mk c0 r) ∧ CR c c0
  | (f, .sp s) => f < 3584 ∧ (∃ fn body, FnC P f fn body) ∧ SpOk P f s
def LOk (P : Program) (p : Nat × ALp) : Prop := p.1 < 28672 ∧ trL P p.1 = some p.2
theorem fOk {P : Program} {f : Nat} {c : C} {r : ResF} (h1 : f < 3584) (h2 : trF P f = some (.mk c r)) : FOk P (f, .mk c r) := ⟨h1, c, h2, .refl _⟩
/-- which pieces of a code a run comes to -/
inductive PM where
  | all
  | cut
  | two (a b : PM)
  | one (a : PM)
noncomputable def prune (m : PM) : C → C :=
  @PM.rec (fun _ => C → C) (fun c => c) (fun _ => .bad)
    (fun _ _ ia ib c => @C.rec (fun _ => C) c (fun _ => c) (fun a b _ _ => .seq (ia a) (ib b)) (fun x a b _ _ => .cond x (ia a) (ib b)) (fun _ _ _ => c) (fun _ _ => c) (fun _ _ => c) (fun _ => c) (fun _ _ => c) c c (fun _ _ _ => c) c)
    (fun _ ia c => @C.rec (fun _ => C) c (fun _ => c) (fun _ _ _ _ => c) (fun _ _ _ _ _ => c) (fun id a _ => .blk id (ia a)) (fun a _ => .loop (ia a)) (fun _ _ => c) (fun _ => c) (fun a _ => .sc (ia a)) c c (fun _ _ _ => c) c) m
theorem prune_cr : ∀ (m : PM) (c : C), CR (prune m c) c
  | .all, c => .refl c
  | .cut, c => .bad c
  | .two m n, c => by
    cases c with
    | seq a b => exact .seq (prune_cr m a) (prune_cr n b)
    | cond x a b => exact .cond (prune_cr m a) (prune_cr n b)
    | _ => exact .refl _
  | .one m, c => by
    cases c with
    | blk id a => exact .blk (prune_cr m a)
    | loop a => exact .loop (prune_cr m a)
    | sc a => exact .sc (prune_cr m a)
    | _ => exact .refl _
noncomputable def pruneF (m : PM) (o : Option AFn) : Option AFn := @Option.rec AFn (fun _ => Option AFn) none (fun u => @AFn.rec (fun _ => Option AFn) (fun c r => some (.mk (prune m c) r)) (fun _ => none) u) o
theorem fOkP {P : Program} {f : Nat} {m : PM} {c : C} {r : ResF} (h1 : f < 3584) (h2 : pruneF m (trF P f) = some (.mk c r)) : FOk P (f, .mk c r) := by
  refine ⟨h1, ?_⟩
  cases ht : trF P f with
  | none => rw [ht] at h2; cases h2
  | some u =>
    rw [ht] at h2
    cases u with
    | sp s => cases h2
    | mk c0 r0 =>
      have h2 : some (AFn.mk (prune m c0) r0) = some (.mk c r) := h2
      injection h2 with h2
      injection h2 with h3 h4
      subst h3 h4
      exact ⟨c0, rfl, prune_cr m c0⟩
theorem tbOk {P : Program} {lv : Bool} {fl : List (Nat × AFn)} {ll : List (Nat × ALp)} (hf : All (FOk P) fl) (hl : All (LOk P) ll) : TbOk (.mk (mkT 4 fl) (mkT 5 ll) lv) P where
  fn := by
    intro f κ e
    have e : getK (Option AFn) (opt AFn fun u => match u with | .mk c r => κ c r | .sp _ => false) 4 f (mkT 4 fl) = true := e
    rw [getK_eq] at e
    cases hg : getL (Option AFn) 4 f (mkT 4 fl) with
    | none => rw [hg] at e; cases e
    | some u =>
      rw [hg] at e
      have hm := mkT_at (n := 3) (l := fl) (fun p hp => by have := hf.mem p hp; obtain ⟨g, u⟩ := p; cases u <;> exact this.1) hg
      have := hf.mem _ hm
      cases u with
      | mk c r => obtain ⟨c0, k1, k2⟩ := this.2; exact ⟨c0, c, r, k1, k2, e⟩
      | sp s => cases e
  en := by
    intro f κ σ e
    have e : getK (Option AFn) (opt AFn fun u => match u with | .mk c _ => κ c | .sp s => σ s) 4 f (mkT 4 fl) = true := e
    rw [getK_eq] at e
    cases hg : getL (Option AFn) 4 f (mkT 4 fl) with
    | none => rw [hg] at e; cases e
    | some u =>
      rw [hg] at e
      have hm := mkT_at (n := 3) (l := fl) (fun p hp => by have := hf.mem p hp; obtain ⟨g, u⟩ := p; cases u <;> exact this.1) hg
      have := hf.mem _ hm
      cases u with
      | mk c r => obtain ⟨c0, k1, k2⟩ := this.2; exact .inl ⟨c0, c, r, k1, k2, e⟩
      | sp s => obtain ⟨fn, body, hfc⟩ := this.2.1; exact .inr ⟨s, fn, body, hfc, this.2.2, e⟩
  lp := by
    intro l κ e
    have e : getK (Option ALp) (opt ALp fun u => match u with | .mk p a b => κ p a b) 5 l (mkT 5 ll) = true := e
    rw [getK_eq] at e
    cases hg : getL (Option ALp) 5 l (mkT 5 ll) with
    | none => rw [hg] at e; cases e
    | some u =>
      rw [hg] at e
      have hm := mkT_at (n := 4) (l := ll) (fun p hp => (hl.mem p hp).1) hg
      have := hl.mem _ hm
      cases u with
      | mk p a b => exact ⟨p, a, b, this.2, e⟩

/-! ### A closed call -/
def h0 : H := repL (Option AO) none 7
def θ0 (X : Nat → Value) (hX : ∀ n, (X n).oneCell' = true) : Th := { has := fun _ => False, blk := fun _ => 0, bas := fun _ => 0, siz := fun _ => 0, esz := fun _ => 0, ini := fun _ => False, ext := X, ext1 := hX }
/-- the table, in world w -/
def GloW (P : Program) (w : World) : Prop := ∀ g, P.globalNamed "math/bits.deBruijn64tab" = some g → w.cell? ⟨g, 15, none⟩ = some (.int .u8 4)
theorem cell_lt {w : World} {b o : Nat} {v : Value} (h : w.cell? ⟨b, o, none⟩ = some v) : b < w.heap.size := by
  unfold World.cell? at h
  cases e : w.heap[b]? with
  | none => rw [show w.heap[(⟨b, o, none⟩ : Addr).block]? = w.heap[b]? from rfl, e] at h; cases h
  | some ob => exact (Array.getElem?_eq_some_iff.1 e).1
theorem HR.gloW {P : Program} {w0 w : World} {pd : List (Nat × AO)} {θ : Th} {h : H} {nx : Nat} (hR : HR P w0 pd θ h nx w) : GloW P w := by
  intro g hg
  obtain ⟨h1, h2⟩ := hR.glo g hg
  have h3 := hR.kept g (cell_lt h2) h1
  unfold World.cell? at h2 ⊢
  rw [show w.heap[(⟨g, 15, none⟩ : Addr).block]? = w0.heap[(⟨g, 15, none⟩ : Addr).block]? from h3]
  exact h2
theorem hr0 (P : Program) (w : World) {X : Nat → Value} (hX : ∀ n, (X n).oneCell' = true) (hg : GloW P w) : HR P w [] (θ0 X hX) h0 0 w where
  glo g e := ⟨id, hg g e⟩
  lim := by omega
  own o ho := ho.elim
  apart o o' a a' _ ho := ho.elim
  size := Nat.le_refl _
  kept b hb _ := rfl
  plain := ⟨rfl, rfl, rfl⟩
  pend o a h := by cases h
  nodup := List.nodup_nil
  fresh o a _ h := by
    have : obj h0 o = none := getL_repL _ 7 o
    rw [this] at h; cases h
/-- run: a call with closed arguments -/
noncomputable def goF (tb : Tb) (n f : Nat) (vs : List AV) (κ : AV → H → Nat → R) : R := enterK tb f vs false [] h0 0 fun s => runF tb n s κ
/-- what a run shows: the call returns, whatever the world -/
theorem go_calls {P : Program} {tb : Tb} (ht : TbOk tb P) (hm : P.follows .mixedOrders = true) {n f : Nat} {vs : List AV} {κ : AV → H → Nat → R} {X : Nat → Value} (hX : ∀ n, (X n).oneCell' = true) (hv : Oks (θ0 X hX) vs) (e : goF tb n f vs κ = true) (w : World) (hg : GloW P w) :
    Calls P f (toVs (θ0 X hX) vs).toArray w fun r w' => ∃ v h nx θ u, r = .returned u ∧ VR θ v u ∧ HR P w [] θ h nx w' ∧ κ v h nx = true ∧ (θ0 X hX).le θ := by
  intro cs0
  obtain ⟨_, _, _, s, m1, h1, h2, h3⟩ := enter_ok (f0 := ⟨f, [], θ0 X hX⟩) (cs0 := cs0) (κ := fun s => runF tb n s κ) ht e hv (hr0 P w hX hg) (Fs := []) ⟨rfl, rfl, rfl, rfl, .refl _⟩
  obtain ⟨v, h, nx, m2, k1, k2, k3⟩ := runF_ok ht hm n s m1 h2 h3
  cases k2 with
  | @fin _ u _ _ θ F w' hR hv' hl hfn hle =>
    exact ⟨.returned u, w', F, ⟨v, h, nx, θ, u, rfl, hv', hR, k3, hle⟩, h1.trans k1, hfn, hl⟩
/-- a contract that the machine itself shows -/
theorem sp_of_run {P : Program} {tb : Tb} (ht : TbOk tb P) (hm : P.follows .mixedOrders = true) {f : Nat} {s : SpF}
    (hrun : ∀ vs h nx κ, s vs h nx κ = true → ∃ n, enterK tb f vs false [] h nx (fun s => runF tb n s κ) = true) : SpOk P f s := by
  intro w0 pd θ h nx w vs κ hR hv e cs0
  obtain ⟨n, e⟩ := hrun _ _ _ _ e
  obtain ⟨_, _, _, s, m1, h1, h2, h3⟩ := enter_ok (f0 := ⟨f, pd, θ⟩) (cs0 := cs0) (κ := fun s => runF tb n s κ) ht e hv hR (Fs := []) ⟨rfl, rfl, rfl, rfl, .refl _⟩
  obtain ⟨v, h', nx', m2, k1, k2, k3⟩ := runF_ok ht hm n s m1 h2 h3
  cases k2 with
  | @fin _ u _ _ θ' F w' hR' hv' hl hfn hle =>
    exact ⟨.returned u, w', F, ⟨v, u, θ', h', nx', rfl, hle, hv', hR', k3⟩, h1.trans k1, hfn, hl⟩
/-- a call that is true -/
theorem go_true {P : Program} {tb : Tb} (ht : TbOk tb P) (hm : P.follows .mixedOrders = true) {n f : Nat} {vs : List AV} {X : Nat → Value} (hX : ∀ n, (X n).oneCell' = true) (hv : Oks (θ0 X hX) vs)
    (e : goF tb n f vs (fun v _ _ => match v with | .b c => c | _ => false) = true) (w : World) (hg : GloW P w) :
    Calls P f (toVs (θ0 X hX) vs).toArray w fun r w' => r = .returned (.bool true) ∧ w'.os = w.os ∧ w'.tape = w.tape ∧ w'.output = w.output ∧ w.heap.size ≤ w'.heap.size ∧ ∀ b, b < w.heap.size → w'.heap[b]? = w.heap[b]? := by
  intro cs0
  obtain ⟨r, w', fr, ⟨v, h, nx, θ, u, rfl, hv, hR, hk, hle⟩, hc, hfn, hl⟩ := go_calls ht hm hX hv e w hg cs0
  refine ⟨_, w', fr, ⟨?_, hR.plain.1, hR.plain.2.1, hR.plain.2.2, hR.size, fun b hb => hR.kept b hb (by rw [hle.ini]; exact id)⟩, hc, hfn, hl⟩
  cases v <;> first | (cases hk; done) | skip
  rename_i c
  have hk : c = true := hk
  subst hk
  rw [hv.b]
/-- a call with memory handed in: objects h1 that lie where θ1 says; what it shows of its end -/
theorem go_with {P : Program} {tb : Tb} (ht : TbOk tb P) (hm : P.follows .mixedOrders = true) {n f : Nat} {vs : List AV} {κ : AV → H → Nat → R} {θ1 : Th} {h1 : H} {nx1 : Nat} {w : World} (hR : HR P w [] θ1 h1 nx1 w) (hv : Oks θ1 vs)
    (e : enterK tb f vs false [] h1 nx1 (fun s => runF tb n s κ) = true) :
    Calls P f (toVs θ1 vs).toArray w fun r w' => ∃ v h nx θ u, r = .returned u ∧ VR θ v u ∧ HR P w [] θ h nx w' ∧ κ v h nx = true ∧ θ1.le θ := by
  intro cs0
  obtain ⟨_, _, _, s, m1, h1, h2, h3⟩ := enter_ok (f0 := ⟨f, [], θ1⟩) (cs0 := cs0) (κ := fun s => runF tb n s κ) ht e hv hR (Fs := []) ⟨rfl, rfl, rfl, rfl, .refl _⟩
  obtain ⟨v, h, nx, m2, k1, k2, k3⟩ := runF_ok ht hm n s m1 h2 h3
  cases k2 with
  | @fin _ u _ _ θ F w' hR' hv' hl hfn hle =>
    exact ⟨.returned u, w', F, ⟨v, h, nx, θ, u, rfl, hv', hR', k3, hle⟩, h1.trans k1, hfn, hl⟩
/-! ### A call that is known to be true -/
theorem HR.wider {P : Program} {w0 w w' : World} {pd : List (Nat × AO)} {θ : Th} {h : H} {nx : Nat} (hR : HR P w0 pd θ h nx w) (h1 : w'.os = w.os ∧ w'.tape = w.tape ∧ w'.output = w.output) (h2 : w.heap.size ≤ w'.heap.size)
    (h3 : ∀ b, b < w.heap.size → w'.heap[b]? = w.heap[b]?) : HR P w0 pd θ h nx w' where
  lim := hR.lim
  own o ho := by
    obtain ⟨k1, k2, k3, a, k4, k5, k6⟩ := hR.own o ho
    exact ⟨k1, k2, by omega, a, k4, k5.mono (.refl θ) ho (h3 _ k3), k6⟩
  apart := hR.apart
  size := Nat.le_trans hR.size h2
  kept b hb hi := (h3 b (Nat.lt_of_lt_of_le hb hR.size)).trans (hR.kept b hb hi)
  plain := ⟨h1.1.trans hR.plain.1, h1.2.1.trans hR.plain.2.1, h1.2.2.trans hR.plain.2.2⟩
  pend := hR.pend
  nodup := hR.nodup
  fresh := hR.fresh
  glo := hR.glo
noncomputable def spTrue : SpF := fun vs h nx κ => match vs with | [] => κ (.b true) h nx | _ => false
theorem spTrue_ok {P : Program} {f : Nat} (hc : ∀ w, GloW P w → Calls P f #[] w fun r w' => r = .returned (.bool true) ∧ w'.os = w.os ∧ w'.tape = w.tape ∧ w'.output = w.output ∧ w.heap.size ≤ w'.heap.size ∧ ∀ b, b < w.heap.size → w'.heap[b]? = w.heap[b]?) : SpOk P f spTrue := by
  intro w0 pd θ h nx w vs κ hR hv e
  cases vs with
  | cons v vs => cases e
  | nil => exact (hc w hR.gloW).mono fun r w' ⟨h1, h2, h3, h4, h5, h6⟩ => ⟨.b true, .bool true, θ, h, nx, h1, .refl θ, vr_b θ true, hR.wider ⟨h2, h3, h4⟩ h5 h6, e⟩
end Go.AM
namespace Go.AM
open Go Go.RowKit Go.ChangeShapes Go.WideShapes

def argsCk (P : Program) : List TypeId → Bool
  | [] => true
  | t :: ts => (P.readableRec t && decide (t < P.types.size)) && argsCk P ts
section
variable {H : Type} {enc : TypeId × Value → H} {P : Program}
theorem args_stay (hl : laidOutB P = true) {W W' : World} (hb : Below W.heap.size W W') {sp' : Nat → Bool} : ∀ {ts : List TypeId} {vs : List Value} {ds : List (DataW H)} {ps : List MemPlace}, argsCk P ts = true →
    DataW.TrodAll enc P W 0 (fun _ => true) true ts vs ds ps → (∀ p ∈ ps, p.block < W.heap.size) → (∀ p ∈ ps, sp' p.block = true) → DataW.TrodAll enc P W' 0 sp' true ts vs ds ps
  | [], vs, ds, ps, _, h, _, _ => by
    obtain ⟨rfl, rfl, rfl⟩ := trodAll_nil h
    exact trodAll_mk0
  | t :: ts, vs, ds, ps, hck, h, hlt, hsp => by
    obtain ⟨v0, vs0, d0, ds0, p0, q0, rfl, rfl, rfl, h0, r0⟩ := trodAll_cons h
    unfold argsCk at hck
    simp only [Bool.and_eq_true, decide_eq_true_eq] at hck
    obtain ⟨⟨hk1, hk2⟩, hck⟩ := hck
    refine trodAll_cons_mk (WideElems.Trod_stays hl hk1 hk2 h0 (fun x hx => hb.same (hlt x (List.mem_append.2 (.inl hx)))) (fun x hx => hsp x (List.mem_append.2 (.inl hx)))) ?_
    exact args_stay hl hb hck r0 (fun x hx => hlt x (List.mem_append.2 (.inr hx))) (fun x hx => hsp x (List.mem_append.2 (.inr hx)))
theorem trodAll_len {base : Nat} {sp : Nat → Bool} {held : Bool} {W : World} : ∀ {ts : List TypeId} {vs : List Value} {ds : List (DataW H)} {ps : List MemPlace}, DataW.TrodAll enc P W base sp held ts vs ds ps → ds.length = ts.length ∧ vs.length = ts.length
  | [], vs, ds, ps, h => by
    obtain ⟨rfl, rfl, rfl⟩ := trodAll_nil h
    exact ⟨rfl, rfl⟩
  | t :: ts, vs, ds, ps, h => by
    obtain ⟨v0, vs0, d0, ds0, p0, q0, rfl, rfl, rfl, h0, r0⟩ := trodAll_cons h
    obtain ⟨h1, h2⟩ := trodAll_len r0
    exact ⟨by simp [h1], by simp [h2]⟩
/-- A LAW's STEP: it answers true; the arguments read as they did. -/
theorem law_calls {f : FuncId} {fn : Func} {s : ChangeSpec} {tb : TypeId} {apart handsOn : Bool} (hrt : fn.resultTypes = #[tb]) (htb : P.underlying tb = some .bool)
    (hl : laidOutB P = true) (hck : argsCk P fn.params.toList = true) (hsv : s.vars = []) (hs : ∀ ds : List (DataW H), ds.length = fn.params.size → s.fn H ds = { results := [.lit (.bool true)], args := ds })
    {W : World} {args : Array Value} {ds gs : List (DataW H)} {before : List MemPlace}
    (hC : args.size = fn.params.size → Calls P f args W fun r w' => r = .returned (.bool true) ∧ w'.os = W.os ∧ w'.tape = W.tape ∧ w'.output = W.output ∧ W.heap.size ≤ w'.heap.size ∧ ∀ b, b < W.heap.size → w'.heap[b]? = W.heap[b]?)
    (hW : DataW.Whole enc P fn.params.toList s.vars apart W args.toList ds gs before) :
    Calls P f args W fun e W' => ∃ v, e = .returned v ∧ s.post enc P fn apart true handsOn false W args v W' := by
  have hlt := hW.lt
  have hW' := hW
  obtain ⟨p, q, hA, hV, rfl, _, _⟩ := hW
  rw [hsv] at hV
  obtain ⟨rfl, rfl⟩ := trodVars_none hV
  rw [List.append_nil] at hlt hW'
  obtain ⟨hlen, hlen2⟩ := trodAll_len hA
  refine (hC (by simpa using hlen2)).mono fun e W' ⟨he, h1, h2, h3, h4, h5⟩ => ⟨_, he, ?_⟩
  have hb : Below W.heap.size W W' := ⟨h1, h2, h3, h4, h5⟩
  have hsfn : s.fn H (ds ++ []) = { results := [.lit (.bool true)], args := ds } := by
    rw [List.append_nil]; exact hs ds (by rw [hlen]; simp)
  refine ⟨ds, [], p, [], p, [], hW', ?_, ?_, ?_, hb.frame _, fun h => by cases h⟩
  · rw [hsfn, hrt]
    exact trodAll_cons_mk (shut_bool htb true) trodAll_mk0
  · rw [hsfn]
    exact args_stay hl hb hck hA hlt fun x hx => by simpa using hlt x hx
  · rw [hsfn, hsv]
    exact rfl
end
end Go.AM
namespace Go.AM
open Go Go.RowKit Go.WideShapes

section
variable {P : Program} {w : World} {r : Reach} {b : Nat} {t : TypeId} {v : Value}
theorem cell_one (h : Cell.okWide P w r b t v) : v.oneCell' = true := by
  cases v <;> first
    | rfl
    | (unfold Cell.okWide Cell.ok at h; revert h; repeat' split) <;> simp_all
theorem val_slice {e : TypeId} (ht : P.underlying t = some (.slice e)) (h : Value.okWide P w r b t v) : v.oneCell' = true := by
  obtain ⟨a, n, c, rfl⟩ := okWide_slice ht h; rfl
theorem val_string (ht : P.underlying t = some .string) (h : Value.okWide P w r b t v) : v.oneCell' = true := by
  obtain ⟨s, rfl⟩ := okWide_string ht h; rfl
theorem val_str (ht : P.underlying t = some .string) (h : Value.okWide P w r b t v) : ∃ s, v = .string s := okWide_string ht h
theorem val_int {k : IntKind} (ht : P.underlying t = some (.int k)) (h : Value.okWide P w r b t v) : v.oneCell' = true := by
  obtain ⟨n, rfl⟩ := okWide_int ht h; rfl
theorem val_bool (ht : P.underlying t = some .bool) (h : Value.okWide P w r b t v) : v.oneCell' = true := by
  obtain ⟨n, rfl⟩ := okWide_bool ht h; rfl
theorem val_struct {fs : Array Field} {n : Nat} (ht : P.underlying t = some (.struct fs)) (hn : P.cellsOf t = n) (h : Value.okWide P w r b t v) : ∃ cs : Array Value, v = .agg cs ∧ cs.size = n ∧ ∀ (i : Nat) (u : Value), cs[i]? = some u → u.oneCell' = true := by
  unfold Value.okWide at h
  rw [ht] at h
  obtain ⟨cs, h1, h2, ts, _, _, h3⟩ := h
  exact ⟨cs, h1, h2.trans hn, fun i u hu => let ⟨_, _, h4⟩ := h3 i u hu; cell_one h4⟩
/-- a number of few bits -/
theorem val_small {k : IntKind} {m : Nat} (ht : P.underlying t = some (.int k)) (hm : ∀ n, k.has n → ∃ w : Nat, n = w ∧ w < m) (h : Value.okWide P w r b t v) : ∃ n : Nat, v = .int k n ∧ n < m := by
  unfold Value.okWide at h
  rw [ht] at h
  replace h : Cell.okWide P w r b t v := h
  unfold Cell.okWide Cell.ok at h
  rw [ht] at h
  cases v <;> first | exact (show False from h).elim | skip
  rename_i k' n
  obtain ⟨rfl, h2⟩ : k' = k ∧ k.has n := h
  obtain ⟨w', rfl, hw⟩ := hm n h2
  exact ⟨w', rfl, hw⟩
theorem has_u8 (n : Int) (h : IntKind.u8.has n) : ∃ w : Nat, n = w ∧ w < 256 := by
  obtain ⟨h1, h2⟩ : IntKind.u8.min ≤ n ∧ n ≤ IntKind.u8.max := by simpa [IntKind.has] using h
  have h1 : 0 ≤ n := by simpa [IntKind.min, IntKind.signed] using h1
  have h2 : n ≤ 255 := by simpa [IntKind.max, IntKind.signed, IntKind.bits] using h2
  exact ⟨n.toNat, by omega, by omega⟩
theorem has_u16 (n : Int) (h : IntKind.u16.has n) : ∃ w : Nat, n = w ∧ w < 65536 := by
  obtain ⟨h1, h2⟩ : IntKind.u16.min ≤ n ∧ n ≤ IntKind.u16.max := by simpa [IntKind.has] using h
  have h1 : 0 ≤ n := by simpa [IntKind.min, IntKind.signed] using h1
  have h2 : n ≤ 65535 := by simpa [IntKind.max, IntKind.signed, IntKind.bits] using h2
  exact ⟨n.toNat, by omega, by omega⟩
end
/-! ### Texts -/
theorem bytes_of_beq {s r : ByteArray} (h : (s == r) = true) : s = r := by
  have h : (s.data == r.data) = true := h
  obtain ⟨d⟩ := s
  obtain ⟨e⟩ := r
  have h : d = e := eq_of_beq h
  rw [h]
theorem bytes_ne_symm {s r : ByteArray} (h : (s == r) = false) : (r == s) = false := by
  cases e : (r == s) with
  | false => rfl
  | true =>
    have := bytes_of_beq e
    subst this
    have hr : (r == r) = true := by
      have e : (r == r) = (r.data == r.data) := rfl
      rw [e]
      simp
    rw [hr] at h; cases h
/-- the values handed in, by their places -/
def XL (l : List Value) (n : Nat) : Value := (l[n]?).getD (.bool false)
theorem XL_one {l : List Value} (h : ∀ u ∈ l, u.oneCell' = true) (n : Nat) : (XL l n).oneCell' = true := by
  unfold XL
  cases hn : l[n]? with
  | none => rfl
  | some u => exact h u (List.mem_of_getElem? hn)
/-- all below n -/
noncomputable def allLt (n : Nat) (p : Nat → Bool) : Bool := @Nat.rec (fun _ => Bool) true (fun k ih => @Bool.rec (fun _ => Bool) false ih (p k)) n
theorem allLt_true {p : Nat → Bool} : ∀ {n : Nat}, allLt n p = true → ∀ k, k < n → p k = true
  | 0, _, k, hk => by omega
  | n + 1, h, k, hk => by
    have h : @Bool.rec (fun _ => Bool) false (allLt n p) (p n) = true := h
    cases hp : p n with
    | false => rw [hp] at h; cases h
    | true =>
      rw [hp] at h
      by_cases e : k = n
      · subst e; exact hp
      · exact allLt_true h k (by omega)
end Go.AM
