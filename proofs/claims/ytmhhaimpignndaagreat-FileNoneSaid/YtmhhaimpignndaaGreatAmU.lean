/-
  AM, 21: regions that draw their order: what is carried out by the machine, what by the model. Conditions: none.
-/
import Derived.Test.YtmhhaimpignndaaGreatAmS
namespace Go.AM
open Go

section
variable {P : Program} {nt : Nat} {ops : Array Oper}
theorem memb_iff {n : Nat} : ∀ {l : List Nat}, memb n l = true ↔ n ∈ l
  | [] => by simp [memb]
  | m :: r => by
    simp only [memb, Bool.or_eq_true, List.mem_cons, memb_iff (l := r)]
    constructor
    · rintro (h | h)
      · exact .inl (Nat.eq_of_beq_eq_true h).symm
      · exact .inr h
    · rintro (h | h)
      · exact .inl (by rw [h]; exact Nat.beq_refl _)
      · exact .inr h
theorem memb_false {n : Nat} {l : List Nat} : memb n l = false ↔ n ∉ l := by
  rw [← memb_iff]; simp
/-! ### What comes before what -/
/-- i waits for j, at once or by others -/
inductive Waits (ops : Array Oper) : Nat → Nat → Prop where
  | one {i : Nat} {o : Oper} {e : Edge} (ho : ops[i]? = some o) (he : e ∈ o.after) (hb : Region.binds .any e = true) : Waits ops i e.on
  | more {i j : Nat} {o : Oper} {e : Edge} (ho : ops[i]? = some o) (he : e ∈ o.after) (hb : Region.binds .any e = true) (h : Waits ops e.on j) : Waits ops i j
/-- closed: with an operation all that it waits for -/
def Shut (ops : Array Oper) (D : Nat → Prop) : Prop := ∀ i, D i → ∀ o, ops[i]? = some o → ∀ e ∈ o.after, Region.binds .any e = true → D e.on
theorem Waits.shut {D : Nat → Prop} (hD : Shut ops D) : ∀ {i j : Nat}, Waits ops i j → (∀ o, ops[i]? = some o → ∀ e ∈ o.after, Region.binds .any e = true → D e.on) → D j
  | _, _, .one ho he hb, h => h _ ho _ he hb
  | _, _, .more ho he hb w, h => w.shut hD (hD _ (h _ ho _ he hb))
theorem before_waits : ∀ (i j : Nat), ((Region.before ops).getD i 0).testBit j = true → Waits ops i j := by
  have inner : ∀ (acc : Array Nat) (i : Nat) (o : Oper), ops[i]? = some o → (∀ k j, ((acc.getD k 0).testBit j = true → Waits ops k j)) → ∀ (es : List Edge) (s : Nat), (∀ e ∈ es, e ∈ o.after) → (∀ j, s.testBit j = true → Waits ops i j) →
      ∀ j, (es.foldl (fun s e => if Region.binds .any e then s ||| 2 ^ e.on ||| acc.getD e.on 0 else s) s).testBit j = true → Waits ops i j := by
    intro acc i o ho hacc es
    induction es with
    | nil => intro s _ hs j hj; exact hs j hj
    | cons e es ih =>
      intro s hes hs j hj
      rw [List.foldl_cons] at hj
      refine ih _ (fun e' he' => hes e' (List.mem_cons_of_mem _ he')) (fun j hj => ?_) j hj
      by_cases hb : Region.binds .any e = true
      · rw [if_pos hb, Nat.testBit_or, Nat.testBit_or] at hj
        simp only [Bool.or_eq_true] at hj
        rcases hj with (hj | hj) | hj
        · exact hs j hj
        · rw [Nat.testBit_two_pow] at hj
          have : e.on = j := by simpa using hj
          subst this
          exact .one ho (hes e (List.mem_cons_self ..)) hb
        · exact .more ho (hes e (List.mem_cons_self ..)) hb (hacc _ _ hj)
      · rw [if_neg hb] at hj; exact hs j hj
  have outer : ∀ (l : List Oper) (acc : Array Nat), (∀ k, k < acc.size + l.length → ops[k]? ≠ none) → (∀ k o, l[k]? = some o → ops[acc.size + k]? = some o) → (∀ k j, ((acc.getD k 0).testBit j = true → Waits ops k j)) →
      ∀ k j, (((l.foldl (fun acc o => acc.push (o.after.foldl (fun s e => if Region.binds .any e then s ||| 2 ^ e.on ||| acc.getD e.on 0 else s) 0)) acc).getD k 0).testBit j = true → Waits ops k j) := by
    intro l
    induction l with
    | nil => intro acc _ _ hacc; exact hacc
    | cons o l ih =>
      intro acc hsz hl hacc
      rw [List.foldl_cons]
      refine ih _ (fun k hk => hsz k (by simp at hk ⊢; omega)) (fun k o' hk => ?_) (fun k j hj => ?_)
      · have := hl (k + 1) o' (by simpa using hk)
        simp only [Array.size_push]
        rw [show acc.size + 1 + k = acc.size + (k + 1) by omega]; exact this
      · rw [Array.getD_eq_getD_getElem?, Array.getElem?_push] at hj
        split at hj
        · rename_i hk
          have ho := hl 0 o rfl
          rw [Nat.add_zero] at ho
          rw [hk]
          rw [← Array.foldl_toList] at hj
          exact inner acc acc.size o ho hacc o.after.toList 0 (fun e he => by simpa using he) (fun j hj => by simp at hj) j hj
        · exact hacc k j (by rw [Array.getD_eq_getD_getElem?]; exact hj)
  intro i j h
  unfold Region.before at h
  rw [← Array.foldl_toList] at h
  exact outer ops.toList #[] (fun k hk => by simp at hk; simp [hk]) (fun k o hk => by simpa using hk) (fun k j hj => by simp at hj) i j h
/-- the model's order -/
def Lin (ops : Array Oper) : (Nat → Prop) → List Nat → Prop
  | D, [] => ∀ i o, ops[i]? = some o → ¬ D i → ∃ e ∈ o.after, Region.binds .any e = true ∧ ¬ D e.on
  | D, i :: r => i < ops.size ∧ ¬ D i ∧ (∀ o, ops[i]? = some o → ∀ e ∈ o.after, Region.binds .any e = true → D e.on) ∧ Lin ops (fun j => D j ∨ j = i) r
theorem Lin.congr : ∀ {π : List Nat} {D D' : Nat → Prop}, (∀ i, D i ↔ D' i) → Lin ops D π → Lin ops D' π
  | [], D, D', h, hl => fun i o ho hn => let ⟨e, h1, h2, h3⟩ := hl i o ho (fun hd => hn ((h i).1 hd)); ⟨e, h1, h2, fun hd => h3 ((h _).2 hd)⟩
  | i :: π, D, D', h, ⟨h1, h2, h3, h4⟩ => ⟨h1, fun hd => h2 ((h i).2 hd), fun o ho e he hb => (h _).1 (h3 o ho e he hb), Lin.congr (fun j => by rw [h j]) h4⟩
theorem lin_of_go : ∀ (fuel t : Nat) (listed : Array Bool), listed.size = ops.size → (listed.toList.count false ≤ fuel) → Lin ops (fun i => listed.getD i false = true) (Region.linearise.go .any ops fuel t listed []) := by
  have noneReady : ∀ listed : Array Bool, listed.size = ops.size → Region.ready .any ops listed = [] → ∀ i o, ops[i]? = some o → ¬ (listed.getD i false = true) → ∃ e ∈ o.after, Region.binds .any e = true ∧ ¬ (listed.getD e.on false = true) := by
    intro listed hs hr i o ho hn
    apply Classical.byContradiction
    intro hcon
    have hi : i < ops.size := (Array.getElem?_eq_some_iff.1 ho).1
    have : i ∈ Region.ready .any ops listed := by
      unfold Region.ready
      rw [List.mem_filter]
      refine ⟨List.mem_range.2 hi, ?_⟩
      have hl : i < listed.size := by omega
      have h1 : listed.getD i true = false := by
        rw [Array.getD_eq_getD_getElem?, Array.getElem?_eq_getElem hl]
        rw [Array.getD_eq_getD_getElem?, Array.getElem?_eq_getElem hl] at hn
        simpa using hn
      have h2 : o.after.all (fun e => !Region.binds .any e || listed.getD e.on false) = true := by
        rw [Array.all_eq_true']
        intro e he
        cases hb : Region.binds .any e with
        | false => rfl
        | true =>
          cases hl : listed.getD e.on false with
          | true => rfl
          | false => exact absurd ⟨e, he, hb, by rw [hl]; simp⟩ hcon
      rw [h1, ho, Option.map_some, Option.getD_some, h2]; rfl
    rw [hr] at this
    cases this
  intro fuel
  induction fuel with
  | zero =>
    intro t listed hs hc
    have hall : ∀ i, i < ops.size → listed.getD i false = true := by
      intro i hi
      have hl : i < listed.size := by omega
      have : false ∉ listed.toList := List.count_eq_zero.1 (by omega)
      rw [Array.getD_eq_getD_getElem?, Array.getElem?_eq_getElem hl]
      cases hv : listed[i] with
      | true => rfl
      | false => exact absurd (by rw [← hv]; exact Array.getElem_mem_toList hl) this
    intro i o ho hn
    exact absurd (hall i (Array.getElem?_eq_some_iff.1 ho).1) hn
  | succ fuel ih =>
    intro t listed hs hc
    simp only [Region.linearise.go]
    change Lin ops _ (match (Region.ready .any ops listed)[t % (Region.ready .any ops listed).length]? with
      | some i => Region.linearise.go .any ops fuel (t / (Region.ready .any ops listed).length) (listed.setIfInBounds i true) [i]
      | none => [].reverse)
    cases hi : (Region.ready .any ops listed)[t % (Region.ready .any ops listed).length]? with
    | none =>
      have hnil : Region.ready .any ops listed = [] := by
        cases hr : Region.ready .any ops listed with
        | nil => rfl
        | cons x xs =>
          rw [hr] at hi
          have hlt : t % (x :: xs).length < (x :: xs).length := Nat.mod_lt _ (by simp)
          simp at hi
          simp at hlt
          omega
      exact noneReady listed hs hnil
    | some i =>
      have hm := List.mem_of_getElem? hi
      unfold Region.ready at hm
      rw [List.mem_filter] at hm
      obtain ⟨h1, h2⟩ := hm
      have h1 := List.mem_range.1 h1
      simp only [Bool.and_eq_true, Bool.not_eq_true'] at h2
      obtain ⟨h2, h3⟩ := h2
      have hl : i < listed.size := by omega
      have hfalse : listed[i] = false := by
        rw [Array.getD_eq_getD_getElem?, Array.getElem?_eq_getElem hl] at h2
        simpa using h2
      show Lin ops _ (Region.linearise.go .any ops fuel (t / (Region.ready .any ops listed).length) (listed.setIfInBounds i true) [i])
      rw [linearise_go_acc, List.reverse_singleton, List.singleton_append]
      refine ⟨h1, ?_, ?_, ?_⟩
      · show ¬ (listed.getD i false = true)
        rw [Array.getD_eq_getD_getElem?, Array.getElem?_eq_getElem hl, hfalse]; simp
      · intro o ho e he hb
        rw [ho] at h3
        simp only [Option.map_some, Option.getD_some] at h3
        have := Array.all_eq_true'.1 h3 e he
        rw [hb] at this
        simpa using this
      · refine Lin.congr (fun j => ?_) (ih (t / (Region.ready .any ops listed).length) (listed.setIfInBounds i true) (by simpa using hs) ?_)
        · show (listed.setIfInBounds i true).getD j false = true ↔ (listed.getD j false = true ∨ j = i)
          rw [Array.getD_eq_getD_getElem?, Array.getD_eq_getD_getElem?]
          by_cases hj : i = j
          · subst hj
            rw [Array.getElem?_setIfInBounds_self_of_lt hl]; simp
          · rw [Array.getElem?_setIfInBounds_ne hj]
            constructor
            · exact .inl
            · rintro (h | h)
              · exact h
              · exact absurd h.symm hj
        · rw [Array.toList_setIfInBounds]
          have hlt : i < listed.toList.length := by simpa using hl
          rw [List.count_set hlt]
          have : listed.toList[i] = false := by simpa using hfalse
          have hpos : 0 < listed.toList.count false := List.count_pos_iff.2 (by rw [← this]; exact List.getElem_mem hlt)
          rw [this]
          simp only [BEq.rfl, if_true]
          rw [if_neg (by decide)]
          omega
theorem lin_schedule (hm : P.follows .mixedOrders = true) (t : Nat) : Lin ops (fun _ => False) (Region.schedule (P.follows .mixedOrders) ops t) := by
  simp only [Region.schedule, hm, Bool.true_or, if_true, Region.linearise]
  refine Lin.congr (fun i => ?_) (lin_of_go ops.size t (Array.replicate ops.size false) (by simp) (by simp))
  rw [Array.getD_eq_getD_getElem?, Array.getElem?_replicate]
  split <;> simp
end
end Go.AM
