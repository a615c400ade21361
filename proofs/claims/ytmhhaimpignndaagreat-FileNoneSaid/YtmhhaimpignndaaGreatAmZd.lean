/-
  AM, 34: a row's arguments as the machine has them. Conditions: none.
-/
import Derived.Test.YtmhhaimpignndaaGreatAmZc
namespace Go.AM
open Go Go.RowKit Go.WideShapes

section
variable {P : Program} {w : World} {r : Reach} {b : Nat} {t : TypeId} {v : Value}
theorem cell_one (h : Cell.okWide P w r b t v) : v.oneCell' = true := by
  cases v <;> first
    | rfl
    | (unfold Cell.okWide Cell.ok at h; revert h; repeat' split) <;> simp_all
theorem val_slice {e : TypeId} (ht : P.underlying t = some (.slice e)) (h : Value.okWide P w r b t v) : v.oneCell' = true := by
  obtain ⟨a, n, c, rfl⟩ := okWide_slice ht h; rfl
theorem val_string (ht : P.underlying t = some .string) (h : Value.okWide P w r b t v) : v.oneCell' = true := by
  obtain ⟨s, rfl⟩ := okWide_string ht h; rfl
theorem val_str (ht : P.underlying t = some .string) (h : Value.okWide P w r b t v) : ∃ s, v = .string s := okWide_string ht h
theorem val_int {k : IntKind} (ht : P.underlying t = some (.int k)) (h : Value.okWide P w r b t v) : v.oneCell' = true := by
  obtain ⟨n, rfl⟩ := okWide_int ht h; rfl
theorem val_bool (ht : P.underlying t = some .bool) (h : Value.okWide P w r b t v) : v.oneCell' = true := by
  obtain ⟨n, rfl⟩ := okWide_bool ht h; rfl
theorem val_struct {fs : Array Field} {n : Nat} (ht : P.underlying t = some (.struct fs)) (hn : P.cellsOf t = n) (h : Value.okWide P w r b t v) : ∃ cs : Array Value, v = .agg cs ∧ cs.size = n ∧ ∀ (i : Nat) (u : Value), cs[i]? = some u → u.oneCell' = true := by
  unfold Value.okWide at h
  rw [ht] at h
  obtain ⟨cs, h1, h2, ts, _, _, h3⟩ := h
  exact ⟨cs, h1, h2.trans hn, fun i u hu => let ⟨_, _, h4⟩ := h3 i u hu; cell_one h4⟩
/-- a number of few bits -/
theorem val_small {k : IntKind} {m : Nat} (ht : P.underlying t = some (.int k)) (hm : ∀ n, k.has n → ∃ w : Nat, n = w ∧ w < m) (h : Value.okWide P w r b t v) : ∃ n : Nat, v = .int k n ∧ n < m := by
  unfold Value.okWide at h
  rw [ht] at h
  replace h : Cell.okWide P w r b t v := h
  unfold Cell.okWide Cell.ok at h
  rw [ht] at h
  cases v <;> first | exact (show False from h).elim | skip
  rename_i k' n
  obtain ⟨rfl, h2⟩ : k' = k ∧ k.has n := h
  obtain ⟨w', rfl, hw⟩ := hm n h2
  exact ⟨w', rfl, hw⟩
theorem has_u8 (n : Int) (h : IntKind.u8.has n) : ∃ w : Nat, n = w ∧ w < 256 := by
  obtain ⟨h1, h2⟩ : IntKind.u8.min ≤ n ∧ n ≤ IntKind.u8.max := by simpa [IntKind.has] using h
  have h1 : 0 ≤ n := by simpa [IntKind.min, IntKind.signed] using h1
  have h2 : n ≤ 255 := by simpa [IntKind.max, IntKind.signed, IntKind.bits] using h2
  exact ⟨n.toNat, by omega, by omega⟩
theorem has_u16 (n : Int) (h : IntKind.u16.has n) : ∃ w : Nat, n = w ∧ w < 65536 := by
  obtain ⟨h1, h2⟩ : IntKind.u16.min ≤ n ∧ n ≤ IntKind.u16.max := by simpa [IntKind.has] using h
  have h1 : 0 ≤ n := by simpa [IntKind.min, IntKind.signed] using h1
  have h2 : n ≤ 65535 := by simpa [IntKind.max, IntKind.signed, IntKind.bits] using h2
  exact ⟨n.toNat, by omega, by omega⟩
end
/-! ### Texts -/
theorem bytes_of_beq {s r : ByteArray} (h : (s == r) = true) : s = r := by
  have h : (s.data == r.data) = true := h
  obtain ⟨d⟩ := s
  obtain ⟨e⟩ := r
  have h : d = e := eq_of_beq h
  rw [h]
theorem bytes_ne_symm {s r : ByteArray} (h : (s == r) = false) : (r == s) = false := by
  cases e : (r == s) with
  | false => rfl
  | true =>
    have := bytes_of_beq e
    subst this
    have hr : (r == r) = true := by
      have e : (r == r) = (r.data == r.data) := rfl
      rw [e]
      simp
    rw [hr] at h; cases h
/-- the values handed in, by their places -/
def XL (l : List Value) (n : Nat) : Value := (l[n]?).getD (.bool false)
theorem XL_one {l : List Value} (h : ∀ u ∈ l, u.oneCell' = true) (n : Nat) : (XL l n).oneCell' = true := by
  unfold XL
  cases hn : l[n]? with
  | none => rfl
  | some u => exact h u (List.mem_of_getElem? hn)
/-- all below n -/
noncomputable def allLt (n : Nat) (p : Nat → Bool) : Bool := @Nat.rec (fun _ => Bool) true (fun k ih => @Bool.rec (fun _ => Bool) false ih (p k)) n
theorem allLt_true {p : Nat → Bool} : ∀ {n : Nat}, allLt n p = true → ∀ k, k < n → p k = true
  | 0, _, k, hk => by omega
  | n + 1, h, k, hk => by
    have h : @Bool.rec (fun _ => Bool) false (allLt n p) (p n) = true := h
    cases hp : p n with
    | false => rw [hp] at h; cases h
    | true =>
      rw [hp] at h
      by_cases e : k = n
      · subst e; exact hp
      · exact allLt_true h k (by omega)
end Go.AM
