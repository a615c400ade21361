/-
  AM, 36: a byte handed in, as it stands in its lane. Conditions: none.
-/
import Derived.Test.YtmhhaimpignndaaGreatAmZb
import Derived.Test.YtmhhaimpignndaaGreatAmZe
import Derived.Test.YtmhhaimpignndaaGreatAmLm
namespace Go.AM
open Go Go.RowKit Go.WideShapes

/-- what is handed in: a byte, and others -/
def XB (c : Nat) (u : List Value) : Nat → Value := fun n => if n = 65535 then .int .u8 (c : Int) else u.getD n (.bool false)
theorem XB_one {c : Nat} {u : List Value} (h : ∀ v ∈ u, v.oneCell' = true) : ∀ n, (XB c u n).oneCell' = true := by
  intro n
  unfold XB
  split
  · rfl
  · rw [List.getD_eq_getElem?_getD]
    cases hn : u[n]? with
    | none => rfl
    | some v => exact h v (List.mem_of_getElem? hn)
theorem lane_XB {c : Nat} {u : List Value} (hX : ∀ n, (XB c u n).oneCell' = true) (hc : c < 256) : (θ0 (XB c u) hX).lane = c := by
  have h : XB c u 65535 = .int .u8 (c : Int) := if_pos rfl
  show (xnat (XB c u 65535)).toNat % 256 = c
  rw [h]
  exact Nat.mod_eq_of_lt hc
theorem lane_toV {c L : Nat} {u : List Value} (hX : ∀ n, (XB c u n).oneCell' = true) (hc : c < 256) (h : ln c L = c) : toV (θ0 (XB c u) hX) (.l 4 L) = .int .u8 (c : Int) := by
  show lV 4 (ln _ L) = _
  rw [lane_XB hX hc, h]
  rfl
theorem lane_ok {θ : Th} {L : Nat} (h : ∀ j, j < 256 → ln j L < 256) : Ok θ (.l 4 L) := .inl ⟨by decide, h⟩
theorem ln_LI256 : ∀ j, j < 256 → ln j LI < 256 := fun j hj => by rw [ln_LI j hj]; exact hj
theorem val_i64 {P : Program} {w : World} {r : Reach} {b : Nat} {t : TypeId} {v : Value} {k : IntKind} (ht : P.underlying t = some (.int k)) (h : Value.okWide P w r b t v) : ∃ n, v = .int k n := okWide_int ht h
end Go.AM
