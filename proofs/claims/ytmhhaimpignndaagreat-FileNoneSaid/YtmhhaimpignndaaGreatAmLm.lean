/-
  AM, 1b: bytes in lanes. Conditions: none.
-/
import Derived.Test.YtmhhaimpignndaaGreatAmLn
namespace Go.AM
open Go

/-- .. where no lane is a multiple of 128 -/
def LP : Nat := Nat.add LI (Nat.add 1 (Nat.pow 2 16384))
theorem ln_LP : ∀ j, j < 256 → ln j LP < 256 ∧ (j % 128 ≠ 0 → ln j LP = j) := by decide +kernel
/-- .. where each is one -/
def LQ : Nat := Nat.land LI (Nat.mul LO 128)
theorem ln_LQ : ∀ j, j < 256 → ln j LQ < 256 ∧ (j % 128 = 0 → ln j LQ = j) := by decide +kernel
/-- .. from 1 to 127 -/
def LA : Nat := Nat.add (Nat.land LI (Nat.mul LO 127)) (Nat.add 1 (Nat.pow 2 16384))
theorem ln_LA : ∀ j, j < 256 → ln j LA < 256 ∧ (0 < j → j < 128 → ln j LA = j) := by decide +kernel
/-- .. from 128 on -/
def LB : Nat := Nat.lor LI (Nat.mul LO 128)
theorem ln_LB : ∀ j, j < 256 → ln j LB < 256 ∧ (128 ≤ j → ln j LB = j) := by decide +kernel
end Go.AM
