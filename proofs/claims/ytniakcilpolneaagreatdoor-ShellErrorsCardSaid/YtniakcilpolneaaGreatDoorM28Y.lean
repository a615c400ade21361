/-
  awake is true. Conditions: none.
-/
import Derived.Test.YtniakcilpolneaaGreatDoorM28O
import Derived.Test.YtniakcilpolneaaGreatDoorM28R0
import Derived.Test.YtniakcilpolneaaGreatDoorAmSe
namespace Go.AM
open Go Go.Proofs
theorem shmo : Tryz.prog.follows .mixedOrders = true := by kernel_rfl
theorem shsp5 : FOk Tryz.prog (5, .sp spTrue) := by
  have h : (trF Tryz.prog 5).isSome = true := by kernel_rfl
  obtain ⟨u, hu⟩ := Option.isSome_iff_exists.1 h
  refine fOk_sp (by decide) hu (spTrue_ok fun w hg => ?_)
  exact go_true (P := Tryz.prog) shtb shmo (vs := []) (X := fun _ => .bool false) (fun _ => rfl) trivial shawake w hg
end Go.AM
