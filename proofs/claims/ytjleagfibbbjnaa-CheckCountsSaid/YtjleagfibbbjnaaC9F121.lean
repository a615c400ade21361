/-
  The law CheckCounts: one count that is turned up or down is one fault, at its sector, of its kind. Conditions: none.
-/
import Derived.Test.YtjleagfibbbjnaaRows
import Derived.WalkKit
import Derived.ProofKit
import Derived.OpenShut
import Derived.JoinedCond
import Derived.Test.YtjleagfibbbjnaaC6
namespace Go.Proofs.Ytjleagfibbbjnaa.checkCounts
open Go.ChangeShapes Go.WideShapes Go.ChangeAt Go.RowKit Go.Den Go.Mat

theorem own : ownKnob Try.prog.godebug = none := by kernel_rfl
theorem laid : laidOutB Try.prog = true := by kernel_rfl
set_option maxRecDepth 100000 in
theorem lifted (os : Os) (started : os.Started) (H : Type) (enc : TypeId × Value → H) :
    ReturnsInHanded {} Try.checked os 7 .any (Rows.checkCountsSpec.pre6 enc Try.prog Try.f7 Rows.checkCountsRow.domain false) (Rows.checkCountsSpec.post enc Try.prog Try.f7 false true false false) := by
  refine returnsInHanded_of_change (C := Try.checked) own started (by kernel_rfl) Try.func7
    (ChangeSpec.witness6 (enc := enc) (C := Try.checked) false ⟨#[], #[.int .u8 0, .int .i8 0, .int .u8 0], []⟩ 8 (by kernel_rfl) (by kernel_rfl) (by kernel_rfl) (by kernel_rfl)) ?_
  intro W base args ds gs before hval hW _ _
  exact law_calls (P := PR) (tb := 4) (by kernel_rfl) counts_ok (by kernel_rfl) (by kernel_rfl) laid (by kernel_rfl) rfl (fun ds h => by
    have h1 : ds.length = 3 := h
    obtain ⟨d0, ds0, rfl⟩ : ∃ d r, ds = d :: r := by cases ds with | nil => simp at h1 | cons d r => exact ⟨d, r, rfl⟩
    obtain ⟨d1, ds1, rfl⟩ : ∃ d r, ds0 = d :: r := by cases ds0 with | nil => simp at h1 | cons d r => exact ⟨d, r, rfl⟩
    obtain ⟨d2, ds2, rfl⟩ : ∃ d r, ds1 = d :: r := by cases ds1 with | nil => simp at h1 | cons d r => exact ⟨d, r, rfl⟩
    have h2 : ds2 = [] := by cases ds2 with | nil => rfl | cons d r => simp at h1
    subst h2
    rfl) hval hW
theorem over : Rows.checkCountsRow.holds Try.pinned (OpenSpec.ofChange Rows.checkCountsSpec) :=
  OpenClaim.holds_of_wide 7 Try.f7 rfl rfl rfl rfl rfl rfl rfl ⟨rfl, rfl, rfl, rfl, rfl⟩ rfl rfl rfl rfl rfl (by kernel_rfl) Try.func7 (by kernel_rfl)
    (of_decide_eq_true (by kernel_rfl)) (by unfold Func.isWrapper; first | (rw [if_pos (by decide +kernel)]; kernel_rfl) | (rw [if_neg (by decide +kernel)]; exact ⟨rfl, rfl⟩))
    (fun os started H enc _ => lifted os started H enc)
end Go.Proofs.Ytjleagfibbbjnaa.checkCounts
namespace Go.Proofs.Ytjleagfibbbjnaa
theorem checkCounts_holds : Rows.CheckCountsSaid := checkCounts.over
end Go.Proofs.Ytjleagfibbbjnaa
