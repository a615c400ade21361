/-
  The law CheckMends: the program mends as the document does, and neither writes into the meta. Conditions: none.
-/
import Derived.Test.YtjleagfibbbjnaaGreatRows
import Derived.WalkKit
import Derived.ProofKit
import Derived.OpenShut
import Derived.JoinedCond
import Derived.Test.YtjleagfibbbjnaaGreatC6
namespace Go.Proofs.YtjleagfibbbjnaaGreat.checkMends
open Go.ChangeShapes Go.WideShapes Go.ChangeAt Go.RowKit Go.Den Go.Mat

theorem own : ownKnob Tryz.prog.godebug = none := by kernel_rfl
theorem laid : laidOutB Tryz.prog = true := by kernel_rfl
set_option maxRecDepth 100000 in
theorem lifted (os : Os) (started : os.Started) (H : Type) (enc : TypeId × Value → H) :
    ReturnsInHanded {} Tryz.checked os 3 .any (Rows.checkMendsSpec.pre6 enc Tryz.prog Tryz.f3 Rows.checkMendsRow.domain false) (Rows.checkMendsSpec.post enc Tryz.prog Tryz.f3 false true false false) := by
  refine returnsInHanded_of_change (C := Tryz.checked) own started (by kernel_rfl) Tryz.func3
    (ChangeSpec.witness6 (enc := enc) (C := Tryz.checked) false ⟨#[], #[.agg #[.int .i64 0, .int .i64 0, .string ⟨#[]⟩, .slice none 0 0, .slice none 0 0, .slice none 0 0, .slice none 0 0], .slice none 0 0], []⟩ 8 (by kernel_rfl) (by kernel_rfl) (by kernel_rfl) (by kernel_rfl)) ?_
  intro W base args ds gs before hval hW _ _
  exact law_calls (P := PR) (tb := 4) (by kernel_rfl) mm_ok (by kernel_rfl) (by kernel_rfl) laid (by kernel_rfl) rfl (fun ds h => by
    have h1 : ds.length = 2 := h
    obtain ⟨d0, ds0, rfl⟩ : ∃ d r, ds = d :: r := by cases ds with | nil => simp at h1 | cons d r => exact ⟨d, r, rfl⟩
    obtain ⟨d1, ds1, rfl⟩ : ∃ d r, ds0 = d :: r := by cases ds0 with | nil => simp at h1 | cons d r => exact ⟨d, r, rfl⟩
    have h2 : ds1 = [] := by cases ds1 with | nil => rfl | cons d r => simp at h1
    subst h2
    rfl) hval hW
theorem over : Rows.checkMendsRow.holds Tryz.pinned (OpenSpec.ofChange Rows.checkMendsSpec) :=
  OpenClaim.holds_of_wide 3 Tryz.f3 rfl rfl rfl rfl rfl rfl rfl ⟨rfl, rfl, rfl, rfl, rfl⟩ rfl rfl rfl rfl rfl (by kernel_rfl) Tryz.func3 (by kernel_rfl)
    (of_decide_eq_true (by kernel_rfl)) (by unfold Func.isWrapper; first | (rw [if_pos (by decide +kernel)]; kernel_rfl) | (rw [if_neg (by decide +kernel)]; exact ⟨rfl, rfl⟩))
    (fun os started H enc _ => lifted os started H enc)
end Go.Proofs.YtjleagfibbbjnaaGreat.checkMends
namespace Go.Proofs.YtjleagfibbbjnaaGreat
theorem checkMends_holds : Rows.CheckMendsSaid := checkMends.over
end Go.Proofs.YtjleagfibbbjnaaGreat
