/-
  The law MetaPuts: for every meta the bytes that the program lays are the document's, or both refuse it alike. Conditions: none.
-/
import Derived.Test.YtmgncojckndckaaRows
import Derived.WalkKit
import Derived.ProofKit
import Derived.OpenShut
import Derived.JoinedCond
import Derived.Test.YtmgncojckndckaaC4
namespace Go.Proofs.Ytmgncojckndckaa.metaPuts
open Go.ChangeShapes Go.WideShapes Go.ChangeAt Go.RowKit Go.Den Go.Mat

theorem own : ownKnob Try.prog.godebug = none := by kernel_rfl
theorem laid : laidOutB Try.prog = true := by kernel_rfl
set_option maxRecDepth 100000 in
theorem lifted (os : Os) (started : os.Started) (H : Type) (enc : TypeId × Value → H) :
    ReturnsInHanded {} Try.checked os 3 .any (Rows.metaPutsSpec.pre6 enc Try.prog Try.f3 Rows.metaPutsRow.domain false) (Rows.metaPutsSpec.post enc Try.prog Try.f3 false true false false) := by
  refine returnsInHanded_of_change (C := Try.checked) own started (by kernel_rfl) Try.func3
    (ChangeSpec.witness6 (enc := enc) (C := Try.checked) false ⟨#[], #[.agg #[.int .i64 0, .int .i64 0, .string ⟨#[]⟩, .slice none 0 0, .slice none 0 0, .slice none 0 0, .slice none 0 0]], []⟩ 8 (by kernel_rfl) (by kernel_rfl) (by kernel_rfl) (by kernel_rfl)) ?_
  intro W base args ds gs before hval hW _ _
  exact law_calls (P := PR) (tb := 4) (by kernel_rfl) puts_ok (by kernel_rfl) (by kernel_rfl) laid (by kernel_rfl) rfl (fun ds h => by
    have h1 : ds.length = 1 := h
    obtain ⟨d, rfl⟩ := List.length_eq_one_iff.1 h1
    rfl) hval hW
theorem over : Rows.metaPutsRow.holds Try.pinned (OpenSpec.ofChange Rows.metaPutsSpec) :=
  OpenClaim.holds_of_wide 3 Try.f3 rfl rfl rfl rfl rfl rfl rfl ⟨rfl, rfl, rfl, rfl, rfl⟩ rfl rfl rfl rfl rfl (by kernel_rfl) Try.func3 (by kernel_rfl)
    (of_decide_eq_true (by kernel_rfl)) (by unfold Func.isWrapper; first | (rw [if_pos (by decide +kernel)]; kernel_rfl) | (rw [if_neg (by decide +kernel)]; exact ⟨rfl, rfl⟩))
    (fun os started H enc _ => lifted os started H enc)
end Go.Proofs.Ytmgncojckndckaa.metaPuts
namespace Go.Proofs.Ytmgncojckndckaa
theorem metaPuts_holds : Rows.MetaPutsSaid := metaPuts.over
end Go.Proofs.Ytmgncojckndckaa
#print axioms Go.Proofs.Ytmgncojckndckaa.metaPuts_holds
