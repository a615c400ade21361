/-
  The law CarryApplies: a stream is brought in by the program as by the document. Conditions: none.
-/
import Derived.Test.YtllgedaeidbenaaGreatRows
import Derived.WalkKit
import Derived.ProofKit
import Derived.OpenShut
import Derived.JoinedCond
import Derived.Test.YtllgedaeidbenaaGreatC6
namespace Go.Proofs.YtllgedaeidbenaaGreat.carryApplies
open Go.ChangeShapes Go.WideShapes Go.ChangeAt Go.RowKit Go.Den Go.Mat

theorem own : ownKnob Tryz.prog.godebug = none := by kernel_rfl
theorem laid : laidOutB Tryz.prog = true := by kernel_rfl
theorem rt : Tryz.f10.resultTypes = #[4] := by kernel_rfl
theorem bt0 : Tryz.prog.underlying 4 = some .bool := by kernel_rfl
theorem ck : Go.Den.argsCk Tryz.prog Tryz.f10.params.toList = true := by kernel_rfl
theorem nv : Rows.carryAppliesSpec.vars = [] := by kernel_rfl
theorem hf0 : Tryz.prog.funcs[(10 : Nat)]? = some Tryz.f10 := by kernel_rfl
set_option maxRecDepth 100000
theorem lifted (os : Os) (started : os.Started) (H : Type) (enc : TypeId × Value → H) :
    ReturnsInHanded {} Tryz.checked os 10 .any (Rows.carryAppliesSpec.pre6 enc Tryz.prog Tryz.f10 Rows.carryAppliesRow.domain false) (Rows.carryAppliesSpec.post enc Tryz.prog Tryz.f10 false true false false) := by
  refine returnsInHanded_of_change (C := Tryz.checked) own started (by kernel_rfl) Tryz.func10
    (ChangeSpec.witness6 (enc := enc) (C := Tryz.checked) false ⟨#[], #[.slice none 0 0, .agg #[.bool false, .int .i64 0, .slice none 0 0]], []⟩ 8 (by kernel_rfl) (by kernel_rfl) (by kernel_rfl) (by kernel_rfl)) ?_
  intro W base args ds gs before hval hW _ _
  exact law_calls (P := PR) (tb := 4) hf0 lawc_ok rt bt0 laid ck nv (fun ds h => by
    have h1 : ds.length = 2 := h
    obtain ⟨d0, ds0, rfl⟩ : ∃ d r, ds = d :: r := by cases ds with | nil => simp at h1 | cons d r => exact ⟨d, r, rfl⟩
    obtain ⟨d1, ds1, rfl⟩ : ∃ d r, ds0 = d :: r := by cases ds0 with | nil => simp at h1 | cons d r => exact ⟨d, r, rfl⟩
    have h2 : ds1 = [] := by cases ds1 with | nil => rfl | cons d r => simp at h1
    subst h2
    rfl) hval hW
theorem k1 : (Rows.carryAppliesRow.wf (OpenSpec.ofChange Rows.carryAppliesSpec)) = true := by kernel_rfl
theorem k2 : (laidOutB Tryz.prog) = true := by kernel_rfl
theorem k3 : (mapsRowed Tryz.prog) = true := by kernel_rfl
theorem k4 : (Tryz.f10.params.all (Tryz.prog.readableRec ·)) = true := by kernel_rfl
theorem k5 : (namedTie Tryz.prog Rows.carryAppliesRow.named Rows.carryAppliesSpec.vars) = true := by kernel_rfl
theorem k6 : ((Rows.carryAppliesRow.stops == [])) = true := by kernel_rfl
theorem k7 : ((Tryz.prog.stops == [])) = true := by kernel_rfl
theorem k8 : ((Rows.carryAppliesRow.knobs == [])) = true := by kernel_rfl
theorem k9 : ((Tryz.prog.stopKnobs == [])) = true := by kernel_rfl
theorem k10 : ((Rows.carryAppliesRow.inPlace == Tryz.prog.inPlace 10)) = true := by kernel_rfl
theorem k11 : ((Rows.carryAppliesRow.unfollowed == Tryz.prog.unfollowed 10)) = true := by kernel_rfl
theorem k12 : ((Rows.carryAppliesRow.recurses == Tryz.prog.recurses 10)) = true := by kernel_rfl
theorem k13 : ((Rows.carryAppliesRow.named == Tryz.prog.varsNamed 10)) = true := by kernel_rfl
theorem k14 : ((Rows.carryAppliesRow.maps == (Tryz.f10.params.toList ++ Rows.carryAppliesSpec.plain.varTypes Tryz.prog).any (Tryz.prog.mapsRec ·))) = true := by kernel_rfl
theorem k15 : ((Rows.carryAppliesRow.ifaces == (Tryz.f10.params.toList ++ Rows.carryAppliesSpec.plain.varTypes Tryz.prog).any (Tryz.prog.ifacesRec ·))) = true := by kernel_rfl
theorem k16 : ((Rows.carryAppliesRow.mapsOut == Tryz.prog.mapsAmong Tryz.f10.resultTypes.toList)) = true := by kernel_rfl
theorem k17 : ((Rows.carryAppliesRow.loops == (Tryz.f10.params.toList ++ Rows.carryAppliesSpec.plain.varTypes Tryz.prog).any (Tryz.prog.loopsFrom ·))) = true := by kernel_rfl
theorem k18 : ((Rows.carryAppliesRow.wideKeys == (Tryz.f10.params.toList ++ Rows.carryAppliesSpec.plain.varTypes Tryz.prog ++ Tryz.f10.resultTypes.toList).any (Tryz.prog.wideKeysFrom ·))) = true := by kernel_rfl
theorem k19 : (Rows.carryAppliesSpec.vars.all (Tryz.prog.varReadable ·)) = true := by kernel_rfl
theorem k20 : (Tryz.f10.resultTypes.all (fun t => Tryz.prog.readableRec t && decide (t < Tryz.prog.types.size))) = true := by kernel_rfl
theorem k21 : ((Rows.carryAppliesRow.ifacesOut == Tryz.f10.resultTypes.toList.any (Tryz.prog.ifacesRec ·))) = true := by kernel_rfl
theorem k22 : ((Rows.carryAppliesRow.loopsOut == Tryz.f10.resultTypes.toList.any (Tryz.prog.loopsFrom ·))) = true := by kernel_rfl
theorem k23 : ((Rows.carryAppliesRow.plainKeys == Tryz.prog.plainKeys)) = true := by kernel_rfl
theorem k24 : (Rows.carryAppliesRow.shortTexts.isNone) = true := by kernel_rfl
theorem k25 : (Tryz.prog.stopsHeard) = true := by kernel_rfl
theorem k26 : (Tryz.prog.mayEnter) = true := by kernel_rfl
theorem k27 : ((Rows.carryAppliesRow.lifted == Tryz.prog.liftsFinal)) = true := by kernel_rfl
theorem k28 : ((Tryz.prog.make == some Rows.carryAppliesRow.make)) = true := by kernel_rfl
theorem k29 : ((Rows.carryAppliesRow.kinds == (if Rows.carryAppliesRow.domain.isEmpty then [] else Tryz.f10.params.toList.map fun t => match Tryz.prog.underlying t with | some (.int k) => some k | _ => none))) = true := by kernel_rfl
theorem k30 : ((Rows.carryAppliesRow.pinned == Rows.carryAppliesRow.pinnedBy)) = true := by kernel_rfl
theorem k31 : ((Rows.carryAppliesRow.veiled == (Tryz.f10.params.toList ++ Rows.carryAppliesSpec.plain.varTypes Tryz.prog ++ Tryz.f10.resultTypes.toList).any (Tryz.prog.veiledRec ·))) = true := by kernel_rfl
theorem k32 : (Rows.carryAppliesRow.veiledFits Tryz.prog Tryz.f10.params.toList (Tryz.f10.params.toList ++ Rows.carryAppliesSpec.plain.varTypes Tryz.prog ++ Tryz.f10.resultTypes.toList)) = true := by kernel_rfl
theorem over : Rows.carryAppliesRow.holds Tryz.pinned (OpenSpec.ofChange Rows.carryAppliesSpec) :=
  OpenClaim.holds_of_wide 10 Tryz.f10 rfl rfl rfl rfl rfl rfl rfl ⟨rfl, rfl, rfl, rfl, rfl⟩ rfl rfl rfl rfl rfl (by kernel_rfl) Tryz.func10 (AM.joined_of (P := Tryz.prog) k1 k2 k3 k4 k5 k6 k7 k8 k9 k10 k11 k12 k13 k14 k15 k16 k17 k18 k19 k20 k21 k22 k23 k24 k25 k26 k27 k28 k29 k30 k31 k32)
    (of_decide_eq_true (by kernel_rfl)) (by unfold Func.isWrapper; first | (rw [if_pos (by decide +kernel)]; kernel_rfl) | (rw [if_neg (by decide +kernel)]; exact ⟨rfl, rfl⟩))
    (fun os started H enc _ => lifted os started H enc)
end Go.Proofs.YtllgedaeidbenaaGreat.carryApplies
namespace Go.Proofs.YtllgedaeidbenaaGreat
theorem carryApplies_holds : Rows.CarryAppliesSaid := carryApplies.over
end Go.Proofs.YtllgedaeidbenaaGreat
