/-
  The law ChainChecks: whether images may stand upon one another so is the same by the program and by the document. Conditions: none.
-/
import Derived.Test.YtllgedaeidbenaaGreatRows
import Derived.WalkKit
import Derived.ProofKit
import Derived.OpenShut
import Derived.JoinedCond
import Derived.Test.YtllgedaeidbenaaGreatC6
namespace Go.Proofs.YtllgedaeidbenaaGreat.chainChecks
open Go.ChangeShapes Go.WideShapes Go.ChangeAt Go.RowKit Go.Den Go.Mat

theorem own : ownKnob Tryz.prog.godebug = none := by kernel_rfl
theorem laid : laidOutB Tryz.prog = true := by kernel_rfl
theorem rt : Tryz.f9.resultTypes = #[4] := by kernel_rfl
theorem bt0 : Tryz.prog.underlying 4 = some .bool := by kernel_rfl
theorem ck : Go.Den.argsCk Tryz.prog Tryz.f9.params.toList = true := by kernel_rfl
theorem nv : Rows.chainChecksSpec.vars = [] := by kernel_rfl
theorem hf0 : Tryz.prog.funcs[(9 : Nat)]? = some Tryz.f9 := by kernel_rfl
set_option maxRecDepth 100000
theorem lifted (os : Os) (started : os.Started) (H : Type) (enc : TypeId × Value → H) :
    ReturnsInHanded {} Tryz.checked os 9 .any (Rows.chainChecksSpec.pre6 enc Tryz.prog Tryz.f9 Rows.chainChecksRow.domain false) (Rows.chainChecksSpec.post enc Tryz.prog Tryz.f9 false true false false) := by
  refine returnsInHanded_of_change (C := Tryz.checked) own started (by kernel_rfl) Tryz.func9
    (ChangeSpec.witness6 (enc := enc) (C := Tryz.checked) false ⟨#[], #[.slice none 0 0, .string ⟨#[]⟩], []⟩ 8 (by kernel_rfl) (by kernel_rfl) (by kernel_rfl) (by kernel_rfl)) ?_
  intro W base args ds gs before hval hW _ _
  exact law_calls (P := PR) (tb := 4) hf0 lck_ok rt bt0 laid ck nv (fun ds h => by
    have h1 : ds.length = 2 := h
    obtain ⟨d0, ds0, rfl⟩ : ∃ d r, ds = d :: r := by cases ds with | nil => simp at h1 | cons d r => exact ⟨d, r, rfl⟩
    obtain ⟨d1, ds1, rfl⟩ : ∃ d r, ds0 = d :: r := by cases ds0 with | nil => simp at h1 | cons d r => exact ⟨d, r, rfl⟩
    have h2 : ds1 = [] := by cases ds1 with | nil => rfl | cons d r => simp at h1
    subst h2
    rfl) hval hW
theorem k1 : (Rows.chainChecksRow.wf (OpenSpec.ofChange Rows.chainChecksSpec)) = true := by kernel_rfl
theorem k2 : (laidOutB Tryz.prog) = true := by kernel_rfl
theorem k3 : (mapsRowed Tryz.prog) = true := by kernel_rfl
theorem k4 : (Tryz.f9.params.all (Tryz.prog.readableRec ·)) = true := by kernel_rfl
theorem k5 : (namedTie Tryz.prog Rows.chainChecksRow.named Rows.chainChecksSpec.vars) = true := by kernel_rfl
theorem k6 : ((Rows.chainChecksRow.stops == [])) = true := by kernel_rfl
theorem k7 : ((Tryz.prog.stops == [])) = true := by kernel_rfl
theorem k8 : ((Rows.chainChecksRow.knobs == [])) = true := by kernel_rfl
theorem k9 : ((Tryz.prog.stopKnobs == [])) = true := by kernel_rfl
theorem k10 : ((Rows.chainChecksRow.inPlace == Tryz.prog.inPlace 9)) = true := by kernel_rfl
theorem k11 : ((Rows.chainChecksRow.unfollowed == Tryz.prog.unfollowed 9)) = true := by kernel_rfl
theorem k12 : ((Rows.chainChecksRow.recurses == Tryz.prog.recurses 9)) = true := by kernel_rfl
theorem k13 : ((Rows.chainChecksRow.named == Tryz.prog.varsNamed 9)) = true := by kernel_rfl
theorem k14 : ((Rows.chainChecksRow.maps == (Tryz.f9.params.toList ++ Rows.chainChecksSpec.plain.varTypes Tryz.prog).any (Tryz.prog.mapsRec ·))) = true := by kernel_rfl
theorem k15 : ((Rows.chainChecksRow.ifaces == (Tryz.f9.params.toList ++ Rows.chainChecksSpec.plain.varTypes Tryz.prog).any (Tryz.prog.ifacesRec ·))) = true := by kernel_rfl
theorem k16 : ((Rows.chainChecksRow.mapsOut == Tryz.prog.mapsAmong Tryz.f9.resultTypes.toList)) = true := by kernel_rfl
theorem k17 : ((Rows.chainChecksRow.loops == (Tryz.f9.params.toList ++ Rows.chainChecksSpec.plain.varTypes Tryz.prog).any (Tryz.prog.loopsFrom ·))) = true := by kernel_rfl
theorem k18 : ((Rows.chainChecksRow.wideKeys == (Tryz.f9.params.toList ++ Rows.chainChecksSpec.plain.varTypes Tryz.prog ++ Tryz.f9.resultTypes.toList).any (Tryz.prog.wideKeysFrom ·))) = true := by kernel_rfl
theorem k19 : (Rows.chainChecksSpec.vars.all (Tryz.prog.varReadable ·)) = true := by kernel_rfl
theorem k20 : (Tryz.f9.resultTypes.all (fun t => Tryz.prog.readableRec t && decide (t < Tryz.prog.types.size))) = true := by kernel_rfl
theorem k21 : ((Rows.chainChecksRow.ifacesOut == Tryz.f9.resultTypes.toList.any (Tryz.prog.ifacesRec ·))) = true := by kernel_rfl
theorem k22 : ((Rows.chainChecksRow.loopsOut == Tryz.f9.resultTypes.toList.any (Tryz.prog.loopsFrom ·))) = true := by kernel_rfl
theorem k23 : ((Rows.chainChecksRow.plainKeys == Tryz.prog.plainKeys)) = true := by kernel_rfl
theorem k24 : (Rows.chainChecksRow.shortTexts.isNone) = true := by kernel_rfl
theorem k25 : (Tryz.prog.stopsHeard) = true := by kernel_rfl
theorem k26 : (Tryz.prog.mayEnter) = true := by kernel_rfl
theorem k27 : ((Rows.chainChecksRow.lifted == Tryz.prog.liftsFinal)) = true := by kernel_rfl
theorem k28 : ((Tryz.prog.make == some Rows.chainChecksRow.make)) = true := by kernel_rfl
theorem k29 : ((Rows.chainChecksRow.kinds == (if Rows.chainChecksRow.domain.isEmpty then [] else Tryz.f9.params.toList.map fun t => match Tryz.prog.underlying t with | some (.int k) => some k | _ => none))) = true := by kernel_rfl
theorem k30 : ((Rows.chainChecksRow.pinned == Rows.chainChecksRow.pinnedBy)) = true := by kernel_rfl
theorem k31 : ((Rows.chainChecksRow.veiled == (Tryz.f9.params.toList ++ Rows.chainChecksSpec.plain.varTypes Tryz.prog ++ Tryz.f9.resultTypes.toList).any (Tryz.prog.veiledRec ·))) = true := by kernel_rfl
theorem k32 : (Rows.chainChecksRow.veiledFits Tryz.prog Tryz.f9.params.toList (Tryz.f9.params.toList ++ Rows.chainChecksSpec.plain.varTypes Tryz.prog ++ Tryz.f9.resultTypes.toList)) = true := by kernel_rfl
theorem over : Rows.chainChecksRow.holds Tryz.pinned (OpenSpec.ofChange Rows.chainChecksSpec) :=
  OpenClaim.holds_of_wide 9 Tryz.f9 rfl rfl rfl rfl rfl rfl rfl ⟨rfl, rfl, rfl, rfl, rfl⟩ rfl rfl rfl rfl rfl (by kernel_rfl) Tryz.func9 (AM.joined_of (P := Tryz.prog) k1 k2 k3 k4 k5 k6 k7 k8 k9 k10 k11 k12 k13 k14 k15 k16 k17 k18 k19 k20 k21 k22 k23 k24 k25 k26 k27 k28 k29 k30 k31 k32)
    (of_decide_eq_true (by kernel_rfl)) (by unfold Func.isWrapper; first | (rw [if_pos (by decide +kernel)]; kernel_rfl) | (rw [if_neg (by decide +kernel)]; exact ⟨rfl, rfl⟩))
    (fun os started H enc _ => lifted os started H enc)
end Go.Proofs.YtllgedaeidbenaaGreat.chainChecks
namespace Go.Proofs.YtllgedaeidbenaaGreat
theorem chainChecks_holds : Rows.ChainChecksSaid := chainChecks.over
end Go.Proofs.YtllgedaeidbenaaGreat
