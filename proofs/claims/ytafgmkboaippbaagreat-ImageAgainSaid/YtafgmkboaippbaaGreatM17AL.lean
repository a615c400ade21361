/-
  The law ImageAgain: Put again and again, an image's file does not grow without end: what no state has is written anew. Conditions: none.
-/
import Derived.Test.YtafgmkboaippbaaGreatRows
import Derived.WalkKit
import Derived.ProofKit
import Derived.OpenShut
import Derived.JoinedCond
import Derived.Test.YtafgmkboaippbaaGreatAmZe
import Derived.Test.YtafgmkboaippbaaGreatM17AA
namespace Go.Proofs.YtafgmkboaippbaaGreat.imageAgain
open Go.ChangeShapes Go.WideShapes Go.ChangeAt Go.RowKit

theorem own : ownKnob Tryz.prog.godebug = none := by kernel_rfl
theorem laid : laidOutB Tryz.prog = true := by kernel_rfl
theorem mo : Tryz.prog.follows .mixedOrders = true := by kernel_rfl
theorem p0 : Tryz.f3.params[0]? = some 5 := by kernel_rfl
theorem u0 : Tryz.prog.underlying 5 = some (.int .u8) := by kernel_rfl
theorem p1 : Tryz.f3.params[1]? = some 4 := by kernel_rfl
theorem u1 : Tryz.prog.underlying 4 = some .bool := by kernel_rfl
theorem arr2 {args : Array Value} (h : args.size = 2) : ∃ y0 y1, args = #[y0, y1] := by
  obtain ⟨l⟩ := args
  match l, h with
  | [y0, y1], _ => exact ⟨y0, y1, rfl⟩
theorem spec (H : Type) (ds : List (DataW H)) (h : ds.length = Tryz.f3.params.size) : Rows.imageAgainSpec.fn H ds = { results := [.lit (.bool true)], args := ds } := by
  have h1 : ds.length = 2 := h
  obtain ⟨d0, ds0, rfl⟩ : ∃ d r, ds = d :: r := by cases ds with | nil => simp at h1 | cons d r => exact ⟨d, r, rfl⟩
  obtain ⟨d1, ds1, rfl⟩ : ∃ d r, ds0 = d :: r := by cases ds0 with | nil => simp at h1 | cons d r => exact ⟨d, r, rfl⟩
  have h2 : ds1 = [] := by cases ds1 with | nil => rfl | cons d r => simp at h1
  subst h2
  rfl
theorem rt : Tryz.f3.resultTypes = #[4] := by kernel_rfl
theorem bt : Tryz.prog.underlying 4 = some .bool := by kernel_rfl
theorem ck : AM.argsCk Tryz.prog Tryz.f3.params.toList = true := by kernel_rfl
theorem nv : Rows.imageAgainSpec.vars = [] := by kernel_rfl
set_option maxRecDepth 100000
theorem lifted (os : Os) (started : os.Started) (H : Type) (enc : TypeId × Value → H) :
    ReturnsInHanded {} Tryz.checked os 3 .any (Rows.imageAgainSpec.pre6 enc Tryz.prog Tryz.f3 Rows.imageAgainRow.domain false) (Rows.imageAgainSpec.post enc Tryz.prog Tryz.f3 false true false false) := by
  refine returnsInHanded_of_change (C := Tryz.checked) own started (by kernel_rfl) Tryz.func3
    (ChangeSpec.witness6 (enc := enc) (C := Tryz.checked) false ⟨#[], #[.int .u8 0, .bool false], []⟩ 8 (by kernel_rfl) (by kernel_rfl) (by kernel_rfl) (by kernel_rfl)) ?_
  intro W base args ds gs before hval hW _ _
  refine AM.law_calls (P := Tryz.prog) (f := 3) (fn := Tryz.f3) (s := Rows.imageAgainSpec) (tb := 4) rt bt laid ck nv (spec H) (fun hs => ?_) hW
  clear hW
  obtain ⟨v0, v1, rfl⟩ := arr2 (show args.size = 2 from hs)
  obtain ⟨w0, rfl, hw0⟩ := AM.val_small u0 AM.has_u8 (hval 0 5 _ p0 rfl)
  obtain ⟨b, rfl⟩ := okWide_bool u1 (hval 1 4 _ p1 rfl)
  exact AM.ag_run W w0 hw0 b
theorem k1 : (Rows.imageAgainRow.wf (OpenSpec.ofChange Rows.imageAgainSpec)) = true := by kernel_rfl
theorem k2 : (laidOutB Tryz.prog) = true := by kernel_rfl
theorem k3 : (mapsRowed Tryz.prog) = true := by kernel_rfl
theorem k4 : (Tryz.f3.params.all (Tryz.prog.readableRec ·)) = true := by kernel_rfl
theorem k5 : (namedTie Tryz.prog Rows.imageAgainRow.named Rows.imageAgainSpec.vars) = true := by kernel_rfl
theorem k6 : ((Rows.imageAgainRow.stops == [])) = true := by kernel_rfl
theorem k7 : ((Tryz.prog.stops == [])) = true := by kernel_rfl
theorem k8 : ((Rows.imageAgainRow.knobs == [])) = true := by kernel_rfl
theorem k9 : ((Tryz.prog.stopKnobs == [])) = true := by kernel_rfl
theorem k10 : ((Rows.imageAgainRow.inPlace == Tryz.prog.inPlace 3)) = true := by kernel_rfl
theorem k11 : ((Rows.imageAgainRow.unfollowed == Tryz.prog.unfollowed 3)) = true := by kernel_rfl
theorem k12 : ((Rows.imageAgainRow.recurses == Tryz.prog.recurses 3)) = true := by kernel_rfl
theorem k13 : ((Rows.imageAgainRow.named == Tryz.prog.varsNamed 3)) = true := by kernel_rfl
theorem k14 : ((Rows.imageAgainRow.maps == (Tryz.f3.params.toList ++ Rows.imageAgainSpec.plain.varTypes Tryz.prog).any (Tryz.prog.mapsRec ·))) = true := by kernel_rfl
theorem k15 : ((Rows.imageAgainRow.ifaces == (Tryz.f3.params.toList ++ Rows.imageAgainSpec.plain.varTypes Tryz.prog).any (Tryz.prog.ifacesRec ·))) = true := by kernel_rfl
theorem k16 : ((Rows.imageAgainRow.mapsOut == Tryz.prog.mapsAmong Tryz.f3.resultTypes.toList)) = true := by kernel_rfl
theorem k17 : ((Rows.imageAgainRow.loops == (Tryz.f3.params.toList ++ Rows.imageAgainSpec.plain.varTypes Tryz.prog).any (Tryz.prog.loopsFrom ·))) = true := by kernel_rfl
theorem k18 : ((Rows.imageAgainRow.wideKeys == (Tryz.f3.params.toList ++ Rows.imageAgainSpec.plain.varTypes Tryz.prog ++ Tryz.f3.resultTypes.toList).any (Tryz.prog.wideKeysFrom ·))) = true := by kernel_rfl
theorem k19 : (Rows.imageAgainSpec.vars.all (Tryz.prog.varReadable ·)) = true := by kernel_rfl
theorem k20 : (Tryz.f3.resultTypes.all (fun t => Tryz.prog.readableRec t && decide (t < Tryz.prog.types.size))) = true := by kernel_rfl
theorem k21 : ((Rows.imageAgainRow.ifacesOut == Tryz.f3.resultTypes.toList.any (Tryz.prog.ifacesRec ·))) = true := by kernel_rfl
theorem k22 : ((Rows.imageAgainRow.loopsOut == Tryz.f3.resultTypes.toList.any (Tryz.prog.loopsFrom ·))) = true := by kernel_rfl
theorem k23 : ((Rows.imageAgainRow.plainKeys == Tryz.prog.plainKeys)) = true := by kernel_rfl
theorem k24 : (Rows.imageAgainRow.shortTexts.isNone) = true := by kernel_rfl
theorem k25 : (Tryz.prog.stopsHeard) = true := by kernel_rfl
theorem k26 : (Tryz.prog.mayEnter) = true := by kernel_rfl
theorem k27 : ((Rows.imageAgainRow.lifted == Tryz.prog.liftsFinal)) = true := by kernel_rfl
theorem k28 : ((Tryz.prog.make == some Rows.imageAgainRow.make)) = true := by kernel_rfl
theorem k29 : ((Rows.imageAgainRow.kinds == (if Rows.imageAgainRow.domain.isEmpty then [] else Tryz.f3.params.toList.map fun t => match Tryz.prog.underlying t with | some (.int k) => some k | _ => none))) = true := by kernel_rfl
theorem k30 : ((Rows.imageAgainRow.pinned == Rows.imageAgainRow.pinnedBy)) = true := by kernel_rfl
theorem k31 : ((Rows.imageAgainRow.veiled == (Tryz.f3.params.toList ++ Rows.imageAgainSpec.plain.varTypes Tryz.prog ++ Tryz.f3.resultTypes.toList).any (Tryz.prog.veiledRec ·))) = true := by kernel_rfl
theorem k32 : (Rows.imageAgainRow.veiledFits Tryz.prog Tryz.f3.params.toList (Tryz.f3.params.toList ++ Rows.imageAgainSpec.plain.varTypes Tryz.prog ++ Tryz.f3.resultTypes.toList)) = true := by kernel_rfl
theorem over : Rows.imageAgainRow.holds Tryz.pinned (OpenSpec.ofChange Rows.imageAgainSpec) :=
  OpenClaim.holds_of_wide 3 Tryz.f3 rfl rfl rfl rfl rfl rfl rfl ⟨rfl, rfl, rfl, rfl, rfl⟩ rfl rfl rfl rfl rfl (by kernel_rfl) Tryz.func3 (AM.joined_of (P := Tryz.prog) k1 k2 k3 k4 k5 k6 k7 k8 k9 k10 k11 k12 k13 k14 k15 k16 k17 k18 k19 k20 k21 k22 k23 k24 k25 k26 k27 k28 k29 k30 k31 k32)
    (of_decide_eq_true (by kernel_rfl)) (by unfold Func.isWrapper; first | (rw [if_pos (by decide +kernel)]; kernel_rfl) | (rw [if_neg (by decide +kernel)]; exact ⟨rfl, rfl⟩))
    (fun os started H enc _ => lifted os started H enc)
end Go.Proofs.YtafgmkboaippbaaGreat.imageAgain
namespace Go.Proofs.YtafgmkboaippbaaGreat
theorem imageAgain_holds : Rows.ImageAgainSaid := imageAgain.over
end Go.Proofs.YtafgmkboaippbaaGreat
