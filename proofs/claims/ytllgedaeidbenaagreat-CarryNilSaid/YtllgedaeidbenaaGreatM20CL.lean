/-
  The law CarryNil: of no images nothing is taken out; into none nothing is brought. Conditions: none.
-/
import Derived.Test.YtllgedaeidbenaaGreatRows
import Derived.WalkKit
import Derived.ProofKit
import Derived.OpenShut
import Derived.JoinedCond
import Derived.Test.YtllgedaeidbenaaGreatAmZe
import Derived.Test.YtllgedaeidbenaaGreatM20CO
import Derived.Test.YtllgedaeidbenaaGreatM20CR
namespace Go.Proofs.YtllgedaeidbenaaGreat.carryNil
open Go.ChangeShapes Go.WideShapes Go.ChangeAt Go.RowKit

theorem own : ownKnob Tryz.prog.godebug = none := by kernel_rfl
theorem laid : laidOutB Tryz.prog = true := by kernel_rfl
theorem mo : Tryz.prog.follows .mixedOrders = true := by kernel_rfl
theorem p0 : Tryz.f11.params[0]? = some 29 := by kernel_rfl
theorem u0 : Tryz.prog.underlying 29 = some (.slice 5) := by kernel_rfl
theorem arr1 {args : Array Value} (h : args.size = 1) : ∃ y0, args = #[y0] := by
  obtain ⟨l⟩ := args
  match l, h with
  | [y0], _ => exact ⟨y0, rfl⟩
theorem run (W : World) (v0 : Value) (h0 : v0.oneCell' = true) :
    Calls Tryz.prog 11 #[v0] W fun r w' => r = .returned (.bool true) ∧ w'.os = W.os ∧ w'.tape = W.tape ∧ w'.output = W.output ∧ W.heap.size ≤ w'.heap.size ∧ ∀ b, b < W.heap.size → w'.heap[b]? = W.heap[b]? := by
  have := AM.go_true (P := Tryz.prog) AM.nctb mo (vs := [.x 0]) (X := AM.XL [v0]) (AM.XL_one (by intro u hu; simp only [List.mem_cons, List.not_mem_nil, or_false] at hu; subst hu <;> first | rfl | assumption)) ⟨trivial, trivial⟩ AM.ncrun W
  exact this
theorem spec (H : Type) (ds : List (DataW H)) (h : ds.length = Tryz.f11.params.size) : Rows.carryNilSpec.fn H ds = { results := [.lit (.bool true)], args := ds } := by
  have h1 : ds.length = 1 := h
  obtain ⟨d0, ds0, rfl⟩ : ∃ d r, ds = d :: r := by cases ds with | nil => simp at h1 | cons d r => exact ⟨d, r, rfl⟩
  have h2 : ds0 = [] := by cases ds0 with | nil => rfl | cons d r => simp at h1
  subst h2
  rfl
theorem rt : Tryz.f11.resultTypes = #[4] := by kernel_rfl
theorem bt : Tryz.prog.underlying 4 = some .bool := by kernel_rfl
theorem ck : AM.argsCk Tryz.prog Tryz.f11.params.toList = true := by kernel_rfl
theorem nv : Rows.carryNilSpec.vars = [] := by kernel_rfl
set_option maxRecDepth 100000
theorem lifted (os : Os) (started : os.Started) (H : Type) (enc : TypeId × Value → H) :
    ReturnsInHanded {} Tryz.checked os 11 .any (Rows.carryNilSpec.pre6 enc Tryz.prog Tryz.f11 Rows.carryNilRow.domain false) (Rows.carryNilSpec.post enc Tryz.prog Tryz.f11 false true false false) := by
  refine returnsInHanded_of_change (C := Tryz.checked) own started (by kernel_rfl) Tryz.func11
    (ChangeSpec.witness6 (enc := enc) (C := Tryz.checked) false ⟨#[], #[.slice none 0 0], []⟩ 8 (by kernel_rfl) (by kernel_rfl) (by kernel_rfl) (by kernel_rfl)) ?_
  intro W base args ds gs before hval hW _ _
  refine AM.law_calls (P := Tryz.prog) (f := 11) (fn := Tryz.f11) (s := Rows.carryNilSpec) (tb := 4) rt bt laid ck nv (spec H) (fun hs => ?_) hW
  clear hW
  obtain ⟨v0, rfl⟩ := arr1 (show args.size = 1 from hs)
  exact run W v0 (AM.val_slice u0 (hval 0 29 _ p0 rfl))
theorem k1 : (Rows.carryNilRow.wf (OpenSpec.ofChange Rows.carryNilSpec)) = true := by kernel_rfl
theorem k2 : (laidOutB Tryz.prog) = true := by kernel_rfl
theorem k3 : (mapsRowed Tryz.prog) = true := by kernel_rfl
theorem k4 : (Tryz.f11.params.all (Tryz.prog.readableRec ·)) = true := by kernel_rfl
theorem k5 : (namedTie Tryz.prog Rows.carryNilRow.named Rows.carryNilSpec.vars) = true := by kernel_rfl
theorem k6 : ((Rows.carryNilRow.stops == [])) = true := by kernel_rfl
theorem k7 : ((Tryz.prog.stops == [])) = true := by kernel_rfl
theorem k8 : ((Rows.carryNilRow.knobs == [])) = true := by kernel_rfl
theorem k9 : ((Tryz.prog.stopKnobs == [])) = true := by kernel_rfl
theorem k10 : ((Rows.carryNilRow.inPlace == Tryz.prog.inPlace 11)) = true := by kernel_rfl
theorem k11 : ((Rows.carryNilRow.unfollowed == Tryz.prog.unfollowed 11)) = true := by kernel_rfl
theorem k12 : ((Rows.carryNilRow.recurses == Tryz.prog.recurses 11)) = true := by kernel_rfl
theorem k13 : ((Rows.carryNilRow.named == Tryz.prog.varsNamed 11)) = true := by kernel_rfl
theorem k14 : ((Rows.carryNilRow.maps == (Tryz.f11.params.toList ++ Rows.carryNilSpec.plain.varTypes Tryz.prog).any (Tryz.prog.mapsRec ·))) = true := by kernel_rfl
theorem k15 : ((Rows.carryNilRow.ifaces == (Tryz.f11.params.toList ++ Rows.carryNilSpec.plain.varTypes Tryz.prog).any (Tryz.prog.ifacesRec ·))) = true := by kernel_rfl
theorem k16 : ((Rows.carryNilRow.mapsOut == Tryz.prog.mapsAmong Tryz.f11.resultTypes.toList)) = true := by kernel_rfl
theorem k17 : ((Rows.carryNilRow.loops == (Tryz.f11.params.toList ++ Rows.carryNilSpec.plain.varTypes Tryz.prog).any (Tryz.prog.loopsFrom ·))) = true := by kernel_rfl
theorem k18 : ((Rows.carryNilRow.wideKeys == (Tryz.f11.params.toList ++ Rows.carryNilSpec.plain.varTypes Tryz.prog ++ Tryz.f11.resultTypes.toList).any (Tryz.prog.wideKeysFrom ·))) = true := by kernel_rfl
theorem k19 : (Rows.carryNilSpec.vars.all (Tryz.prog.varReadable ·)) = true := by kernel_rfl
theorem k20 : (Tryz.f11.resultTypes.all (fun t => Tryz.prog.readableRec t && decide (t < Tryz.prog.types.size))) = true := by kernel_rfl
theorem k21 : ((Rows.carryNilRow.ifacesOut == Tryz.f11.resultTypes.toList.any (Tryz.prog.ifacesRec ·))) = true := by kernel_rfl
theorem k22 : ((Rows.carryNilRow.loopsOut == Tryz.f11.resultTypes.toList.any (Tryz.prog.loopsFrom ·))) = true := by kernel_rfl
theorem k23 : ((Rows.carryNilRow.plainKeys == Tryz.prog.plainKeys)) = true := by kernel_rfl
theorem k24 : (Rows.carryNilRow.shortTexts.isNone) = true := by kernel_rfl
theorem k25 : (Tryz.prog.stopsHeard) = true := by kernel_rfl
theorem k26 : (Tryz.prog.mayEnter) = true := by kernel_rfl
theorem k27 : ((Rows.carryNilRow.lifted == Tryz.prog.liftsFinal)) = true := by kernel_rfl
theorem k28 : ((Tryz.prog.make == some Rows.carryNilRow.make)) = true := by kernel_rfl
theorem k29 : ((Rows.carryNilRow.kinds == (if Rows.carryNilRow.domain.isEmpty then [] else Tryz.f11.params.toList.map fun t => match Tryz.prog.underlying t with | some (.int k) => some k | _ => none))) = true := by kernel_rfl
theorem k30 : ((Rows.carryNilRow.pinned == Rows.carryNilRow.pinnedBy)) = true := by kernel_rfl
theorem k31 : ((Rows.carryNilRow.veiled == (Tryz.f11.params.toList ++ Rows.carryNilSpec.plain.varTypes Tryz.prog ++ Tryz.f11.resultTypes.toList).any (Tryz.prog.veiledRec ·))) = true := by kernel_rfl
theorem k32 : (Rows.carryNilRow.veiledFits Tryz.prog Tryz.f11.params.toList (Tryz.f11.params.toList ++ Rows.carryNilSpec.plain.varTypes Tryz.prog ++ Tryz.f11.resultTypes.toList)) = true := by kernel_rfl
theorem over : Rows.carryNilRow.holds Tryz.pinned (OpenSpec.ofChange Rows.carryNilSpec) :=
  OpenClaim.holds_of_wide 11 Tryz.f11 rfl rfl rfl rfl rfl rfl rfl ⟨rfl, rfl, rfl, rfl, rfl⟩ rfl rfl rfl rfl rfl (by kernel_rfl) Tryz.func11 (AM.joined_of (P := Tryz.prog) k1 k2 k3 k4 k5 k6 k7 k8 k9 k10 k11 k12 k13 k14 k15 k16 k17 k18 k19 k20 k21 k22 k23 k24 k25 k26 k27 k28 k29 k30 k31 k32)
    (of_decide_eq_true (by kernel_rfl)) (by unfold Func.isWrapper; first | (rw [if_pos (by decide +kernel)]; kernel_rfl) | (rw [if_neg (by decide +kernel)]; exact ⟨rfl, rfl⟩))
    (fun os started H enc _ => lifted os started H enc)
end Go.Proofs.YtllgedaeidbenaaGreat.carryNil
namespace Go.Proofs.YtllgedaeidbenaaGreat
theorem carryNil_holds : Rows.CarryNilSaid := carryNil.over
end Go.Proofs.YtllgedaeidbenaaGreat
