/-
  The law ChainEmpty: of no images nothing is read or written. Conditions: none.
-/
import Derived.Test.YtlmglicbgdkmoaaGreatRows
import Derived.WalkKit
import Derived.ProofKit
import Derived.OpenShut
import Derived.JoinedCond
import Derived.Test.YtlmglicbgdkmoaaGreatAmZe
import Derived.Test.YtlmglicbgdkmoaaGreatM18EO
import Derived.Test.YtlmglicbgdkmoaaGreatM18ER
namespace Go.Proofs.YtlmglicbgdkmoaaGreat.chainEmpty
open Go.ChangeShapes Go.WideShapes Go.ChangeAt Go.RowKit

theorem own : ownKnob Tryz.prog.godebug = none := by kernel_rfl
theorem laid : laidOutB Tryz.prog = true := by kernel_rfl
theorem mo : Tryz.prog.follows .mixedOrders = true := by kernel_rfl
theorem p0 : Tryz.f4.params[0]? = some 3 := by kernel_rfl
theorem u0 : Tryz.prog.underlying 3 = some (.int .i64) := by kernel_rfl
theorem p1 : Tryz.f4.params[1]? = some 3 := by kernel_rfl
theorem u1 : Tryz.prog.underlying 3 = some (.int .i64) := by kernel_rfl
theorem p2 : Tryz.f4.params[2]? = some 22 := by kernel_rfl
theorem u2 : Tryz.prog.underlying 22 = some (.slice 5) := by kernel_rfl
theorem arr3 {args : Array Value} (h : args.size = 3) : ∃ y0 y1 y2, args = #[y0, y1, y2] := by
  obtain ⟨l⟩ := args
  match l, h with
  | [y0, y1, y2], _ => exact ⟨y0, y1, y2, rfl⟩
theorem run (W : World) (v0 : Value) (v1 : Value) (v2 : Value) (h0 : v0.oneCell' = true) (h1 : v1.oneCell' = true) (h2 : v2.oneCell' = true) :
    Calls Tryz.prog 4 #[v0, v1, v2] W fun r w' => r = .returned (.bool true) ∧ w'.os = W.os ∧ w'.tape = W.tape ∧ w'.output = W.output ∧ W.heap.size ≤ w'.heap.size ∧ ∀ b, b < W.heap.size → w'.heap[b]? = W.heap[b]? := by
  have := AM.go_true (P := Tryz.prog) AM.mbtb mo (vs := [.x 0, .x 1, .x 2]) (X := AM.XL [v0, v1, v2]) (AM.XL_one (by intro u hu; simp only [List.mem_cons, List.not_mem_nil, or_false] at hu; rcases hu with rfl | rfl | rfl <;> first | rfl | assumption)) ⟨trivial, trivial, trivial, trivial⟩ AM.mbrun W
  exact this
theorem spec (H : Type) (ds : List (DataW H)) (h : ds.length = Tryz.f4.params.size) : Rows.chainEmptySpec.fn H ds = { results := [.lit (.bool true)], args := ds } := by
  have h1 : ds.length = 3 := h
  obtain ⟨d0, ds0, rfl⟩ : ∃ d r, ds = d :: r := by cases ds with | nil => simp at h1 | cons d r => exact ⟨d, r, rfl⟩
  obtain ⟨d1, ds1, rfl⟩ : ∃ d r, ds0 = d :: r := by cases ds0 with | nil => simp at h1 | cons d r => exact ⟨d, r, rfl⟩
  obtain ⟨d2, ds2, rfl⟩ : ∃ d r, ds1 = d :: r := by cases ds1 with | nil => simp at h1 | cons d r => exact ⟨d, r, rfl⟩
  have h2 : ds2 = [] := by cases ds2 with | nil => rfl | cons d r => simp at h1
  subst h2
  rfl
theorem rt : Tryz.f4.resultTypes = #[4] := by kernel_rfl
theorem bt : Tryz.prog.underlying 4 = some .bool := by kernel_rfl
theorem ck : AM.argsCk Tryz.prog Tryz.f4.params.toList = true := by kernel_rfl
theorem nv : Rows.chainEmptySpec.vars = [] := by kernel_rfl
set_option maxRecDepth 100000
theorem lifted (os : Os) (started : os.Started) (H : Type) (enc : TypeId × Value → H) :
    ReturnsInHanded {} Tryz.checked os 4 .any (Rows.chainEmptySpec.pre6 enc Tryz.prog Tryz.f4 Rows.chainEmptyRow.domain false) (Rows.chainEmptySpec.post enc Tryz.prog Tryz.f4 false true false false) := by
  refine returnsInHanded_of_change (C := Tryz.checked) own started (by kernel_rfl) Tryz.func4
    (ChangeSpec.witness6 (enc := enc) (C := Tryz.checked) false ⟨#[], #[.int .i64 0, .int .i64 0, .slice none 0 0], []⟩ 8 (by kernel_rfl) (by kernel_rfl) (by kernel_rfl) (by kernel_rfl)) ?_
  intro W base args ds gs before hval hW _ _
  refine AM.law_calls (P := Tryz.prog) (f := 4) (fn := Tryz.f4) (s := Rows.chainEmptySpec) (tb := 4) rt bt laid ck nv (spec H) (fun hs => ?_) hW
  clear hW
  obtain ⟨v0, v1, v2, rfl⟩ := arr3 (show args.size = 3 from hs)
  exact run W v0 v1 v2 (AM.val_int u0 (hval 0 3 _ p0 rfl)) (AM.val_int u1 (hval 1 3 _ p1 rfl)) (AM.val_slice u2 (hval 2 22 _ p2 rfl))
theorem k1 : (Rows.chainEmptyRow.wf (OpenSpec.ofChange Rows.chainEmptySpec)) = true := by kernel_rfl
theorem k2 : (laidOutB Tryz.prog) = true := by kernel_rfl
theorem k3 : (mapsRowed Tryz.prog) = true := by kernel_rfl
theorem k4 : (Tryz.f4.params.all (Tryz.prog.readableRec ·)) = true := by kernel_rfl
theorem k5 : (namedTie Tryz.prog Rows.chainEmptyRow.named Rows.chainEmptySpec.vars) = true := by kernel_rfl
theorem k6 : ((Rows.chainEmptyRow.stops == [])) = true := by kernel_rfl
theorem k7 : ((Tryz.prog.stops == [])) = true := by kernel_rfl
theorem k8 : ((Rows.chainEmptyRow.knobs == [])) = true := by kernel_rfl
theorem k9 : ((Tryz.prog.stopKnobs == [])) = true := by kernel_rfl
theorem k10 : ((Rows.chainEmptyRow.inPlace == Tryz.prog.inPlace 4)) = true := by kernel_rfl
theorem k11 : ((Rows.chainEmptyRow.unfollowed == Tryz.prog.unfollowed 4)) = true := by kernel_rfl
theorem k12 : ((Rows.chainEmptyRow.recurses == Tryz.prog.recurses 4)) = true := by kernel_rfl
theorem k13 : ((Rows.chainEmptyRow.named == Tryz.prog.varsNamed 4)) = true := by kernel_rfl
theorem k14 : ((Rows.chainEmptyRow.maps == (Tryz.f4.params.toList ++ Rows.chainEmptySpec.plain.varTypes Tryz.prog).any (Tryz.prog.mapsRec ·))) = true := by kernel_rfl
theorem k15 : ((Rows.chainEmptyRow.ifaces == (Tryz.f4.params.toList ++ Rows.chainEmptySpec.plain.varTypes Tryz.prog).any (Tryz.prog.ifacesRec ·))) = true := by kernel_rfl
theorem k16 : ((Rows.chainEmptyRow.mapsOut == Tryz.prog.mapsAmong Tryz.f4.resultTypes.toList)) = true := by kernel_rfl
theorem k17 : ((Rows.chainEmptyRow.loops == (Tryz.f4.params.toList ++ Rows.chainEmptySpec.plain.varTypes Tryz.prog).any (Tryz.prog.loopsFrom ·))) = true := by kernel_rfl
theorem k18 : ((Rows.chainEmptyRow.wideKeys == (Tryz.f4.params.toList ++ Rows.chainEmptySpec.plain.varTypes Tryz.prog ++ Tryz.f4.resultTypes.toList).any (Tryz.prog.wideKeysFrom ·))) = true := by kernel_rfl
theorem k19 : (Rows.chainEmptySpec.vars.all (Tryz.prog.varReadable ·)) = true := by kernel_rfl
theorem k20 : (Tryz.f4.resultTypes.all (fun t => Tryz.prog.readableRec t && decide (t < Tryz.prog.types.size))) = true := by kernel_rfl
theorem k21 : ((Rows.chainEmptyRow.ifacesOut == Tryz.f4.resultTypes.toList.any (Tryz.prog.ifacesRec ·))) = true := by kernel_rfl
theorem k22 : ((Rows.chainEmptyRow.loopsOut == Tryz.f4.resultTypes.toList.any (Tryz.prog.loopsFrom ·))) = true := by kernel_rfl
theorem k23 : ((Rows.chainEmptyRow.plainKeys == Tryz.prog.plainKeys)) = true := by kernel_rfl
theorem k24 : (Rows.chainEmptyRow.shortTexts.isNone) = true := by kernel_rfl
theorem k25 : (Tryz.prog.stopsHeard) = true := by kernel_rfl
theorem k26 : (Tryz.prog.mayEnter) = true := by kernel_rfl
theorem k27 : ((Rows.chainEmptyRow.lifted == Tryz.prog.liftsFinal)) = true := by kernel_rfl
theorem k28 : ((Tryz.prog.make == some Rows.chainEmptyRow.make)) = true := by kernel_rfl
theorem k29 : ((Rows.chainEmptyRow.kinds == (if Rows.chainEmptyRow.domain.isEmpty then [] else Tryz.f4.params.toList.map fun t => match Tryz.prog.underlying t with | some (.int k) => some k | _ => none))) = true := by kernel_rfl
theorem k30 : ((Rows.chainEmptyRow.pinned == Rows.chainEmptyRow.pinnedBy)) = true := by kernel_rfl
theorem k31 : ((Rows.chainEmptyRow.veiled == (Tryz.f4.params.toList ++ Rows.chainEmptySpec.plain.varTypes Tryz.prog ++ Tryz.f4.resultTypes.toList).any (Tryz.prog.veiledRec ·))) = true := by kernel_rfl
theorem k32 : (Rows.chainEmptyRow.veiledFits Tryz.prog Tryz.f4.params.toList (Tryz.f4.params.toList ++ Rows.chainEmptySpec.plain.varTypes Tryz.prog ++ Tryz.f4.resultTypes.toList)) = true := by kernel_rfl
theorem over : Rows.chainEmptyRow.holds Tryz.pinned (OpenSpec.ofChange Rows.chainEmptySpec) :=
  OpenClaim.holds_of_wide 4 Tryz.f4 rfl rfl rfl rfl rfl rfl rfl ⟨rfl, rfl, rfl, rfl, rfl⟩ rfl rfl rfl rfl rfl (by kernel_rfl) Tryz.func4 (AM.joined_of (P := Tryz.prog) k1 k2 k3 k4 k5 k6 k7 k8 k9 k10 k11 k12 k13 k14 k15 k16 k17 k18 k19 k20 k21 k22 k23 k24 k25 k26 k27 k28 k29 k30 k31 k32)
    (of_decide_eq_true (by kernel_rfl)) (by unfold Func.isWrapper; first | (rw [if_pos (by decide +kernel)]; kernel_rfl) | (rw [if_neg (by decide +kernel)]; exact ⟨rfl, rfl⟩))
    (fun os started H enc _ => lifted os started H enc)
end Go.Proofs.YtlmglicbgdkmoaaGreat.chainEmpty
namespace Go.Proofs.YtlmglicbgdkmoaaGreat
theorem chainEmpty_holds : Rows.ChainEmptySaid := chainEmpty.over
end Go.Proofs.YtlmglicbgdkmoaaGreat
