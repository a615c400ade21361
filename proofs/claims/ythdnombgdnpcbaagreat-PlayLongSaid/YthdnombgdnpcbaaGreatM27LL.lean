/-
  The law PlayLong: too many acts are refused. Conditions: none.
-/
import Derived.Test.YthdnombgdnpcbaaGreatRows
import Derived.WalkKit
import Derived.ProofKit
import Derived.OpenShut
import Derived.JoinedCond
import Derived.Test.YthdnombgdnpcbaaGreatAmZe
import Derived.Test.YthdnombgdnpcbaaGreatM27LO
import Derived.Test.YthdnombgdnpcbaaGreatM27LR
namespace Go.Proofs.YthdnombgdnpcbaaGreat.playLong
open Go.ChangeShapes Go.WideShapes Go.ChangeAt Go.RowKit

theorem own : ownKnob Tryz.prog.godebug = none := by kernel_rfl
theorem laid : laidOutB Tryz.prog = true := by kernel_rfl
theorem mo : Tryz.prog.follows .mixedOrders = true := by kernel_rfl
theorem p0 : Tryz.f3.params[0]? = some 22 := by kernel_rfl
theorem u0 : Tryz.prog.underlying 22 = some (.int .u16) := by kernel_rfl
theorem arr1 {args : Array Value} (h : args.size = 1) : ∃ y0, args = #[y0] := by
  obtain ⟨l⟩ := args
  match l, h with
  | [y0], _ => exact ⟨y0, rfl⟩
theorem run (W : World) (w0 : Nat) (h0 : w0 < 65536) :
    Calls Tryz.prog 3 #[.int .u16 w0] W fun r w' => r = .returned (.bool true) ∧ w'.os = W.os ∧ w'.tape = W.tape ∧ w'.output = W.output ∧ W.heap.size ≤ w'.heap.size ∧ ∀ b, b < W.heap.size → w'.heap[b]? = W.heap[b]? := by
  have := AM.go_true (P := Tryz.prog) AM.pbtb mo (vs := [.xi 0 5 (w0 % 20) 20]) (X := AM.XL [.int .u16 w0]) (AM.XL_one (by intro u hu; simp only [List.mem_cons, List.not_mem_nil, or_false] at hu; subst hu <;> first | rfl | assumption)) ⟨AM.xi_ok (by decide) w0 rfl rfl (by omega), trivial⟩ (AM.pbrun w0) W
  exact this
theorem spec (H : Type) (ds : List (DataW H)) (h : ds.length = Tryz.f3.params.size) : Rows.playLongSpec.fn H ds = { results := [.lit (.bool true)], args := ds } := by
  have h1 : ds.length = 1 := h
  obtain ⟨d0, ds0, rfl⟩ : ∃ d r, ds = d :: r := by cases ds with | nil => simp at h1 | cons d r => exact ⟨d, r, rfl⟩
  have h2 : ds0 = [] := by cases ds0 with | nil => rfl | cons d r => simp at h1
  subst h2
  rfl
theorem rt : Tryz.f3.resultTypes = #[4] := by kernel_rfl
theorem bt : Tryz.prog.underlying 4 = some .bool := by kernel_rfl
theorem ck : AM.argsCk Tryz.prog Tryz.f3.params.toList = true := by kernel_rfl
theorem nv : Rows.playLongSpec.vars = [] := by kernel_rfl
set_option maxRecDepth 100000
theorem lifted (os : Os) (started : os.Started) (H : Type) (enc : TypeId × Value → H) :
    ReturnsInHanded {} Tryz.checked os 3 .any (Rows.playLongSpec.pre6 enc Tryz.prog Tryz.f3 Rows.playLongRow.domain false) (Rows.playLongSpec.post enc Tryz.prog Tryz.f3 false true false false) := by
  refine returnsInHanded_of_change (C := Tryz.checked) own started (by kernel_rfl) Tryz.func3
    (ChangeSpec.witness6 (enc := enc) (C := Tryz.checked) false ⟨#[], #[.int .u16 0], []⟩ 8 (by kernel_rfl) (by kernel_rfl) (by kernel_rfl) (by kernel_rfl)) ?_
  intro W base args ds gs before hval hW _ _
  refine AM.law_calls (P := Tryz.prog) (f := 3) (fn := Tryz.f3) (s := Rows.playLongSpec) (tb := 4) rt bt laid ck nv (spec H) (fun hs => ?_) hW
  clear hW
  obtain ⟨v0, rfl⟩ := arr1 (show args.size = 1 from hs)
  obtain ⟨w0, rfl, hw0⟩ := AM.val_small u0 AM.has_u16 (hval 0 22 _ p0 rfl)
  exact run W w0 hw0
theorem k1 : (Rows.playLongRow.wf (OpenSpec.ofChange Rows.playLongSpec)) = true := by kernel_rfl
theorem k2 : (laidOutB Tryz.prog) = true := by kernel_rfl
theorem k3 : (mapsRowed Tryz.prog) = true := by kernel_rfl
theorem k4 : (Tryz.f3.params.all (Tryz.prog.readableRec ·)) = true := by kernel_rfl
theorem k5 : (namedTie Tryz.prog Rows.playLongRow.named Rows.playLongSpec.vars) = true := by kernel_rfl
theorem k6 : ((Rows.playLongRow.stops == [])) = true := by kernel_rfl
theorem k7 : ((Tryz.prog.stops == [])) = true := by kernel_rfl
theorem k8 : ((Rows.playLongRow.knobs == [])) = true := by kernel_rfl
theorem k9 : ((Tryz.prog.stopKnobs == [])) = true := by kernel_rfl
theorem k10 : ((Rows.playLongRow.inPlace == Tryz.prog.inPlace 3)) = true := by kernel_rfl
theorem k11 : ((Rows.playLongRow.unfollowed == Tryz.prog.unfollowed 3)) = true := by kernel_rfl
theorem k12 : ((Rows.playLongRow.recurses == Tryz.prog.recurses 3)) = true := by kernel_rfl
theorem k13 : ((Rows.playLongRow.named == Tryz.prog.varsNamed 3)) = true := by kernel_rfl
theorem k14 : ((Rows.playLongRow.maps == (Tryz.f3.params.toList ++ Rows.playLongSpec.plain.varTypes Tryz.prog).any (Tryz.prog.mapsRec ·))) = true := by kernel_rfl
theorem k15 : ((Rows.playLongRow.ifaces == (Tryz.f3.params.toList ++ Rows.playLongSpec.plain.varTypes Tryz.prog).any (Tryz.prog.ifacesRec ·))) = true := by kernel_rfl
theorem k16 : ((Rows.playLongRow.mapsOut == Tryz.prog.mapsAmong Tryz.f3.resultTypes.toList)) = true := by kernel_rfl
theorem k17 : ((Rows.playLongRow.loops == (Tryz.f3.params.toList ++ Rows.playLongSpec.plain.varTypes Tryz.prog).any (Tryz.prog.loopsFrom ·))) = true := by kernel_rfl
theorem k18 : ((Rows.playLongRow.wideKeys == (Tryz.f3.params.toList ++ Rows.playLongSpec.plain.varTypes Tryz.prog ++ Tryz.f3.resultTypes.toList).any (Tryz.prog.wideKeysFrom ·))) = true := by kernel_rfl
theorem k19 : (Rows.playLongSpec.vars.all (Tryz.prog.varReadable ·)) = true := by kernel_rfl
theorem k20 : (Tryz.f3.resultTypes.all (fun t => Tryz.prog.readableRec t && decide (t < Tryz.prog.types.size))) = true := by kernel_rfl
theorem k21 : ((Rows.playLongRow.ifacesOut == Tryz.f3.resultTypes.toList.any (Tryz.prog.ifacesRec ·))) = true := by kernel_rfl
theorem k22 : ((Rows.playLongRow.loopsOut == Tryz.f3.resultTypes.toList.any (Tryz.prog.loopsFrom ·))) = true := by kernel_rfl
theorem k23 : ((Rows.playLongRow.plainKeys == Tryz.prog.plainKeys)) = true := by kernel_rfl
theorem k24 : (Rows.playLongRow.shortTexts.isNone) = true := by kernel_rfl
theorem k25 : (Tryz.prog.stopsHeard) = true := by kernel_rfl
theorem k26 : (Tryz.prog.mayEnter) = true := by kernel_rfl
theorem k27 : ((Rows.playLongRow.lifted == Tryz.prog.liftsFinal)) = true := by kernel_rfl
theorem k28 : ((Tryz.prog.make == some Rows.playLongRow.make)) = true := by kernel_rfl
theorem k29 : ((Rows.playLongRow.kinds == (if Rows.playLongRow.domain.isEmpty then [] else Tryz.f3.params.toList.map fun t => match Tryz.prog.underlying t with | some (.int k) => some k | _ => none))) = true := by kernel_rfl
theorem k30 : ((Rows.playLongRow.pinned == Rows.playLongRow.pinnedBy)) = true := by kernel_rfl
theorem k31 : ((Rows.playLongRow.veiled == (Tryz.f3.params.toList ++ Rows.playLongSpec.plain.varTypes Tryz.prog ++ Tryz.f3.resultTypes.toList).any (Tryz.prog.veiledRec ·))) = true := by kernel_rfl
theorem k32 : (Rows.playLongRow.veiledFits Tryz.prog Tryz.f3.params.toList (Tryz.f3.params.toList ++ Rows.playLongSpec.plain.varTypes Tryz.prog ++ Tryz.f3.resultTypes.toList)) = true := by kernel_rfl
theorem over : Rows.playLongRow.holds Tryz.pinned (OpenSpec.ofChange Rows.playLongSpec) :=
  OpenClaim.holds_of_wide 3 Tryz.f3 rfl rfl rfl rfl rfl rfl rfl ⟨rfl, rfl, rfl, rfl, rfl⟩ rfl rfl rfl rfl rfl (by kernel_rfl) Tryz.func3 (AM.joined_of (P := Tryz.prog) k1 k2 k3 k4 k5 k6 k7 k8 k9 k10 k11 k12 k13 k14 k15 k16 k17 k18 k19 k20 k21 k22 k23 k24 k25 k26 k27 k28 k29 k30 k31 k32)
    (of_decide_eq_true (by kernel_rfl)) (by unfold Func.isWrapper; first | (rw [if_pos (by decide +kernel)]; kernel_rfl) | (rw [if_neg (by decide +kernel)]; exact ⟨rfl, rfl⟩))
    (fun os started H enc _ => lifted os started H enc)
end Go.Proofs.YthdnombgdnpcbaaGreat.playLong
namespace Go.Proofs.YthdnombgdnpcbaaGreat
theorem playLong_holds : Rows.PlayLongSaid := playLong.over
end Go.Proofs.YthdnombgdnpcbaaGreat
