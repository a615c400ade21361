/-
  The law ArchiveNil: an archive that there is not does nothing; over no disk there is none. Conditions: none.
-/
import Derived.Test.YtlmglicbgdkmoaaGreatRows
import Derived.WalkKit
import Derived.ProofKit
import Derived.OpenShut
import Derived.JoinedCond
import Derived.Test.YtlmglicbgdkmoaaGreatAmZe
import Derived.Test.YtlmglicbgdkmoaaGreatM25NO
import Derived.Test.YtlmglicbgdkmoaaGreatM25NR
namespace Go.Proofs.YtlmglicbgdkmoaaGreat.archiveNil
open Go.ChangeShapes Go.WideShapes Go.ChangeAt Go.RowKit

theorem own : ownKnob Tryz.prog.godebug = none := by kernel_rfl
theorem laid : laidOutB Tryz.prog = true := by kernel_rfl
theorem mo : Tryz.prog.follows .mixedOrders = true := by kernel_rfl
theorem p0 : Tryz.f6.params[0]? = some 58 := by kernel_rfl
theorem c0 : Tryz.prog.cellsOf 58 = 7 := by kernel_rfl
noncomputable def fs0 : Array Field := match Tryz.prog.underlying 58 with | some (.struct fs) => fs | _ => #[]
theorem us0 : Tryz.prog.underlying 58 = some (.struct fs0) := by kernel_rfl
theorem arr1 {args : Array Value} (h : args.size = 1) : ∃ y0, args = #[y0] := by
  obtain ⟨l⟩ := args
  match l, h with
  | [y0], _ => exact ⟨y0, rfl⟩
theorem arr7 {args : Array Value} (h : args.size = 7) : ∃ y0 y1 y2 y3 y4 y5 y6, args = #[y0, y1, y2, y3, y4, y5, y6] := by
  obtain ⟨l⟩ := args
  match l, h with
  | [y0, y1, y2, y3, y4, y5, y6], _ => exact ⟨y0, y1, y2, y3, y4, y5, y6, rfl⟩
theorem run (W : World) (x0_0 x0_1 x0_2 x0_3 x0_4 x0_5 x0_6 : Value) (h0_0 : x0_0.oneCell' = true) (h0_1 : x0_1.oneCell' = true) (h0_2 : x0_2.oneCell' = true) (h0_3 : x0_3.oneCell' = true) (h0_4 : x0_4.oneCell' = true) (h0_5 : x0_5.oneCell' = true) (h0_6 : x0_6.oneCell' = true) :
    Calls Tryz.prog 6 #[.agg #[x0_0, x0_1, x0_2, x0_3, x0_4, x0_5, x0_6]] W fun r w' => r = .returned (.bool true) ∧ w'.os = W.os ∧ w'.tape = W.tape ∧ w'.output = W.output ∧ W.heap.size ≤ w'.heap.size ∧ ∀ b, b < W.heap.size → w'.heap[b]? = W.heap[b]? := by
  have := AM.go_true (P := Tryz.prog) AM.mdtb mo (vs := [.ag [.x 0, .x 1, .x 2, .x 3, .x 4, .x 5, .x 6]]) (X := AM.XL [x0_0, x0_1, x0_2, x0_3, x0_4, x0_5, x0_6]) (AM.XL_one (by intro u hu; simp only [List.mem_cons, List.not_mem_nil, or_false] at hu; rcases hu with rfl | rfl | rfl | rfl | rfl | rfl | rfl <;> first | rfl | assumption)) ⟨⟨⟨trivial, trivial, trivial, trivial, trivial, trivial, trivial, trivial⟩, rfl⟩, trivial⟩ AM.mdrun W
  exact this
theorem spec (H : Type) (ds : List (DataW H)) (h : ds.length = Tryz.f6.params.size) : Rows.archiveNilSpec.fn H ds = { results := [.lit (.bool true)], args := ds } := by
  have h1 : ds.length = 1 := h
  obtain ⟨d0, ds0, rfl⟩ : ∃ d r, ds = d :: r := by cases ds with | nil => simp at h1 | cons d r => exact ⟨d, r, rfl⟩
  have h2 : ds0 = [] := by cases ds0 with | nil => rfl | cons d r => simp at h1
  subst h2
  rfl
theorem rt : Tryz.f6.resultTypes = #[4] := by kernel_rfl
theorem bt : Tryz.prog.underlying 4 = some .bool := by kernel_rfl
theorem ck : AM.argsCk Tryz.prog Tryz.f6.params.toList = true := by kernel_rfl
theorem nv : Rows.archiveNilSpec.vars = [] := by kernel_rfl
set_option maxRecDepth 100000
theorem lifted (os : Os) (started : os.Started) (H : Type) (enc : TypeId × Value → H) :
    ReturnsInHanded {} Tryz.checked os 6 .any (Rows.archiveNilSpec.pre6 enc Tryz.prog Tryz.f6 Rows.archiveNilRow.domain false) (Rows.archiveNilSpec.post enc Tryz.prog Tryz.f6 false true false false) := by
  refine returnsInHanded_of_change (C := Tryz.checked) own started (by kernel_rfl) Tryz.func6
    (ChangeSpec.witness6 (enc := enc) (C := Tryz.checked) false ⟨#[], #[.agg #[.int .i64 0, .string ⟨#[]⟩, .string ⟨#[]⟩, .int .i64 0, .int .i64 0, .int .i64 0, .slice none 0 0]], []⟩ 8 (by kernel_rfl) (by kernel_rfl) (by kernel_rfl) (by kernel_rfl)) ?_
  intro W base args ds gs before hval hW _ _
  refine AM.law_calls (P := Tryz.prog) (f := 6) (fn := Tryz.f6) (s := Rows.archiveNilSpec) (tb := 4) rt bt laid ck nv (spec H) (fun hs => ?_) hW
  clear hW
  obtain ⟨v0, rfl⟩ := arr1 (show args.size = 1 from hs)
  obtain ⟨cs0, rfl, hs0, ho0⟩ := AM.val_struct (fs := fs0) us0 c0 (hval 0 58 _ p0 rfl)
  obtain ⟨x0_0, x0_1, x0_2, x0_3, x0_4, x0_5, x0_6, rfl⟩ := arr7 hs0
  exact run W x0_0 x0_1 x0_2 x0_3 x0_4 x0_5 x0_6 (ho0 0 _ rfl) (ho0 1 _ rfl) (ho0 2 _ rfl) (ho0 3 _ rfl) (ho0 4 _ rfl) (ho0 5 _ rfl) (ho0 6 _ rfl)
theorem k1 : (Rows.archiveNilRow.wf (OpenSpec.ofChange Rows.archiveNilSpec)) = true := by kernel_rfl
theorem k2 : (laidOutB Tryz.prog) = true := by kernel_rfl
theorem k3 : (mapsRowed Tryz.prog) = true := by kernel_rfl
theorem k4 : (Tryz.f6.params.all (Tryz.prog.readableRec ·)) = true := by kernel_rfl
theorem k5 : (namedTie Tryz.prog Rows.archiveNilRow.named Rows.archiveNilSpec.vars) = true := by kernel_rfl
theorem k6 : ((Rows.archiveNilRow.stops == [])) = true := by kernel_rfl
theorem k7 : ((Tryz.prog.stops == [])) = true := by kernel_rfl
theorem k8 : ((Rows.archiveNilRow.knobs == [])) = true := by kernel_rfl
theorem k9 : ((Tryz.prog.stopKnobs == [])) = true := by kernel_rfl
theorem k10 : ((Rows.archiveNilRow.inPlace == Tryz.prog.inPlace 6)) = true := by kernel_rfl
theorem k11 : ((Rows.archiveNilRow.unfollowed == Tryz.prog.unfollowed 6)) = true := by kernel_rfl
theorem k12 : ((Rows.archiveNilRow.recurses == Tryz.prog.recurses 6)) = true := by kernel_rfl
theorem k13 : ((Rows.archiveNilRow.named == Tryz.prog.varsNamed 6)) = true := by kernel_rfl
theorem k14 : ((Rows.archiveNilRow.maps == (Tryz.f6.params.toList ++ Rows.archiveNilSpec.plain.varTypes Tryz.prog).any (Tryz.prog.mapsRec ·))) = true := by kernel_rfl
theorem k15 : ((Rows.archiveNilRow.ifaces == (Tryz.f6.params.toList ++ Rows.archiveNilSpec.plain.varTypes Tryz.prog).any (Tryz.prog.ifacesRec ·))) = true := by kernel_rfl
theorem k16 : ((Rows.archiveNilRow.mapsOut == Tryz.prog.mapsAmong Tryz.f6.resultTypes.toList)) = true := by kernel_rfl
theorem k17 : ((Rows.archiveNilRow.loops == (Tryz.f6.params.toList ++ Rows.archiveNilSpec.plain.varTypes Tryz.prog).any (Tryz.prog.loopsFrom ·))) = true := by kernel_rfl
theorem k18 : ((Rows.archiveNilRow.wideKeys == (Tryz.f6.params.toList ++ Rows.archiveNilSpec.plain.varTypes Tryz.prog ++ Tryz.f6.resultTypes.toList).any (Tryz.prog.wideKeysFrom ·))) = true := by kernel_rfl
theorem k19 : (Rows.archiveNilSpec.vars.all (Tryz.prog.varReadable ·)) = true := by kernel_rfl
theorem k20 : (Tryz.f6.resultTypes.all (fun t => Tryz.prog.readableRec t && decide (t < Tryz.prog.types.size))) = true := by kernel_rfl
theorem k21 : ((Rows.archiveNilRow.ifacesOut == Tryz.f6.resultTypes.toList.any (Tryz.prog.ifacesRec ·))) = true := by kernel_rfl
theorem k22 : ((Rows.archiveNilRow.loopsOut == Tryz.f6.resultTypes.toList.any (Tryz.prog.loopsFrom ·))) = true := by kernel_rfl
theorem k23 : ((Rows.archiveNilRow.plainKeys == Tryz.prog.plainKeys)) = true := by kernel_rfl
theorem k24 : (Rows.archiveNilRow.shortTexts.isNone) = true := by kernel_rfl
theorem k25 : (Tryz.prog.stopsHeard) = true := by kernel_rfl
theorem k26 : (Tryz.prog.mayEnter) = true := by kernel_rfl
theorem k27 : ((Rows.archiveNilRow.lifted == Tryz.prog.liftsFinal)) = true := by kernel_rfl
theorem k28 : ((Tryz.prog.make == some Rows.archiveNilRow.make)) = true := by kernel_rfl
theorem k29 : ((Rows.archiveNilRow.kinds == (if Rows.archiveNilRow.domain.isEmpty then [] else Tryz.f6.params.toList.map fun t => match Tryz.prog.underlying t with | some (.int k) => some k | _ => none))) = true := by kernel_rfl
theorem k30 : ((Rows.archiveNilRow.pinned == Rows.archiveNilRow.pinnedBy)) = true := by kernel_rfl
theorem k31 : ((Rows.archiveNilRow.veiled == (Tryz.f6.params.toList ++ Rows.archiveNilSpec.plain.varTypes Tryz.prog ++ Tryz.f6.resultTypes.toList).any (Tryz.prog.veiledRec ·))) = true := by kernel_rfl
theorem k32 : (Rows.archiveNilRow.veiledFits Tryz.prog Tryz.f6.params.toList (Tryz.f6.params.toList ++ Rows.archiveNilSpec.plain.varTypes Tryz.prog ++ Tryz.f6.resultTypes.toList)) = true := by kernel_rfl
theorem over : Rows.archiveNilRow.holds Tryz.pinned (OpenSpec.ofChange Rows.archiveNilSpec) :=
  OpenClaim.holds_of_wide 6 Tryz.f6 rfl rfl rfl rfl rfl rfl rfl ⟨rfl, rfl, rfl, rfl, rfl⟩ rfl rfl rfl rfl rfl (by kernel_rfl) Tryz.func6 (AM.joined_of (P := Tryz.prog) k1 k2 k3 k4 k5 k6 k7 k8 k9 k10 k11 k12 k13 k14 k15 k16 k17 k18 k19 k20 k21 k22 k23 k24 k25 k26 k27 k28 k29 k30 k31 k32)
    (of_decide_eq_true (by kernel_rfl)) (by unfold Func.isWrapper; first | (rw [if_pos (by decide +kernel)]; kernel_rfl) | (rw [if_neg (by decide +kernel)]; exact ⟨rfl, rfl⟩))
    (fun os started H enc _ => lifted os started H enc)
end Go.Proofs.YtlmglicbgdkmoaaGreat.archiveNil
namespace Go.Proofs.YtlmglicbgdkmoaaGreat
theorem archiveNil_holds : Rows.ArchiveNilSaid := archiveNil.over
end Go.Proofs.YtlmglicbgdkmoaaGreat
