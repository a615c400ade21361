/-
  The law ImageDead: While the power is off nothing is read or flushed; opened anew behind a fall all is as it was kept. Conditions: none.
-/
import Derived.Test.YtmhhaimpignndaaGreatRows
import Derived.WalkKit
import Derived.ProofKit
import Derived.OpenShut
import Derived.JoinedCond
import Derived.Test.YtmhhaimpignndaaGreatAmLz
import Derived.Test.YtmhhaimpignndaaGreatM17DOO
import Derived.Test.YtmhhaimpignndaaGreatM17DA0
namespace Go.Proofs.YtmhhaimpignndaaGreat.imageDead
open Go.ChangeShapes Go.WideShapes Go.ChangeAt Go.RowKit

theorem own : ownKnob Tryz.prog.godebug = none := by kernel_rfl
theorem laid : laidOutB Tryz.prog = true := by kernel_rfl
theorem mo : Tryz.prog.follows .mixedOrders = true := by kernel_rfl
theorem p0 : Tryz.f6.params[0]? = some 5 := by kernel_rfl
theorem u0 : Tryz.prog.underlying 5 = some (.int .u8) := by kernel_rfl
theorem p1 : Tryz.f6.params[1]? = some 5 := by kernel_rfl
theorem u1 : Tryz.prog.underlying 5 = some (.int .u8) := by kernel_rfl
theorem arr2 {args : Array Value} (h : args.size = 2) : ∃ y0 y1, args = #[y0, y1] := by
  obtain ⟨l⟩ := args
  match l, h with
  | [y0, y1], _ => exact ⟨y0, y1, rfl⟩
theorem run (W : World) (w0 : Nat) (w1 : Nat) (h0 : w0 < 256) (h1 : w1 < 256) :
    Calls Tryz.prog 6 #[.int .u8 w0, .int .u8 w1] W fun r w' => r = .returned (.bool true) ∧ w'.os = W.os ∧ w'.tape = W.tape ∧ w'.output = W.output ∧ W.heap.size ≤ w'.heap.size ∧ ∀ b, b < W.heap.size → w'.heap[b]? = W.heap[b]? := by
  have hX := AM.XB_one (c := w0) (u := [.int .u8 (w1 : Int)]) (by intro v hv; simp only [List.mem_cons, List.not_mem_nil, or_false] at hv; subst hv; rfl)
  have hr : AM.goF AM.ppT2 2000000 6 [.l 4 AM.LI, .xi 0 4 (w1 % 8) 8] (fun v _ _ => match v with | .b c => c | _ => false) = true := by
    have hr : w1 % 8 < 8 := Nat.mod_lt _ (by decide)
    generalize w1 % 8 = r at hr
    match r, hr with
    | 0, _ => exact AM.ppr0
    | 1, _ => exact AM.ppr1
    | 2, _ => exact AM.ppr2
    | 3, _ => exact AM.ppr3
    | 4, _ => exact AM.ppr4
    | 5, _ => exact AM.ppr5
    | 6, _ => exact AM.ppr6
    | 7, _ => exact AM.ppr7
    | r + 8, hr => omega
  have := AM.go_true (P := Tryz.prog) AM.pptb2 mo (vs := [.l 4 AM.LI, .xi 0 4 (w1 % 8) 8]) hX ⟨AM.lane_ok AM.ln_LI256, AM.xi_ok (by decide) w1 rfl rfl (by omega), trivial⟩ hr W
  have e : (AM.toVs (AM.θ0 (AM.XB w0 [.int .u8 (w1 : Int)]) hX) [.l 4 AM.LI, .xi 0 4 (w1 % 8) 8]).toArray = #[.int .u8 w0, .int .u8 w1] := by
    simp only [AM.toVs]
    rw [AM.lane_toV hX h0 (AM.ln_LI w0 h0)]
    rfl
  rw [e] at this
  exact this
theorem spec (H : Type) (ds : List (DataW H)) (h : ds.length = Tryz.f6.params.size) : Rows.imageDeadSpec.fn H ds = { results := [.lit (.bool true)], args := ds } := by
  have h1 : ds.length = 2 := h
  obtain ⟨d0, ds0, rfl⟩ : ∃ d r, ds = d :: r := by cases ds with | nil => simp at h1 | cons d r => exact ⟨d, r, rfl⟩
  obtain ⟨d1, ds1, rfl⟩ : ∃ d r, ds0 = d :: r := by cases ds0 with | nil => simp at h1 | cons d r => exact ⟨d, r, rfl⟩
  have h2 : ds1 = [] := by cases ds1 with | nil => rfl | cons d r => simp at h1
  subst h2
  rfl
theorem rt : Tryz.f6.resultTypes = #[4] := by kernel_rfl
theorem bt : Tryz.prog.underlying 4 = some .bool := by kernel_rfl
theorem ck : AM.argsCk Tryz.prog Tryz.f6.params.toList = true := by kernel_rfl
theorem nv : Rows.imageDeadSpec.vars = [] := by kernel_rfl
set_option maxRecDepth 100000
theorem lifted (os : Os) (started : os.Started) (H : Type) (enc : TypeId × Value → H) :
    ReturnsInHanded {} Tryz.checked os 6 .any (Rows.imageDeadSpec.pre6 enc Tryz.prog Tryz.f6 Rows.imageDeadRow.domain false) (Rows.imageDeadSpec.post enc Tryz.prog Tryz.f6 false true false false) := by
  refine returnsInHanded_of_change (C := Tryz.checked) own started (by kernel_rfl) Tryz.func6
    (ChangeSpec.witness6 (enc := enc) (C := Tryz.checked) false ⟨#[], #[.int .u8 0, .int .u8 0], []⟩ 8 (by kernel_rfl) (by kernel_rfl) (by kernel_rfl) (by kernel_rfl)) ?_
  intro W base args ds gs before hval hW _ _
  refine AM.law_calls (P := Tryz.prog) (f := 6) (fn := Tryz.f6) (s := Rows.imageDeadSpec) (tb := 4) rt bt laid ck nv (spec H) (fun hs => ?_) hW
  clear hW
  obtain ⟨v0, v1, rfl⟩ := arr2 (show args.size = 2 from hs)
  obtain ⟨w0, rfl, hw0⟩ := AM.val_small u0 AM.has_u8 (hval 0 5 _ p0 rfl)
  obtain ⟨w1, rfl, hw1⟩ := AM.val_small u1 AM.has_u8 (hval 1 5 _ p1 rfl)
  exact run W w0 w1 hw0 hw1
theorem k1 : (Rows.imageDeadRow.wf (OpenSpec.ofChange Rows.imageDeadSpec)) = true := by kernel_rfl
theorem k2 : (laidOutB Tryz.prog) = true := by kernel_rfl
theorem k3 : (mapsRowed Tryz.prog) = true := by kernel_rfl
theorem k4 : (Tryz.f6.params.all (Tryz.prog.readableRec ·)) = true := by kernel_rfl
theorem k5 : (namedTie Tryz.prog Rows.imageDeadRow.named Rows.imageDeadSpec.vars) = true := by kernel_rfl
theorem k6 : ((Rows.imageDeadRow.stops == [])) = true := by kernel_rfl
theorem k7 : ((Tryz.prog.stops == [])) = true := by kernel_rfl
theorem k8 : ((Rows.imageDeadRow.knobs == [])) = true := by kernel_rfl
theorem k9 : ((Tryz.prog.stopKnobs == [])) = true := by kernel_rfl
theorem k10 : ((Rows.imageDeadRow.inPlace == Tryz.prog.inPlace 6)) = true := by kernel_rfl
theorem k11 : ((Rows.imageDeadRow.unfollowed == Tryz.prog.unfollowed 6)) = true := by kernel_rfl
theorem k12 : ((Rows.imageDeadRow.recurses == Tryz.prog.recurses 6)) = true := by kernel_rfl
theorem k13 : ((Rows.imageDeadRow.named == Tryz.prog.varsNamed 6)) = true := by kernel_rfl
theorem k14 : ((Rows.imageDeadRow.maps == (Tryz.f6.params.toList ++ Rows.imageDeadSpec.plain.varTypes Tryz.prog).any (Tryz.prog.mapsRec ·))) = true := by kernel_rfl
theorem k15 : ((Rows.imageDeadRow.ifaces == (Tryz.f6.params.toList ++ Rows.imageDeadSpec.plain.varTypes Tryz.prog).any (Tryz.prog.ifacesRec ·))) = true := by kernel_rfl
theorem k16 : ((Rows.imageDeadRow.mapsOut == Tryz.prog.mapsAmong Tryz.f6.resultTypes.toList)) = true := by kernel_rfl
theorem k17 : ((Rows.imageDeadRow.loops == (Tryz.f6.params.toList ++ Rows.imageDeadSpec.plain.varTypes Tryz.prog).any (Tryz.prog.loopsFrom ·))) = true := by kernel_rfl
theorem k18 : ((Rows.imageDeadRow.wideKeys == (Tryz.f6.params.toList ++ Rows.imageDeadSpec.plain.varTypes Tryz.prog ++ Tryz.f6.resultTypes.toList).any (Tryz.prog.wideKeysFrom ·))) = true := by kernel_rfl
theorem k19 : (Rows.imageDeadSpec.vars.all (Tryz.prog.varReadable ·)) = true := by kernel_rfl
theorem k20 : (Tryz.f6.resultTypes.all (fun t => Tryz.prog.readableRec t && decide (t < Tryz.prog.types.size))) = true := by kernel_rfl
theorem k21 : ((Rows.imageDeadRow.ifacesOut == Tryz.f6.resultTypes.toList.any (Tryz.prog.ifacesRec ·))) = true := by kernel_rfl
theorem k22 : ((Rows.imageDeadRow.loopsOut == Tryz.f6.resultTypes.toList.any (Tryz.prog.loopsFrom ·))) = true := by kernel_rfl
theorem k23 : ((Rows.imageDeadRow.plainKeys == Tryz.prog.plainKeys)) = true := by kernel_rfl
theorem k24 : (Rows.imageDeadRow.shortTexts.isNone) = true := by kernel_rfl
theorem k25 : (Tryz.prog.stopsHeard) = true := by kernel_rfl
theorem k26 : (Tryz.prog.mayEnter) = true := by kernel_rfl
theorem k27 : ((Rows.imageDeadRow.lifted == Tryz.prog.liftsFinal)) = true := by kernel_rfl
theorem k28 : ((Tryz.prog.make == some Rows.imageDeadRow.make)) = true := by kernel_rfl
theorem k29 : ((Rows.imageDeadRow.kinds == (if Rows.imageDeadRow.domain.isEmpty then [] else Tryz.f6.params.toList.map fun t => match Tryz.prog.underlying t with | some (.int k) => some k | _ => none))) = true := by kernel_rfl
theorem k30 : ((Rows.imageDeadRow.pinned == Rows.imageDeadRow.pinnedBy)) = true := by kernel_rfl
theorem k31 : ((Rows.imageDeadRow.veiled == (Tryz.f6.params.toList ++ Rows.imageDeadSpec.plain.varTypes Tryz.prog ++ Tryz.f6.resultTypes.toList).any (Tryz.prog.veiledRec ·))) = true := by kernel_rfl
theorem k32 : (Rows.imageDeadRow.veiledFits Tryz.prog Tryz.f6.params.toList (Tryz.f6.params.toList ++ Rows.imageDeadSpec.plain.varTypes Tryz.prog ++ Tryz.f6.resultTypes.toList)) = true := by kernel_rfl
theorem over : Rows.imageDeadRow.holds Tryz.pinned (OpenSpec.ofChange Rows.imageDeadSpec) :=
  OpenClaim.holds_of_wide 6 Tryz.f6 rfl rfl rfl rfl rfl rfl rfl ⟨rfl, rfl, rfl, rfl, rfl⟩ rfl rfl rfl rfl rfl (by kernel_rfl) Tryz.func6 (AM.joined_of (P := Tryz.prog) k1 k2 k3 k4 k5 k6 k7 k8 k9 k10 k11 k12 k13 k14 k15 k16 k17 k18 k19 k20 k21 k22 k23 k24 k25 k26 k27 k28 k29 k30 k31 k32)
    (of_decide_eq_true (by kernel_rfl)) (by unfold Func.isWrapper; first | (rw [if_pos (by decide +kernel)]; kernel_rfl) | (rw [if_neg (by decide +kernel)]; exact ⟨rfl, rfl⟩))
    (fun os started H enc _ => lifted os started H enc)
end Go.Proofs.YtmhhaimpignndaaGreat.imageDead
namespace Go.Proofs.YtmhhaimpignndaaGreat
theorem imageDead_holds : Rows.ImageDeadSaid := imageDead.over
end Go.Proofs.YtmhhaimpignndaaGreat
