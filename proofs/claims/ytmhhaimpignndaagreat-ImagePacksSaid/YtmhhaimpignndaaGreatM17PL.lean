/-
  The law ImagePacks: A cluster of one byte again and again takes fewer sectors than a raw one, where a cluster has enough of them; noughts take none. Conditions: none.
-/
import Derived.Test.YtmhhaimpignndaaGreatRows
import Derived.WalkKit
import Derived.ProofKit
import Derived.OpenShut
import Derived.JoinedCond
import Derived.Test.YtmhhaimpignndaaGreatAmLz
import Derived.Test.YtmhhaimpignndaaGreatM17POO
import Derived.Test.YtmhhaimpignndaaGreatM17PA0
import Derived.Test.YtmhhaimpignndaaGreatM17PA1
import Derived.Test.YtmhhaimpignndaaGreatM17PA2
namespace Go.Proofs.YtmhhaimpignndaaGreat.imagePacks
open Go.ChangeShapes Go.WideShapes Go.ChangeAt Go.RowKit

theorem own : ownKnob Tryz.prog.godebug = none := by kernel_rfl
theorem laid : laidOutB Tryz.prog = true := by kernel_rfl
theorem mo : Tryz.prog.follows .mixedOrders = true := by kernel_rfl
theorem p0 : Tryz.f5.params[0]? = some 5 := by kernel_rfl
theorem u0 : Tryz.prog.underlying 5 = some (.int .u8) := by kernel_rfl
theorem p1 : Tryz.f5.params[1]? = some 5 := by kernel_rfl
theorem u1 : Tryz.prog.underlying 5 = some (.int .u8) := by kernel_rfl
theorem arr2 {args : Array Value} (h : args.size = 2) : ∃ y0 y1, args = #[y0, y1] := by
  obtain ⟨l⟩ := args
  match l, h with
  | [y0, y1], _ => exact ⟨y0, y1, rfl⟩
theorem run (W : World) (w0 : Nat) (w1 : Nat) (h0 : w0 < 256) (h1 : w1 < 256) :
    Calls Tryz.prog 5 #[.int .u8 w0, .int .u8 w1] W fun r w' => r = .returned (.bool true) ∧ w'.os = W.os ∧ w'.tape = W.tape ∧ w'.output = W.output ∧ W.heap.size ≤ w'.heap.size ∧ ∀ b, b < W.heap.size → w'.heap[b]? = W.heap[b]? := by
  have hX := AM.XB_one (c := w0) (u := [.int .u8 (w1 : Int)]) (by intro v hv; simp only [List.mem_cons, List.not_mem_nil, or_false] at hv; subst hv; rfl)
  have key : ∀ ca : AM.AV, AM.goF AM.ppT2 2000000 5 [ca, .xi 0 4 (w1 % 4) 4] (fun v _ _ => match v with | .b c => c | _ => false) = true → AM.Ok (AM.θ0 (AM.XB w0 [.int .u8 (w1 : Int)]) hX) ca → AM.toV (AM.θ0 (AM.XB w0 [.int .u8 (w1 : Int)]) hX) ca = .int .u8 (w0 : Int) →
      Calls Tryz.prog 5 #[.int .u8 w0, .int .u8 w1] W fun r w' => r = .returned (.bool true) ∧ w'.os = W.os ∧ w'.tape = W.tape ∧ w'.output = W.output ∧ W.heap.size ≤ w'.heap.size ∧ ∀ b, b < W.heap.size → w'.heap[b]? = W.heap[b]? := by
    intro ca hr hok htv
    have := AM.go_true (P := Tryz.prog) AM.pptb2 mo (vs := [ca, .xi 0 4 (w1 % 4) 4]) hX ⟨hok, AM.xi_ok (by decide) w1 rfl rfl (by omega), trivial⟩ hr W
    have e : (AM.toVs (AM.θ0 (AM.XB w0 [.int .u8 (w1 : Int)]) hX) [ca, .xi 0 4 (w1 % 4) 4]).toArray = #[.int .u8 w0, .int .u8 w1] := by
      simp only [AM.toVs]
      rw [htv]
      rfl
    rw [e] at this
    exact this
  have hr : w1 % 4 < 4 := Nat.mod_lt _ (by decide)
  have hc : w0 = 0 ∨ w0 = 128 ∨ w0 % 128 ≠ 0 := by omega
  rcases hc with rfl | rfl | hc
  · refine key (.i 4 (.ofNat 0)) ?_ trivial rfl
    generalize w1 % 4 = r at hr
    match r, hr with
    | 0, _ => exact AM.ppq0
    | 1, _ => exact AM.ppq1
    | 2, _ => exact AM.ppq2
    | 3, _ => exact AM.ppq3
    | r + 4, hr => omega
  · refine key (.i 4 (.ofNat 128)) ?_ trivial rfl
    generalize w1 % 4 = r at hr
    match r, hr with
    | 0, _ => exact AM.pps0
    | 1, _ => exact AM.pps1
    | 2, _ => exact AM.pps2
    | 3, _ => exact AM.pps3
    | r + 4, hr => omega
  · refine key (.l 4 AM.LP) ?_ (AM.lane_ok fun j hj => (AM.ln_LP j hj).1) (AM.lane_toV hX h0 ((AM.ln_LP w0 h0).2 hc))
    generalize w1 % 4 = r at hr
    match r, hr with
    | 0, _ => exact AM.ppr0
    | 1, _ => exact AM.ppr1
    | 2, _ => exact AM.ppr2
    | 3, _ => exact AM.ppr3
    | r + 4, hr => omega
theorem spec (H : Type) (ds : List (DataW H)) (h : ds.length = Tryz.f5.params.size) : Rows.imagePacksSpec.fn H ds = { results := [.lit (.bool true)], args := ds } := by
  have h1 : ds.length = 2 := h
  obtain ⟨d0, ds0, rfl⟩ : ∃ d r, ds = d :: r := by cases ds with | nil => simp at h1 | cons d r => exact ⟨d, r, rfl⟩
  obtain ⟨d1, ds1, rfl⟩ : ∃ d r, ds0 = d :: r := by cases ds0 with | nil => simp at h1 | cons d r => exact ⟨d, r, rfl⟩
  have h2 : ds1 = [] := by cases ds1 with | nil => rfl | cons d r => simp at h1
  subst h2
  rfl
theorem rt : Tryz.f5.resultTypes = #[4] := by kernel_rfl
theorem bt : Tryz.prog.underlying 4 = some .bool := by kernel_rfl
theorem ck : AM.argsCk Tryz.prog Tryz.f5.params.toList = true := by kernel_rfl
theorem nv : Rows.imagePacksSpec.vars = [] := by kernel_rfl
set_option maxRecDepth 100000
theorem lifted (os : Os) (started : os.Started) (H : Type) (enc : TypeId × Value → H) :
    ReturnsInHanded {} Tryz.checked os 5 .any (Rows.imagePacksSpec.pre6 enc Tryz.prog Tryz.f5 Rows.imagePacksRow.domain false) (Rows.imagePacksSpec.post enc Tryz.prog Tryz.f5 false true false false) := by
  refine returnsInHanded_of_change (C := Tryz.checked) own started (by kernel_rfl) Tryz.func5
    (ChangeSpec.witness6 (enc := enc) (C := Tryz.checked) false ⟨#[], #[.int .u8 0, .int .u8 0], []⟩ 8 (by kernel_rfl) (by kernel_rfl) (by kernel_rfl) (by kernel_rfl)) ?_
  intro W base args ds gs before hval hW _ _
  refine AM.law_calls (P := Tryz.prog) (f := 5) (fn := Tryz.f5) (s := Rows.imagePacksSpec) (tb := 4) rt bt laid ck nv (spec H) (fun hs => ?_) hW
  clear hW
  obtain ⟨v0, v1, rfl⟩ := arr2 (show args.size = 2 from hs)
  obtain ⟨w0, rfl, hw0⟩ := AM.val_small u0 AM.has_u8 (hval 0 5 _ p0 rfl)
  obtain ⟨w1, rfl, hw1⟩ := AM.val_small u1 AM.has_u8 (hval 1 5 _ p1 rfl)
  exact run W w0 w1 hw0 hw1
theorem k1 : (Rows.imagePacksRow.wf (OpenSpec.ofChange Rows.imagePacksSpec)) = true := by kernel_rfl
theorem k2 : (laidOutB Tryz.prog) = true := by kernel_rfl
theorem k3 : (mapsRowed Tryz.prog) = true := by kernel_rfl
theorem k4 : (Tryz.f5.params.all (Tryz.prog.readableRec ·)) = true := by kernel_rfl
theorem k5 : (namedTie Tryz.prog Rows.imagePacksRow.named Rows.imagePacksSpec.vars) = true := by kernel_rfl
theorem k6 : ((Rows.imagePacksRow.stops == [])) = true := by kernel_rfl
theorem k7 : ((Tryz.prog.stops == [])) = true := by kernel_rfl
theorem k8 : ((Rows.imagePacksRow.knobs == [])) = true := by kernel_rfl
theorem k9 : ((Tryz.prog.stopKnobs == [])) = true := by kernel_rfl
theorem k10 : ((Rows.imagePacksRow.inPlace == Tryz.prog.inPlace 5)) = true := by kernel_rfl
theorem k11 : ((Rows.imagePacksRow.unfollowed == Tryz.prog.unfollowed 5)) = true := by kernel_rfl
theorem k12 : ((Rows.imagePacksRow.recurses == Tryz.prog.recurses 5)) = true := by kernel_rfl
theorem k13 : ((Rows.imagePacksRow.named == Tryz.prog.varsNamed 5)) = true := by kernel_rfl
theorem k14 : ((Rows.imagePacksRow.maps == (Tryz.f5.params.toList ++ Rows.imagePacksSpec.plain.varTypes Tryz.prog).any (Tryz.prog.mapsRec ·))) = true := by kernel_rfl
theorem k15 : ((Rows.imagePacksRow.ifaces == (Tryz.f5.params.toList ++ Rows.imagePacksSpec.plain.varTypes Tryz.prog).any (Tryz.prog.ifacesRec ·))) = true := by kernel_rfl
theorem k16 : ((Rows.imagePacksRow.mapsOut == Tryz.prog.mapsAmong Tryz.f5.resultTypes.toList)) = true := by kernel_rfl
theorem k17 : ((Rows.imagePacksRow.loops == (Tryz.f5.params.toList ++ Rows.imagePacksSpec.plain.varTypes Tryz.prog).any (Tryz.prog.loopsFrom ·))) = true := by kernel_rfl
theorem k18 : ((Rows.imagePacksRow.wideKeys == (Tryz.f5.params.toList ++ Rows.imagePacksSpec.plain.varTypes Tryz.prog ++ Tryz.f5.resultTypes.toList).any (Tryz.prog.wideKeysFrom ·))) = true := by kernel_rfl
theorem k19 : (Rows.imagePacksSpec.vars.all (Tryz.prog.varReadable ·)) = true := by kernel_rfl
theorem k20 : (Tryz.f5.resultTypes.all (fun t => Tryz.prog.readableRec t && decide (t < Tryz.prog.types.size))) = true := by kernel_rfl
theorem k21 : ((Rows.imagePacksRow.ifacesOut == Tryz.f5.resultTypes.toList.any (Tryz.prog.ifacesRec ·))) = true := by kernel_rfl
theorem k22 : ((Rows.imagePacksRow.loopsOut == Tryz.f5.resultTypes.toList.any (Tryz.prog.loopsFrom ·))) = true := by kernel_rfl
theorem k23 : ((Rows.imagePacksRow.plainKeys == Tryz.prog.plainKeys)) = true := by kernel_rfl
theorem k24 : (Rows.imagePacksRow.shortTexts.isNone) = true := by kernel_rfl
theorem k25 : (Tryz.prog.stopsHeard) = true := by kernel_rfl
theorem k26 : (Tryz.prog.mayEnter) = true := by kernel_rfl
theorem k27 : ((Rows.imagePacksRow.lifted == Tryz.prog.liftsFinal)) = true := by kernel_rfl
theorem k28 : ((Tryz.prog.make == some Rows.imagePacksRow.make)) = true := by kernel_rfl
theorem k29 : ((Rows.imagePacksRow.kinds == (if Rows.imagePacksRow.domain.isEmpty then [] else Tryz.f5.params.toList.map fun t => match Tryz.prog.underlying t with | some (.int k) => some k | _ => none))) = true := by kernel_rfl
theorem k30 : ((Rows.imagePacksRow.pinned == Rows.imagePacksRow.pinnedBy)) = true := by kernel_rfl
theorem k31 : ((Rows.imagePacksRow.veiled == (Tryz.f5.params.toList ++ Rows.imagePacksSpec.plain.varTypes Tryz.prog ++ Tryz.f5.resultTypes.toList).any (Tryz.prog.veiledRec ·))) = true := by kernel_rfl
theorem k32 : (Rows.imagePacksRow.veiledFits Tryz.prog Tryz.f5.params.toList (Tryz.f5.params.toList ++ Rows.imagePacksSpec.plain.varTypes Tryz.prog ++ Tryz.f5.resultTypes.toList)) = true := by kernel_rfl
theorem over : Rows.imagePacksRow.holds Tryz.pinned (OpenSpec.ofChange Rows.imagePacksSpec) :=
  OpenClaim.holds_of_wide 5 Tryz.f5 rfl rfl rfl rfl rfl rfl rfl ⟨rfl, rfl, rfl, rfl, rfl⟩ rfl rfl rfl rfl rfl (by kernel_rfl) Tryz.func5 (AM.joined_of (P := Tryz.prog) k1 k2 k3 k4 k5 k6 k7 k8 k9 k10 k11 k12 k13 k14 k15 k16 k17 k18 k19 k20 k21 k22 k23 k24 k25 k26 k27 k28 k29 k30 k31 k32)
    (of_decide_eq_true (by kernel_rfl)) (by unfold Func.isWrapper; first | (rw [if_pos (by decide +kernel)]; kernel_rfl) | (rw [if_neg (by decide +kernel)]; exact ⟨rfl, rfl⟩))
    (fun os started H enc _ => lifted os started H enc)
end Go.Proofs.YtmhhaimpignndaaGreat.imagePacks
namespace Go.Proofs.YtmhhaimpignndaaGreat
theorem imagePacks_holds : Rows.ImagePacksSaid := imagePacks.over
end Go.Proofs.YtmhhaimpignndaaGreat
