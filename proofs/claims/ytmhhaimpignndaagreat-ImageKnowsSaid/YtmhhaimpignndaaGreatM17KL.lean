/-
  The law ImageKnows: Changed tells whether anything was turned since the last flush, as far as it was not refused; a flush of what is not changed writes nothing. Conditions: none.
-/
import Derived.Test.YtmhhaimpignndaaGreatRows
import Derived.WalkKit
import Derived.ProofKit
import Derived.OpenShut
import Derived.JoinedCond
import Derived.Test.YtmhhaimpignndaaGreatAmLz
import Derived.Test.YtmhhaimpignndaaGreatM17KOO
import Derived.Test.YtmhhaimpignndaaGreatM17KA0
import Derived.Test.YtmhhaimpignndaaGreatM17KA4
import Derived.Test.YtmhhaimpignndaaGreatM17KA7
namespace Go.Proofs.YtmhhaimpignndaaGreat.imageKnows
open Go.ChangeShapes Go.WideShapes Go.ChangeAt Go.RowKit

theorem own : ownKnob Tryz.prog.godebug = none := by kernel_rfl
theorem laid : laidOutB Tryz.prog = true := by kernel_rfl
theorem mo : Tryz.prog.follows .mixedOrders = true := by kernel_rfl
theorem p0 : Tryz.f7.params[0]? = some 3 := by kernel_rfl
theorem u0 : Tryz.prog.underlying 3 = some (.int .i64) := by kernel_rfl
theorem p1 : Tryz.f7.params[1]? = some 5 := by kernel_rfl
theorem u1 : Tryz.prog.underlying 5 = some (.int .u8) := by kernel_rfl
theorem p2 : Tryz.f7.params[2]? = some 5 := by kernel_rfl
theorem u2 : Tryz.prog.underlying 5 = some (.int .u8) := by kernel_rfl
theorem arr3 {args : Array Value} (h : args.size = 3) : ∃ y0 y1 y2, args = #[y0, y1, y2] := by
  obtain ⟨l⟩ := args
  match l, h with
  | [y0, y1, y2], _ => exact ⟨y0, y1, y2, rfl⟩
theorem run (W : World) (n0 : Int) (w1 : Nat) (w2 : Nat) (h1 : w1 < 256) (h2 : w2 < 256) :
    Calls Tryz.prog 7 #[.int .i64 n0, .int .u8 w1, .int .u8 w2] W fun r w' => r = .returned (.bool true) ∧ w'.os = W.os ∧ w'.tape = W.tape ∧ w'.output = W.output ∧ W.heap.size ≤ w'.heap.size ∧ ∀ b, b < W.heap.size → w'.heap[b]? = W.heap[b]? := by
  have hX := AM.XB_one (c := w1) (u := [.int .i64 n0, .int .u8 (w2 : Int)]) (by intro v hv; simp only [List.mem_cons, List.not_mem_nil, or_false] at hv; rcases hv with rfl | rfl <;> rfl)
  have key : ∀ ka ca : AM.AV, AM.goF AM.ppT2 2000000 7 [ka, ca, .xi 1 4 0 1] (fun v _ _ => match v with | .b c => c | _ => false) = true → AM.Ok (AM.θ0 (AM.XB w1 [.int .i64 n0, .int .u8 (w2 : Int)]) hX) ka → AM.toV (AM.θ0 (AM.XB w1 [.int .i64 n0, .int .u8 (w2 : Int)]) hX) ka = .int .i64 n0 → AM.Ok (AM.θ0 (AM.XB w1 [.int .i64 n0, .int .u8 (w2 : Int)]) hX) ca → AM.toV (AM.θ0 (AM.XB w1 [.int .i64 n0, .int .u8 (w2 : Int)]) hX) ca = .int .u8 (w1 : Int) →
      Calls Tryz.prog 7 #[.int .i64 n0, .int .u8 w1, .int .u8 w2] W fun r w' => r = .returned (.bool true) ∧ w'.os = W.os ∧ w'.tape = W.tape ∧ w'.output = W.output ∧ W.heap.size ≤ w'.heap.size ∧ ∀ b, b < W.heap.size → w'.heap[b]? = W.heap[b]? := by
    intro ka ca hr hk hkv hok htv
    have := AM.go_true (P := Tryz.prog) AM.pptb2 mo (vs := [ka, ca, .xi 1 4 0 1]) hX ⟨hk, hok, AM.xi_ok (by decide) w2 rfl (Nat.mod_one w2) (by omega), trivial⟩ hr W
    have e : (AM.toVs (AM.θ0 (AM.XB w1 [.int .i64 n0, .int .u8 (w2 : Int)]) hX) [ka, ca, .xi 1 4 0 1]).toArray = #[.int .i64 n0, .int .u8 w1, .int .u8 w2] := by
      simp only [AM.toVs]
      rw [hkv, htv]
      rfl
    rw [e] at this
    exact this
  have hc : ∀ ka : AM.AV, AM.Ok (AM.θ0 (AM.XB w1 [.int .i64 n0, .int .u8 (w2 : Int)]) hX) ka → AM.toV (AM.θ0 (AM.XB w1 [.int .i64 n0, .int .u8 (w2 : Int)]) hX) ka = .int .i64 n0 → AM.goF AM.ppT2 2000000 7 [ka, .i 4 (.ofNat 0), .xi 1 4 0 1] (fun v _ _ => match v with | .b c => c | _ => false) = true → AM.goF AM.ppT2 2000000 7 [ka, .l 4 AM.LA, .xi 1 4 0 1] (fun v _ _ => match v with | .b c => c | _ => false) = true → AM.goF AM.ppT2 2000000 7 [ka, .l 4 AM.LB, .xi 1 4 0 1] (fun v _ _ => match v with | .b c => c | _ => false) = true →
      Calls Tryz.prog 7 #[.int .i64 n0, .int .u8 w1, .int .u8 w2] W fun r w' => r = .returned (.bool true) ∧ w'.os = W.os ∧ w'.tape = W.tape ∧ w'.output = W.output ∧ W.heap.size ≤ w'.heap.size ∧ ∀ b, b < W.heap.size → w'.heap[b]? = W.heap[b]? := by
    intro ka hk hkv rz ra rb
    by_cases h0 : w1 = 0
    · exact key ka (.i 4 (.ofNat 0)) rz hk hkv trivial (by show Value.int .u8 (Int.ofNat 0) = .int .u8 (w1 : Int); rw [h0]; rfl)
    · by_cases h128 : w1 < 128
      · exact key ka (.l 4 AM.LA) ra hk hkv (AM.lane_ok fun j hj => (AM.ln_LA j hj).1) (AM.lane_toV hX h1 ((AM.ln_LA w1 h1).2 (by omega) h128))
      · exact key ka (.l 4 AM.LB) rb hk hkv (AM.lane_ok fun j hj => (AM.ln_LB j hj).1) (AM.lane_toV hX h1 ((AM.ln_LB w1 h1).2 (by omega)))
  by_cases hn : n0 < 0
  · exact hc (.z 0 0) ⟨fun _ => hn, fun h => absurd h (by decide)⟩ rfl AM.pprnz AM.pprna AM.pprnb
  by_cases hm : 8 ≤ n0
  · exact hc (.z 0 8) ⟨fun h => absurd h (by decide), fun _ => hm⟩ rfl AM.pprmz AM.pprma AM.pprmb
  have hk : n0 = 0 ∨ n0 = 1 ∨ n0 = 2 ∨ n0 = 3 ∨ n0 = 4 ∨ n0 = 5 ∨ n0 = 6 ∨ n0 = 7 := by omega
  rcases hk with rfl | rfl | rfl | rfl | rfl | rfl | rfl | rfl
  · exact hc (.i 3 (.ofNat 0)) trivial rfl AM.ppr0z AM.ppr0a AM.ppr0b
  · exact hc (.i 3 (.ofNat 1)) trivial rfl AM.ppr1z AM.ppr1a AM.ppr1b
  · exact hc (.i 3 (.ofNat 2)) trivial rfl AM.ppr2z AM.ppr2a AM.ppr2b
  · exact hc (.i 3 (.ofNat 3)) trivial rfl AM.ppr3z AM.ppr3a AM.ppr3b
  · exact hc (.i 3 (.ofNat 4)) trivial rfl AM.ppr4z AM.ppr4a AM.ppr4b
  · exact hc (.i 3 (.ofNat 5)) trivial rfl AM.ppr5z AM.ppr5a AM.ppr5b
  · exact hc (.i 3 (.ofNat 6)) trivial rfl AM.ppr6z AM.ppr6a AM.ppr6b
  · exact hc (.i 3 (.ofNat 7)) trivial rfl AM.ppr7z AM.ppr7a AM.ppr7b
theorem spec (H : Type) (ds : List (DataW H)) (h : ds.length = Tryz.f7.params.size) : Rows.imageKnowsSpec.fn H ds = { results := [.lit (.bool true)], args := ds } := by
  have h1 : ds.length = 3 := h
  obtain ⟨d0, ds0, rfl⟩ : ∃ d r, ds = d :: r := by cases ds with | nil => simp at h1 | cons d r => exact ⟨d, r, rfl⟩
  obtain ⟨d1, ds1, rfl⟩ : ∃ d r, ds0 = d :: r := by cases ds0 with | nil => simp at h1 | cons d r => exact ⟨d, r, rfl⟩
  obtain ⟨d2, ds2, rfl⟩ : ∃ d r, ds1 = d :: r := by cases ds1 with | nil => simp at h1 | cons d r => exact ⟨d, r, rfl⟩
  have h2 : ds2 = [] := by cases ds2 with | nil => rfl | cons d r => simp at h1
  subst h2
  rfl
theorem rt : Tryz.f7.resultTypes = #[4] := by kernel_rfl
theorem bt : Tryz.prog.underlying 4 = some .bool := by kernel_rfl
theorem ck : AM.argsCk Tryz.prog Tryz.f7.params.toList = true := by kernel_rfl
theorem nv : Rows.imageKnowsSpec.vars = [] := by kernel_rfl
set_option maxRecDepth 100000
theorem lifted (os : Os) (started : os.Started) (H : Type) (enc : TypeId × Value → H) :
    ReturnsInHanded {} Tryz.checked os 7 .any (Rows.imageKnowsSpec.pre6 enc Tryz.prog Tryz.f7 Rows.imageKnowsRow.domain false) (Rows.imageKnowsSpec.post enc Tryz.prog Tryz.f7 false true false false) := by
  refine returnsInHanded_of_change (C := Tryz.checked) own started (by kernel_rfl) Tryz.func7
    (ChangeSpec.witness6 (enc := enc) (C := Tryz.checked) false ⟨#[], #[.int .i64 0, .int .u8 0, .int .u8 0], []⟩ 8 (by kernel_rfl) (by kernel_rfl) (by kernel_rfl) (by kernel_rfl)) ?_
  intro W base args ds gs before hval hW _ _
  refine AM.law_calls (P := Tryz.prog) (f := 7) (fn := Tryz.f7) (s := Rows.imageKnowsSpec) (tb := 4) rt bt laid ck nv (spec H) (fun hs => ?_) hW
  clear hW
  obtain ⟨v0, v1, v2, rfl⟩ := arr3 (show args.size = 3 from hs)
  obtain ⟨n0, rfl⟩ := AM.val_i64 u0 (hval 0 3 _ p0 rfl)
  obtain ⟨w1, rfl, hw1⟩ := AM.val_small u1 AM.has_u8 (hval 1 5 _ p1 rfl)
  obtain ⟨w2, rfl, hw2⟩ := AM.val_small u2 AM.has_u8 (hval 2 5 _ p2 rfl)
  exact run W n0 w1 w2  hw1 hw2
theorem k1 : (Rows.imageKnowsRow.wf (OpenSpec.ofChange Rows.imageKnowsSpec)) = true := by kernel_rfl
theorem k2 : (laidOutB Tryz.prog) = true := by kernel_rfl
theorem k3 : (mapsRowed Tryz.prog) = true := by kernel_rfl
theorem k4 : (Tryz.f7.params.all (Tryz.prog.readableRec ·)) = true := by kernel_rfl
theorem k5 : (namedTie Tryz.prog Rows.imageKnowsRow.named Rows.imageKnowsSpec.vars) = true := by kernel_rfl
theorem k6 : ((Rows.imageKnowsRow.stops == [])) = true := by kernel_rfl
theorem k7 : ((Tryz.prog.stops == [])) = true := by kernel_rfl
theorem k8 : ((Rows.imageKnowsRow.knobs == [])) = true := by kernel_rfl
theorem k9 : ((Tryz.prog.stopKnobs == [])) = true := by kernel_rfl
theorem k10 : ((Rows.imageKnowsRow.inPlace == Tryz.prog.inPlace 7)) = true := by kernel_rfl
theorem k11 : ((Rows.imageKnowsRow.unfollowed == Tryz.prog.unfollowed 7)) = true := by kernel_rfl
theorem k12 : ((Rows.imageKnowsRow.recurses == Tryz.prog.recurses 7)) = true := by kernel_rfl
theorem k13 : ((Rows.imageKnowsRow.named == Tryz.prog.varsNamed 7)) = true := by kernel_rfl
theorem k14 : ((Rows.imageKnowsRow.maps == (Tryz.f7.params.toList ++ Rows.imageKnowsSpec.plain.varTypes Tryz.prog).any (Tryz.prog.mapsRec ·))) = true := by kernel_rfl
theorem k15 : ((Rows.imageKnowsRow.ifaces == (Tryz.f7.params.toList ++ Rows.imageKnowsSpec.plain.varTypes Tryz.prog).any (Tryz.prog.ifacesRec ·))) = true := by kernel_rfl
theorem k16 : ((Rows.imageKnowsRow.mapsOut == Tryz.prog.mapsAmong Tryz.f7.resultTypes.toList)) = true := by kernel_rfl
theorem k17 : ((Rows.imageKnowsRow.loops == (Tryz.f7.params.toList ++ Rows.imageKnowsSpec.plain.varTypes Tryz.prog).any (Tryz.prog.loopsFrom ·))) = true := by kernel_rfl
theorem k18 : ((Rows.imageKnowsRow.wideKeys == (Tryz.f7.params.toList ++ Rows.imageKnowsSpec.plain.varTypes Tryz.prog ++ Tryz.f7.resultTypes.toList).any (Tryz.prog.wideKeysFrom ·))) = true := by kernel_rfl
theorem k19 : (Rows.imageKnowsSpec.vars.all (Tryz.prog.varReadable ·)) = true := by kernel_rfl
theorem k20 : (Tryz.f7.resultTypes.all (fun t => Tryz.prog.readableRec t && decide (t < Tryz.prog.types.size))) = true := by kernel_rfl
theorem k21 : ((Rows.imageKnowsRow.ifacesOut == Tryz.f7.resultTypes.toList.any (Tryz.prog.ifacesRec ·))) = true := by kernel_rfl
theorem k22 : ((Rows.imageKnowsRow.loopsOut == Tryz.f7.resultTypes.toList.any (Tryz.prog.loopsFrom ·))) = true := by kernel_rfl
theorem k23 : ((Rows.imageKnowsRow.plainKeys == Tryz.prog.plainKeys)) = true := by kernel_rfl
theorem k24 : (Rows.imageKnowsRow.shortTexts.isNone) = true := by kernel_rfl
theorem k25 : (Tryz.prog.stopsHeard) = true := by kernel_rfl
theorem k26 : (Tryz.prog.mayEnter) = true := by kernel_rfl
theorem k27 : ((Rows.imageKnowsRow.lifted == Tryz.prog.liftsFinal)) = true := by kernel_rfl
theorem k28 : ((Tryz.prog.make == some Rows.imageKnowsRow.make)) = true := by kernel_rfl
theorem k29 : ((Rows.imageKnowsRow.kinds == (if Rows.imageKnowsRow.domain.isEmpty then [] else Tryz.f7.params.toList.map fun t => match Tryz.prog.underlying t with | some (.int k) => some k | _ => none))) = true := by kernel_rfl
theorem k30 : ((Rows.imageKnowsRow.pinned == Rows.imageKnowsRow.pinnedBy)) = true := by kernel_rfl
theorem k31 : ((Rows.imageKnowsRow.veiled == (Tryz.f7.params.toList ++ Rows.imageKnowsSpec.plain.varTypes Tryz.prog ++ Tryz.f7.resultTypes.toList).any (Tryz.prog.veiledRec ·))) = true := by kernel_rfl
theorem k32 : (Rows.imageKnowsRow.veiledFits Tryz.prog Tryz.f7.params.toList (Tryz.f7.params.toList ++ Rows.imageKnowsSpec.plain.varTypes Tryz.prog ++ Tryz.f7.resultTypes.toList)) = true := by kernel_rfl
theorem over : Rows.imageKnowsRow.holds Tryz.pinned (OpenSpec.ofChange Rows.imageKnowsSpec) :=
  OpenClaim.holds_of_wide 7 Tryz.f7 rfl rfl rfl rfl rfl rfl rfl ⟨rfl, rfl, rfl, rfl, rfl⟩ rfl rfl rfl rfl rfl (by kernel_rfl) Tryz.func7 (AM.joined_of (P := Tryz.prog) k1 k2 k3 k4 k5 k6 k7 k8 k9 k10 k11 k12 k13 k14 k15 k16 k17 k18 k19 k20 k21 k22 k23 k24 k25 k26 k27 k28 k29 k30 k31 k32)
    (of_decide_eq_true (by kernel_rfl)) (by unfold Func.isWrapper; first | (rw [if_pos (by decide +kernel)]; kernel_rfl) | (rw [if_neg (by decide +kernel)]; exact ⟨rfl, rfl⟩))
    (fun os started H enc _ => lifted os started H enc)
end Go.Proofs.YtmhhaimpignndaaGreat.imageKnows
namespace Go.Proofs.YtmhhaimpignndaaGreat
theorem imageKnows_holds : Rows.ImageKnowsSaid := imageKnows.over
end Go.Proofs.YtmhhaimpignndaaGreat
