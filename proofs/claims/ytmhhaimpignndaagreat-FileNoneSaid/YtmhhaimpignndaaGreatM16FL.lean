/-
  The law FileNone: A file that is short, or of noughts, or is not there, is no image's. Conditions: none.
-/
import Derived.Test.YtmhhaimpignndaaGreatRows
import Derived.WalkKit
import Derived.ProofKit
import Derived.OpenShut
import Derived.JoinedCond
import Derived.Test.YtmhhaimpignndaaGreatAmLz
import Derived.Test.YtmhhaimpignndaaGreatM16FOO
import Derived.Test.YtmhhaimpignndaaGreatM16FA0
import Derived.Test.YtmhhaimpignndaaGreatM16FA8
import Derived.Test.YtmhhaimpignndaaGreatM16FA16
import Derived.Test.YtmhhaimpignndaaGreatM16FA24
namespace Go.Proofs.YtmhhaimpignndaaGreat.fileNone
open Go.ChangeShapes Go.WideShapes Go.ChangeAt Go.RowKit

theorem own : ownKnob Tryz.prog.godebug = none := by kernel_rfl
theorem laid : laidOutB Tryz.prog = true := by kernel_rfl
theorem mo : Tryz.prog.follows .mixedOrders = true := by kernel_rfl
theorem p0 : Tryz.f3.params[0]? = some 5 := by kernel_rfl
theorem u0 : Tryz.prog.underlying 5 = some (.int .u8) := by kernel_rfl
theorem p1 : Tryz.f3.params[1]? = some 9 := by kernel_rfl
theorem u1 : Tryz.prog.underlying 9 = some .string := by kernel_rfl
theorem arr2 {args : Array Value} (h : args.size = 2) : ∃ y0 y1, args = #[y0, y1] := by
  obtain ⟨l⟩ := args
  match l, h with
  | [y0, y1], _ => exact ⟨y0, y1, rfl⟩
theorem run (W : World) (w0 : Nat) (s1 : ByteArray) (h0 : w0 < 256) :
    Calls Tryz.prog 3 #[.int .u8 w0, .string s1] W fun r w' => r = .returned (.bool true) ∧ w'.os = W.os ∧ w'.tape = W.tape ∧ w'.output = W.output ∧ W.heap.size ≤ w'.heap.size ∧ ∀ b, b < W.heap.size → w'.heap[b]? = W.heap[b]? := by
  have hX : ∀ n, ((AM.XL [.string s1, .int .u8 (w0 : Int)]) n).oneCell' = true := AM.XL_one (by intro v hv; simp only [List.mem_cons, List.not_mem_nil, or_false] at hv; rcases hv with rfl | rfl <;> rfl)
  have key : ∀ na sa : AM.AV, AM.goF AM.ppT2 2000000 3 [na, sa] (fun v _ _ => match v with | .b c => c | _ => false) = true → AM.Ok (AM.θ0 (AM.XL [.string s1, .int .u8 (w0 : Int)]) hX) na → AM.toV (AM.θ0 (AM.XL [.string s1, .int .u8 (w0 : Int)]) hX) na = .int .u8 (w0 : Int) → AM.Ok (AM.θ0 (AM.XL [.string s1, .int .u8 (w0 : Int)]) hX) sa → AM.toV (AM.θ0 (AM.XL [.string s1, .int .u8 (w0 : Int)]) hX) sa = .string s1 →
      Calls Tryz.prog 3 #[.int .u8 w0, .string s1] W fun r w' => r = .returned (.bool true) ∧ w'.os = W.os ∧ w'.tape = W.tape ∧ w'.output = W.output ∧ W.heap.size ≤ w'.heap.size ∧ ∀ b, b < W.heap.size → w'.heap[b]? = W.heap[b]? := by
    intro na sa hr hk hkv hok htv
    have := AM.go_true (P := Tryz.prog) AM.pptb2 mo (vs := [na, sa]) hX ⟨hk, hok, trivial⟩ hr W
    have e : (AM.toVs (AM.θ0 (AM.XL [.string s1, .int .u8 (w0 : Int)]) hX) [na, sa]).toArray = #[.int .u8 w0, .string s1] := by
      simp only [AM.toVs]
      rw [hkv, htv]
    rw [e] at this
    exact this
  have hne : ∀ m : Nat, (s1 == AM.bytesOf [102]) = false → (m = 0 → s1.size ≤ 100) → (0 < m → 100 < s1.size) → AM.Ok (AM.θ0 (AM.XL [.string s1, .int .u8 (w0 : Int)]) hX) (.xi 0 8 102 m) := fun m h1 h2 h3 =>
    .inr ⟨by decide, .inr ⟨by decide, by decide, by decide, s1, rfl, h1, AM.bytes_ne_symm h1, h2, h3⟩⟩
  by_cases hl : 100 < s1.size
  · have hs : (s1 == AM.bytesOf [102]) = false := by
      cases e : (s1 == AM.bytesOf [102]) with
      | false => rfl
      | true =>
        have := AM.bytes_of_beq e
        subst this
        rw [AM.bytes_size] at hl
        simp at hl
    exact key (.x 1) (.xi 0 8 102 1) AM.ppl trivial rfl (hne 1 hs (fun h => absurd h (by decide)) (fun _ => hl)) rfl
  have hd : w0 = 8 * (w0 / 8) + w0 % 8 := (Nat.div_add_mod w0 8).symm
  have hj : w0 % 8 < 8 := Nat.mod_lt _ (by decide)
  have hi : w0 / 8 < 32 := by omega
  generalize w0 / 8 = i at hd hi
  generalize w0 % 8 = j at hd hj
  have hnv : AM.toV (AM.θ0 (AM.XL [.string s1, .int .u8 (w0 : Int)]) hX) (.i 4 (.ofNat (8 * i + j))) = .int .u8 (w0 : Int) := by
    show Value.int .u8 (Int.ofNat (8 * i + j)) = .int .u8 (w0 : Int)
    rw [hd]; rfl
  cases hs : (s1 == AM.bytesOf [102]) with
  | true =>
    have hs := AM.bytes_of_beq hs
    refine key (.i 4 (.ofNat (8 * i + j))) (.s [102]) ?_ trivial hnv (by intro x hx; simp at hx; omega) (by show Value.string (AM.bytesOf [102]) = .string s1; rw [hs])
    clear hnv hd
    match i, hi with
    | 0, _ => exact AM.ppfb0 j hj
    | 1, _ => exact AM.ppfb1 j hj
    | 2, _ => exact AM.ppfb2 j hj
    | 3, _ => exact AM.ppfb3 j hj
    | 4, _ => exact AM.ppfb4 j hj
    | 5, _ => exact AM.ppfb5 j hj
    | 6, _ => exact AM.ppfb6 j hj
    | 7, _ => exact AM.ppfb7 j hj
    | 8, _ => exact AM.ppfb8 j hj
    | 9, _ => exact AM.ppfb9 j hj
    | 10, _ => exact AM.ppfb10 j hj
    | 11, _ => exact AM.ppfb11 j hj
    | 12, _ => exact AM.ppfb12 j hj
    | 13, _ => exact AM.ppfb13 j hj
    | 14, _ => exact AM.ppfb14 j hj
    | 15, _ => exact AM.ppfb15 j hj
    | 16, _ => exact AM.ppfb16 j hj
    | 17, _ => exact AM.ppfb17 j hj
    | 18, _ => exact AM.ppfb18 j hj
    | 19, _ => exact AM.ppfb19 j hj
    | 20, _ => exact AM.ppfb20 j hj
    | 21, _ => exact AM.ppfb21 j hj
    | 22, _ => exact AM.ppfb22 j hj
    | 23, _ => exact AM.ppfb23 j hj
    | 24, _ => exact AM.ppfb24 j hj
    | 25, _ => exact AM.ppfb25 j hj
    | 26, _ => exact AM.ppfb26 j hj
    | 27, _ => exact AM.ppfb27 j hj
    | 28, _ => exact AM.ppfb28 j hj
    | 29, _ => exact AM.ppfb29 j hj
    | 30, _ => exact AM.ppfb30 j hj
    | 31, _ => exact AM.ppfb31 j hj
    | i + 32, hi => omega
  | false =>
    refine key (.i 4 (.ofNat (8 * i + j))) (.xi 0 8 102 0) ?_ trivial hnv (hne 0 hs (fun _ => by omega) (fun h => absurd h (by decide))) rfl
    clear hnv hd
    match i, hi with
    | 0, _ => exact AM.ppob0 j hj
    | 1, _ => exact AM.ppob1 j hj
    | 2, _ => exact AM.ppob2 j hj
    | 3, _ => exact AM.ppob3 j hj
    | 4, _ => exact AM.ppob4 j hj
    | 5, _ => exact AM.ppob5 j hj
    | 6, _ => exact AM.ppob6 j hj
    | 7, _ => exact AM.ppob7 j hj
    | 8, _ => exact AM.ppob8 j hj
    | 9, _ => exact AM.ppob9 j hj
    | 10, _ => exact AM.ppob10 j hj
    | 11, _ => exact AM.ppob11 j hj
    | 12, _ => exact AM.ppob12 j hj
    | 13, _ => exact AM.ppob13 j hj
    | 14, _ => exact AM.ppob14 j hj
    | 15, _ => exact AM.ppob15 j hj
    | 16, _ => exact AM.ppob16 j hj
    | 17, _ => exact AM.ppob17 j hj
    | 18, _ => exact AM.ppob18 j hj
    | 19, _ => exact AM.ppob19 j hj
    | 20, _ => exact AM.ppob20 j hj
    | 21, _ => exact AM.ppob21 j hj
    | 22, _ => exact AM.ppob22 j hj
    | 23, _ => exact AM.ppob23 j hj
    | 24, _ => exact AM.ppob24 j hj
    | 25, _ => exact AM.ppob25 j hj
    | 26, _ => exact AM.ppob26 j hj
    | 27, _ => exact AM.ppob27 j hj
    | 28, _ => exact AM.ppob28 j hj
    | 29, _ => exact AM.ppob29 j hj
    | 30, _ => exact AM.ppob30 j hj
    | 31, _ => exact AM.ppob31 j hj
    | i + 32, hi => omega
theorem spec (H : Type) (ds : List (DataW H)) (h : ds.length = Tryz.f3.params.size) : Rows.fileNoneSpec.fn H ds = { results := [.lit (.bool true)], args := ds } := by
  have h1 : ds.length = 2 := h
  obtain ⟨d0, ds0, rfl⟩ : ∃ d r, ds = d :: r := by cases ds with | nil => simp at h1 | cons d r => exact ⟨d, r, rfl⟩
  obtain ⟨d1, ds1, rfl⟩ : ∃ d r, ds0 = d :: r := by cases ds0 with | nil => simp at h1 | cons d r => exact ⟨d, r, rfl⟩
  have h2 : ds1 = [] := by cases ds1 with | nil => rfl | cons d r => simp at h1
  subst h2
  rfl
theorem rt : Tryz.f3.resultTypes = #[4] := by kernel_rfl
theorem bt : Tryz.prog.underlying 4 = some .bool := by kernel_rfl
theorem ck : AM.argsCk Tryz.prog Tryz.f3.params.toList = true := by kernel_rfl
theorem nv : Rows.fileNoneSpec.vars = [] := by kernel_rfl
set_option maxRecDepth 100000
theorem lifted (os : Os) (started : os.Started) (H : Type) (enc : TypeId × Value → H) :
    ReturnsInHanded {} Tryz.checked os 3 .any (Rows.fileNoneSpec.pre6 enc Tryz.prog Tryz.f3 Rows.fileNoneRow.domain false) (Rows.fileNoneSpec.post enc Tryz.prog Tryz.f3 false true false false) := by
  refine returnsInHanded_of_change (C := Tryz.checked) own started (by kernel_rfl) Tryz.func3
    (ChangeSpec.witness6 (enc := enc) (C := Tryz.checked) false ⟨#[], #[.int .u8 0, .string ⟨#[]⟩], []⟩ 8 (by kernel_rfl) (by kernel_rfl) (by kernel_rfl) (by kernel_rfl)) ?_
  intro W base args ds gs before hval hW _ _
  refine AM.law_calls (P := Tryz.prog) (f := 3) (fn := Tryz.f3) (s := Rows.fileNoneSpec) (tb := 4) rt bt laid ck nv (spec H) (fun hs => ?_) hW
  clear hW
  obtain ⟨v0, v1, rfl⟩ := arr2 (show args.size = 2 from hs)
  obtain ⟨w0, rfl, hw0⟩ := AM.val_small u0 AM.has_u8 (hval 0 5 _ p0 rfl)
  obtain ⟨s1, rfl⟩ := AM.val_str u1 (hval 1 9 _ p1 rfl)
  exact run W w0 s1 hw0 
theorem k1 : (Rows.fileNoneRow.wf (OpenSpec.ofChange Rows.fileNoneSpec)) = true := by kernel_rfl
theorem k2 : (laidOutB Tryz.prog) = true := by kernel_rfl
theorem k3 : (mapsRowed Tryz.prog) = true := by kernel_rfl
theorem k4 : (Tryz.f3.params.all (Tryz.prog.readableRec ·)) = true := by kernel_rfl
theorem k5 : (namedTie Tryz.prog Rows.fileNoneRow.named Rows.fileNoneSpec.vars) = true := by kernel_rfl
theorem k6 : ((Rows.fileNoneRow.stops == [])) = true := by kernel_rfl
theorem k7 : ((Tryz.prog.stops == [])) = true := by kernel_rfl
theorem k8 : ((Rows.fileNoneRow.knobs == [])) = true := by kernel_rfl
theorem k9 : ((Tryz.prog.stopKnobs == [])) = true := by kernel_rfl
theorem k10 : ((Rows.fileNoneRow.inPlace == Tryz.prog.inPlace 3)) = true := by kernel_rfl
theorem k11 : ((Rows.fileNoneRow.unfollowed == Tryz.prog.unfollowed 3)) = true := by kernel_rfl
theorem k12 : ((Rows.fileNoneRow.recurses == Tryz.prog.recurses 3)) = true := by kernel_rfl
theorem k13 : ((Rows.fileNoneRow.named == Tryz.prog.varsNamed 3)) = true := by kernel_rfl
theorem k14 : ((Rows.fileNoneRow.maps == (Tryz.f3.params.toList ++ Rows.fileNoneSpec.plain.varTypes Tryz.prog).any (Tryz.prog.mapsRec ·))) = true := by kernel_rfl
theorem k15 : ((Rows.fileNoneRow.ifaces == (Tryz.f3.params.toList ++ Rows.fileNoneSpec.plain.varTypes Tryz.prog).any (Tryz.prog.ifacesRec ·))) = true := by kernel_rfl
theorem k16 : ((Rows.fileNoneRow.mapsOut == Tryz.prog.mapsAmong Tryz.f3.resultTypes.toList)) = true := by kernel_rfl
theorem k17 : ((Rows.fileNoneRow.loops == (Tryz.f3.params.toList ++ Rows.fileNoneSpec.plain.varTypes Tryz.prog).any (Tryz.prog.loopsFrom ·))) = true := by kernel_rfl
theorem k18 : ((Rows.fileNoneRow.wideKeys == (Tryz.f3.params.toList ++ Rows.fileNoneSpec.plain.varTypes Tryz.prog ++ Tryz.f3.resultTypes.toList).any (Tryz.prog.wideKeysFrom ·))) = true := by kernel_rfl
theorem k19 : (Rows.fileNoneSpec.vars.all (Tryz.prog.varReadable ·)) = true := by kernel_rfl
theorem k20 : (Tryz.f3.resultTypes.all (fun t => Tryz.prog.readableRec t && decide (t < Tryz.prog.types.size))) = true := by kernel_rfl
theorem k21 : ((Rows.fileNoneRow.ifacesOut == Tryz.f3.resultTypes.toList.any (Tryz.prog.ifacesRec ·))) = true := by kernel_rfl
theorem k22 : ((Rows.fileNoneRow.loopsOut == Tryz.f3.resultTypes.toList.any (Tryz.prog.loopsFrom ·))) = true := by kernel_rfl
theorem k23 : ((Rows.fileNoneRow.plainKeys == Tryz.prog.plainKeys)) = true := by kernel_rfl
theorem k24 : (Rows.fileNoneRow.shortTexts.isNone) = true := by kernel_rfl
theorem k25 : (Tryz.prog.stopsHeard) = true := by kernel_rfl
theorem k26 : (Tryz.prog.mayEnter) = true := by kernel_rfl
theorem k27 : ((Rows.fileNoneRow.lifted == Tryz.prog.liftsFinal)) = true := by kernel_rfl
theorem k28 : ((Tryz.prog.make == some Rows.fileNoneRow.make)) = true := by kernel_rfl
theorem k29 : ((Rows.fileNoneRow.kinds == (if Rows.fileNoneRow.domain.isEmpty then [] else Tryz.f3.params.toList.map fun t => match Tryz.prog.underlying t with | some (.int k) => some k | _ => none))) = true := by kernel_rfl
theorem k30 : ((Rows.fileNoneRow.pinned == Rows.fileNoneRow.pinnedBy)) = true := by kernel_rfl
theorem k31 : ((Rows.fileNoneRow.veiled == (Tryz.f3.params.toList ++ Rows.fileNoneSpec.plain.varTypes Tryz.prog ++ Tryz.f3.resultTypes.toList).any (Tryz.prog.veiledRec ·))) = true := by kernel_rfl
theorem k32 : (Rows.fileNoneRow.veiledFits Tryz.prog Tryz.f3.params.toList (Tryz.f3.params.toList ++ Rows.fileNoneSpec.plain.varTypes Tryz.prog ++ Tryz.f3.resultTypes.toList)) = true := by kernel_rfl
theorem over : Rows.fileNoneRow.holds Tryz.pinned (OpenSpec.ofChange Rows.fileNoneSpec) :=
  OpenClaim.holds_of_wide 3 Tryz.f3 rfl rfl rfl rfl rfl rfl rfl ⟨rfl, rfl, rfl, rfl, rfl⟩ rfl rfl rfl rfl rfl (by kernel_rfl) Tryz.func3 (AM.joined_of (P := Tryz.prog) k1 k2 k3 k4 k5 k6 k7 k8 k9 k10 k11 k12 k13 k14 k15 k16 k17 k18 k19 k20 k21 k22 k23 k24 k25 k26 k27 k28 k29 k30 k31 k32)
    (of_decide_eq_true (by kernel_rfl)) (by unfold Func.isWrapper; first | (rw [if_pos (by decide +kernel)]; kernel_rfl) | (rw [if_neg (by decide +kernel)]; exact ⟨rfl, rfl⟩))
    (fun os started H enc _ => lifted os started H enc)
end Go.Proofs.YtmhhaimpignndaaGreat.fileNone
namespace Go.Proofs.YtmhhaimpignndaaGreat
theorem fileNone_holds : Rows.FileNoneSaid := fileNone.over
end Go.Proofs.YtmhhaimpignndaaGreat
