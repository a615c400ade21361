/-
  The law ShellFalls: what was flushed is read behind a fall, whatever was written since and stayed; what was not flushed is not; a file is repaired to no faults. Conditions: that the listed tables of Go's library hold what start-up lays, which the card ties.
-/
import Derived.Test.YtnpimhboonddjaaGreatDoorCards
import Derived.Test.YtnpimhboonddjaaGreatDoorTie
import Derived.WalkKit
import Derived.ProofKit
import Derived.OpenShut
import Derived.JoinedCond
import Derived.LaidMore
import Derived.Lib.LaidTab
import Derived.MakeChecks
import Derived.SevenTiedAt
import Derived.Test.YtnpimhboonddjaaGreatDoorC7
import Derived.Test.YtnpimhboonddjaaGreatDoorCxM28K
namespace Go.Proofs.YtnpimhboonddjaaGreatDoor.shellFalls
open Go.ChangeShapes Go.WideShapes Go.ChangeAt Go.RowKit

theorem own : ownKnob Tryz.prog.godebug = none := by kernel_rfl
theorem laid : laidOutB Tryz.prog = true := by kernel_rfl
theorem mo : Tryz.prog.follows .mixedOrders = true := by kernel_rfl
theorem p0 : Tryz.f3.params[0]? = some 5 := by kernel_rfl
theorem p1 : Tryz.f3.params[1]? = some 5 := by kernel_rfl
theorem p2 : Tryz.f3.params[2]? = some 5 := by kernel_rfl
theorem p3 : Tryz.f3.params[3]? = some 5 := by kernel_rfl
theorem u0 : Tryz.prog.underlying 5 = some (.int .u8) := by kernel_rfl
theorem arr4 {args : Array Value} (h : args.size = 4) : ∃ y0 y1 y2 y3, args = #[y0, y1, y2, y3] := by
  obtain ⟨l⟩ := args
  match l, h with
  | [y0, y1, y2, y3], _ => exact ⟨y0, y1, y2, y3, rfl⟩
theorem gTab : Tryz.prog.globalNamed "math/bits.deBruijn64tab" = some 7 := by kernel_rfl
theorem gType : (Tryz.prog.globals[7]?).map (·.type) = some 469 := by kernel_rfl
theorem uTab : Tryz.prog.underlying 469 = some (.array 64 5) := by kernel_rfl
theorem cellsTab : Tryz.prog.cellsOf 469 = 64 := by kernel_rfl
theorem cells5 : Tryz.prog.cellsOf 5 = 1 := by kernel_rfl
def tab : List Int := [0, 1, 56, 2, 57, 49, 28, 3, 61, 58, 42, 50, 38, 29, 17, 4, 62, 47, 59, 36, 45, 43, 51, 22, 53, 39, 33, 30, 24, 18, 12, 5, 63, 55, 48, 27, 60, 41, 37, 16, 46, 35, 44, 21, 52, 32, 23, 11, 54, 26, 40, 15, 34, 20, 31, 10, 25, 14, 19, 9, 13, 8, 7, 6]
/-- what the listed table gives the run -/
theorem glo {W : World} (h : laidMetH Tryz.prog Rows.shellFallsRow.laid W) : AM.GloW Tryz.prog W := by
  rw [MakeChecks.laidMetH_plain _ _ _ (by kernel_rfl)] at h
  obtain ⟨ps, ⟨g0, t0, cs0, f0, p0, q0, hg0, ht0, hv0, hd0, ⟨g1, t1, cs1, f1, p1, q1, hg1, ht1, hv1, hd1, _, _⟩, _⟩, _, _⟩ := h
  intro g hg
  obtain rfl := Option.some.inj (gTab.symm.trans hg)
  obtain rfl := Option.some.inj (gTab.symm.trans hg1)
  obtain rfl := Option.some.inj (gType.symm.trans ht1)
  have hcs := Lib.cells_of_tab (zs := tab) (k := .u8) uTab u0 cells5 cellsTab hd1
  have := World.var?_cell hg1 hv1 15
  rw [this, ← Array.getElem?_toList, hcs]
  rfl
theorem spec (H : Type) (ds : List (DataW H)) (h : ds.length = Tryz.f3.params.size) : Rows.shellFallsSpec.fn H ds = { results := [.lit (.bool true)], args := ds } := by
  have h1 : ds.length = 4 := h
  match ds, h1 with
  | [_, _, _, _], _ => rfl
theorem rt : Tryz.f3.resultTypes = #[4] := by kernel_rfl
theorem bt : Tryz.prog.underlying 4 = some .bool := by kernel_rfl
theorem ck : AM.argsCk Tryz.prog Tryz.f3.params.toList = true := by kernel_rfl
theorem nv : Rows.shellFallsSpec.vars = [] := by kernel_rfl
/-- the numbers of a table of the form's own -/
def numsOf (d : DataW Unit) : Array Value := match d with
  | .agg l => (l.map fun | .lit (.int k n) => Value.int k n | _ => .bool false).toArray
  | _ => #[]
/-- a start that meets the condition: what the door's run leaves, and the pinned table -/
noncomputable def laidWorld (os : Os) : World := { World.doorLaid Tryz.prog 72 os with heap := (World.doorLaid Tryz.prog 72 os).heap.modify 2 fun
  | .cells _ t fz => .cells (numsOf Go.Pinned.utf8First) t fz
  | o => o }
set_option maxRecDepth 100000
theorem door_met (os : Os) (args : Array Value) : laidMetH Tryz.prog Rows.shellFallsRow.laid ((laidWorld os).forCall (fun _ _ => 0) ⟨#[], args, []⟩).memory :=
  laidMetH_of_parts3 (fuel := 8) (laidMet_of_run' 8 (by kernel_rfl) (by kernel_rfl)) (by kernel_rfl) (by kernel_rfl)
theorem lifted (os : Os) (started : os.Started) (H : Type) (enc : TypeId × Value → H) :
    ReturnsInHanded {} Tryz.checked os 3 .any (fun w args => (Rows.shellFallsSpec.pre enc Tryz.prog Tryz.f3 [] false w args ∧ laidMetH Tryz.prog Rows.shellFallsRow.laid w) ∧ sizedMet enc Tryz.prog Tryz.f3 (OpenSpec.ofChange Rows.shellFallsSpec) false w args)
      (Rows.shellFallsSpec.post enc Tryz.prog Tryz.f3 false true false false) := by
  refine returnsInHanded_of_change_and (C := Tryz.checked) (X := fun w _ => laidMetH Tryz.prog Rows.shellFallsRow.laid w) (fun _ _ _ hh h => h.of_heap hh) own started (by kernel_rfl) Tryz.func3
    (ChangeSpec.witness_shaped (enc := enc) (C := Tryz.checked) (os := os) (X := fun w _ => laidMetH Tryz.prog Rows.shellFallsRow.laid w) false (laidWorld os) #[.int .u8 0, .int .u8 0, .int .u8 0, .int .u8 0] 8 rfl (World.shaped_of_RefB (by kernel_rfl) (by kernel_rfl)) (by kernel_rfl) (by kernel_rfl) (by kernel_rfl) (door_met os _)) ?_
  intro W base args ds gs before hval hW _ _ hL _
  have hg := glo hL
  refine AM.law_calls (P := Tryz.prog) (f := 3) (fn := Tryz.f3) (s := Rows.shellFallsSpec) (tb := 4) rt bt laid ck nv (spec H) (fun hs => ?_) hW
  clear hW
  obtain ⟨v0, v1, v2, v3, rfl⟩ := arr4 (show args.size = 4 from hs)
  obtain ⟨w0, rfl, hw0⟩ := AM.val_small u0 AM.has_u8 (hval 0 5 _ p0 rfl)
  obtain ⟨w1, rfl, hw1⟩ := AM.val_small u0 AM.has_u8 (hval 1 5 _ p1 rfl)
  obtain ⟨w2, rfl, hw2⟩ := AM.val_small u0 AM.has_u8 (hval 2 5 _ p2 rfl)
  obtain ⟨w3, rfl, hw3⟩ := AM.val_small u0 AM.has_u8 (hval 3 5 _ p3 rfl)
  exact AM.clAll hw0 hw1 hw2 hw3 W hg
theorem k1 : (Rows.shellFallsRow.wf (OpenSpec.ofChange Rows.shellFallsSpec)) = true := by kernel_rfl
theorem k2 : (laidOutB Tryz.prog) = true := by kernel_rfl
theorem k3 : (mapsRowed Tryz.prog) = true := by kernel_rfl
theorem k4 : (Tryz.f3.params.all (Tryz.prog.readableRec ·)) = true := by kernel_rfl
theorem k5 : (namedTie Tryz.prog Rows.shellFallsRow.named Rows.shellFallsSpec.vars) = true := by kernel_rfl
theorem k6 : ((Rows.shellFallsRow.stops == [])) = true := by kernel_rfl
theorem k7 : ((Tryz.prog.stops == [])) = true := by kernel_rfl
theorem k8 : ((Rows.shellFallsRow.knobs == [])) = true := by kernel_rfl
theorem k9 : ((Tryz.prog.stopKnobs == [])) = true := by kernel_rfl
theorem k10 : ((Rows.shellFallsRow.inPlace == Tryz.prog.inPlace 3)) = true := by kernel_rfl
theorem k11 : ((Rows.shellFallsRow.unfollowed == Tryz.prog.unfollowed 3)) = true := by kernel_rfl
theorem k12 : ((Rows.shellFallsRow.recurses == Tryz.prog.recurses 3)) = true := by kernel_rfl
theorem k13 : ((Rows.shellFallsRow.named == Tryz.prog.varsNamed 3)) = true := by kernel_rfl
theorem k14 : ((Rows.shellFallsRow.maps == (Tryz.f3.params.toList ++ Rows.shellFallsSpec.plain.varTypes Tryz.prog).any (Tryz.prog.mapsRec ·))) = true := by kernel_rfl
theorem k15 : ((Rows.shellFallsRow.ifaces == (Tryz.f3.params.toList ++ Rows.shellFallsSpec.plain.varTypes Tryz.prog).any (Tryz.prog.ifacesRec ·))) = true := by kernel_rfl
theorem k16 : ((Rows.shellFallsRow.mapsOut == Tryz.prog.mapsAmong Tryz.f3.resultTypes.toList)) = true := by kernel_rfl
theorem k17 : ((Rows.shellFallsRow.loops == (Tryz.f3.params.toList ++ Rows.shellFallsSpec.plain.varTypes Tryz.prog).any (Tryz.prog.loopsFrom ·))) = true := by kernel_rfl
theorem k18 : ((Rows.shellFallsRow.wideKeys == (Tryz.f3.params.toList ++ Rows.shellFallsSpec.plain.varTypes Tryz.prog ++ Tryz.f3.resultTypes.toList).any (Tryz.prog.wideKeysFrom ·))) = true := by kernel_rfl
theorem k19 : (Rows.shellFallsSpec.vars.all (Tryz.prog.varReadable ·)) = true := by kernel_rfl
theorem k20 : (Tryz.f3.resultTypes.all (fun t => Tryz.prog.readableRec t && decide (t < Tryz.prog.types.size))) = true := by kernel_rfl
theorem k21 : ((Rows.shellFallsRow.ifacesOut == Tryz.f3.resultTypes.toList.any (Tryz.prog.ifacesRec ·))) = true := by kernel_rfl
theorem k22 : ((Rows.shellFallsRow.loopsOut == Tryz.f3.resultTypes.toList.any (Tryz.prog.loopsFrom ·))) = true := by kernel_rfl
theorem k23 : ((Rows.shellFallsRow.plainKeys == Tryz.prog.plainKeys)) = true := by kernel_rfl
theorem k24 : (Rows.shellFallsRow.shortTexts.isNone) = true := by kernel_rfl
theorem k25 : (Tryz.prog.stopsHeard) = true := by kernel_rfl
theorem k26 : (Tryz.prog.mayEnter) = true := by kernel_rfl
theorem k27 : ((Rows.shellFallsRow.lifted == Tryz.prog.liftsFinal)) = true := by kernel_rfl
theorem k28 : ((Tryz.prog.make == some Rows.shellFallsRow.make)) = true := by kernel_rfl
theorem k29 : ((Rows.shellFallsRow.kinds == (if Rows.shellFallsRow.domain.isEmpty then [] else Tryz.f3.params.toList.map fun t => match Tryz.prog.underlying t with | some (.int k) => some k | _ => none))) = true := by kernel_rfl
theorem k30 : ((Rows.shellFallsRow.pinned == Rows.shellFallsRow.pinnedBy)) = true := by kernel_rfl
theorem k31 : ((Rows.shellFallsRow.veiled == (Tryz.f3.params.toList ++ Rows.shellFallsSpec.plain.varTypes Tryz.prog ++ Tryz.f3.resultTypes.toList).any (Tryz.prog.veiledRec ·))) = true := by kernel_rfl
theorem k32 : (Rows.shellFallsRow.veiledFits Tryz.prog Tryz.f3.params.toList (Tryz.f3.params.toList ++ Rows.shellFallsSpec.plain.varTypes Tryz.prog ++ Tryz.f3.resultTypes.toList)) = true := by kernel_rfl
theorem over : Rows.ShellFallsSaid :=
  OpenClaim.holds_of_wide 3 Tryz.f3 rfl rfl rfl rfl rfl rfl rfl ⟨rfl, rfl, rfl, rfl, rfl⟩ rfl rfl rfl rfl rfl (by kernel_rfl) Tryz.func3 (AM.joined_of (P := Tryz.prog) k1 k2 k3 k4 k5 k6 k7 k8 k9 k10 k11 k12 k13 k14 k15 k16 k17 k18 k19 k20 k21 k22 k23 k24 k25 k26 k27 k28 k29 k30 k31 k32)
    (of_decide_eq_true (by kernel_rfl)) (by unfold Func.isWrapper; first | (rw [if_pos (by decide +kernel)]; kernel_rfl) | (rw [if_neg (by decide +kernel)]; exact ⟨rfl, rfl⟩))
    (fun os started H enc _ => lifted os started H enc)
end Go.Proofs.YtnpimhboonddjaaGreatDoor.shellFalls
