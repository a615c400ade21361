/-
  AM, 35: the facts of a row, one by one. Conditions: none.
-/
import Derived.Test.YtniakcilpolneaaGreatDoorAmZb
import Derived.JoinedCond
import Derived.JoinedOf
import Derived.Test.YtniakcilpolneaaGreatDoorAmLn
namespace Go.AM
open Go Go.ChangeShapes Go.WideShapes Go.ChangeAt Go.RowKit

theorem joined_of {P : Program} {f : FuncId} {fn : Func} {s : ChangeSpec} {c : OpenClaim}
    (k1 : (c.wf (OpenSpec.ofChange s)) = true)
    (k2 : (laidOutB P) = true)
    (k3 : (mapsRowed P) = true)
    (k4 : (fn.params.all (P.readableRec ·)) = true)
    (k5 : (namedTie P c.named s.vars) = true)
    (k6 : ((c.stops == [])) = true)
    (k7 : ((P.stops == [])) = true)
    (k8 : ((c.knobs == [])) = true)
    (k9 : ((P.stopKnobs == [])) = true)
    (k10 : ((c.inPlace == P.inPlace f)) = true)
    (k11 : ((c.unfollowed == P.unfollowed f)) = true)
    (k12 : ((c.recurses == P.recurses f)) = true)
    (k13 : ((c.named == P.varsNamed f)) = true)
    (k14 : ((c.maps == (fn.params.toList ++ s.plain.varTypes P).any (P.mapsRec ·))) = true)
    (k15 : ((c.ifaces == (fn.params.toList ++ s.plain.varTypes P).any (P.ifacesRec ·))) = true)
    (k16 : ((c.mapsOut == P.mapsAmong fn.resultTypes.toList)) = true)
    (k17 : ((c.loops == (fn.params.toList ++ s.plain.varTypes P).any (P.loopsFrom ·))) = true)
    (k18 : ((c.wideKeys == (fn.params.toList ++ s.plain.varTypes P ++ fn.resultTypes.toList).any (P.wideKeysFrom ·))) = true)
    (k19 : (s.vars.all (P.varReadable ·)) = true)
    (k20 : (fn.resultTypes.all (fun t => P.readableRec t && decide (t < P.types.size))) = true)
    (k21 : ((c.ifacesOut == fn.resultTypes.toList.any (P.ifacesRec ·))) = true)
    (k22 : ((c.loopsOut == fn.resultTypes.toList.any (P.loopsFrom ·))) = true)
    (k23 : ((c.plainKeys == P.plainKeys)) = true)
    (k24 : (c.shortTexts.isNone) = true)
    (k25 : (P.stopsHeard) = true)
    (k26 : (P.mayEnter) = true)
    (k27 : ((c.lifted == P.liftsFinal)) = true)
    (k28 : ((P.make == some c.make)) = true)
    (k29 : ((c.kinds == (if c.domain.isEmpty then [] else fn.params.toList.map fun t => match P.underlying t with | some (.int k) => some k | _ => none))) = true)
    (k30 : ((c.pinned == c.pinnedBy)) = true)
    (k31 : ((c.veiled == (fn.params.toList ++ s.plain.varTypes P ++ fn.resultTypes.toList).any (P.veiledRec ·))) = true)
    (k32 : (c.veiledFits P fn.params.toList (fn.params.toList ++ s.plain.varTypes P ++ fn.resultTypes.toList)) = true) : joinedFacts P f fn s c = true := by
  have and2 : ∀ {a b : Bool}, a = true → b = true → (a && b) = true := fun h1 h2 => by rw [h1, h2]; rfl
  unfold joinedFacts
  exact and2 (and2 (and2 (and2 (and2 (and2 (and2 (and2 (and2 (and2 (and2 (and2 (and2 (and2 (and2 (and2 (and2 (and2 (and2 (and2 (and2 (and2 (and2 (and2 (and2 (and2 (and2 (and2 (and2 (and2 (and2 (k1) k2) k3) k4) k5) k6) k7) k8) k9) k10) k11) k12) k13) k14) k15) k16) k17) k18) k19) k20) k21) k22) k23) k24) k25) k26) k27) k28) k29) k30) k31) k32
end Go.AM
namespace Go.AM
open Go

/-- .. where no lane is a multiple of 128 -/
def LP : Nat := Nat.add LI (Nat.add 1 (Nat.pow 2 16384))
theorem ln_LP : ∀ j, j < 256 → ln j LP < 256 ∧ (j % 128 ≠ 0 → ln j LP = j) := by decide +kernel
/-- .. where each is one -/
def LQ : Nat := Nat.land LI (Nat.mul LO 128)
theorem ln_LQ : ∀ j, j < 256 → ln j LQ < 256 ∧ (j % 128 = 0 → ln j LQ = j) := by decide +kernel
/-- .. from 1 to 127 -/
def LA : Nat := Nat.add (Nat.land LI (Nat.mul LO 127)) (Nat.add 1 (Nat.pow 2 16384))
theorem ln_LA : ∀ j, j < 256 → ln j LA < 256 ∧ (0 < j → j < 128 → ln j LA = j) := by decide +kernel
/-- .. from 128 on -/
def LB : Nat := Nat.lor LI (Nat.mul LO 128)
theorem ln_LB : ∀ j, j < 256 → ln j LB < 256 ∧ (128 ≤ j → ln j LB = j) := by decide +kernel
end Go.AM
namespace Go.AM
open Go Go.RowKit Go.WideShapes

/-- what is handed in: a byte, and others -/
def XB (c : Nat) (u : List Value) : Nat → Value := fun n => if n = 65535 then .int .u8 (c : Int) else u.getD n (.bool false)
theorem XB_one {c : Nat} {u : List Value} (h : ∀ v ∈ u, v.oneCell' = true) : ∀ n, (XB c u n).oneCell' = true := by
  intro n
  unfold XB
  split
  · rfl
  · rw [List.getD_eq_getElem?_getD]
    cases hn : u[n]? with
    | none => rfl
    | some v => exact h v (List.mem_of_getElem? hn)
theorem lane_XB {c : Nat} {u : List Value} (hX : ∀ n, (XB c u n).oneCell' = true) (hc : c < 256) : (θ0 (XB c u) hX).lane = c := by
  have h : XB c u 65535 = .int .u8 (c : Int) := if_pos rfl
  show (xnat (XB c u 65535)).toNat % 256 = c
  rw [h]
  exact Nat.mod_eq_of_lt hc
theorem lane_toV {c L : Nat} {u : List Value} (hX : ∀ n, (XB c u n).oneCell' = true) (hc : c < 256) (h : ln c L = c) : toV (θ0 (XB c u) hX) (.l 4 L) = .int .u8 (c : Int) := by
  show lV 4 (ln _ L) = _
  rw [lane_XB hX hc, h]
  rfl
theorem lane_ok {θ : Th} {L : Nat} (h : ∀ j, j < 256 → ln j L < 256) : Ok θ (.l 4 L) := .inl ⟨by decide, h⟩
theorem ln_LI256 : ∀ j, j < 256 → ln j LI < 256 := fun j hj => by rw [ln_LI j hj]; exact hj
theorem val_i64 {P : Program} {w : World} {r : Reach} {b : Nat} {t : TypeId} {v : Value} {k : IntKind} (ht : P.underlying t = some (.int k)) (h : Value.okWide P w r b t v) : ∃ n, v = .int k n := okWide_int ht h
end Go.AM
