/-
  The law CarryNil: of no images nothing is taken out; into none nothing is brought. Conditions: none.
-/
import Derived.Test.YtoonigafkkgeeaaGreatRows
import Derived.WalkKit
import Derived.ProofKit
import Derived.OpenShut
import Derived.JoinedCond
import Derived.Test.YtoonigafkkgeeaaGreatAmZc
import Derived.Test.YtoonigafkkgeeaaGreatM20O
import Derived.Test.YtoonigafkkgeeaaGreatM20R
namespace Go.Proofs.YtoonigafkkgeeaaGreat.carryNil
open Go.ChangeShapes Go.WideShapes Go.ChangeAt Go.RowKit

theorem own : ownKnob Tryz.prog.godebug = none := by kernel_rfl
theorem laid : laidOutB Tryz.prog = true := by kernel_rfl
theorem one_arg {args : Array Value} (h1 : args.size = 1) {h2} : (AM.toVs (AM.θ0 (fun _ => args.getD 0 undef) h2) [.x 0]).toArray = args := by
  obtain ⟨l⟩ := args
  match l, h1 with
  | [v], _ => rfl
theorem run (W : World) (args : Array Value) (h1 : args.size = 1) (h2 : (args.getD 0 undef).oneCell' = true) :
    Calls Tryz.prog 3 args W fun r w' => r = .returned (.bool true) ∧ w'.os = W.os ∧ w'.tape = W.tape ∧ w'.output = W.output ∧ W.heap.size ≤ w'.heap.size ∧ ∀ b, b < W.heap.size → w'.heap[b]? = W.heap[b]? := by
  have := AM.go_true (P := Tryz.prog) AM.m20ftb (by kernel_rfl) (vs := [.x 0]) (X := fun _ => args.getD 0 undef) (fun _ => h2) ⟨trivial, trivial⟩ AM.m20run W
  rwa [one_arg h1] at this
theorem spec (H : Type) (ds : List (DataW H)) (h : ds.length = Tryz.f3.params.size) : Rows.carryNilSpec.fn H ds = { results := [.lit (.bool true)], args := ds } := by
  have h1 : ds.length = 1 := h
  obtain ⟨d0, ds0, rfl⟩ : ∃ d r, ds = d :: r := by cases ds with | nil => simp at h1 | cons d r => exact ⟨d, r, rfl⟩
  have h2 : ds0 = [] := by cases ds0 with | nil => rfl | cons d r => simp at h1
  subst h2
  rfl
theorem rt : Tryz.f3.resultTypes = #[4] := by kernel_rfl
theorem bt : Tryz.prog.underlying 4 = some .bool := by kernel_rfl
theorem ck : AM.argsCk Tryz.prog Tryz.f3.params.toList = true := by kernel_rfl
theorem p0 : Tryz.f3.params[0]? = some 22 := by kernel_rfl
theorem u22 : Tryz.prog.underlying 22 = some (.slice 5) := by kernel_rfl
theorem sl {t : TypeId} (h : Tryz.f3.params[0]? = some t) : Tryz.prog.underlying t = some (.slice 5) := by
  rw [← Option.some.inj (p0.symm.trans h)]
  exact u22
theorem nv : Rows.carryNilSpec.vars = [] := by kernel_rfl
theorem one_val {args : Array Value} (hs : args.size = 1) (hval : ∀ v, args[0]? = some v → v.oneCell' = true) : (args.getD 0 undef).oneCell' = true := by
  obtain ⟨l⟩ := args
  match l, hs with
  | [v], _ => exact hval v rfl
set_option maxRecDepth 100000
theorem lifted (os : Os) (started : os.Started) (H : Type) (enc : TypeId × Value → H) :
    ReturnsInHanded {} Tryz.checked os 3 .any (Rows.carryNilSpec.pre6 enc Tryz.prog Tryz.f3 Rows.carryNilRow.domain false) (Rows.carryNilSpec.post enc Tryz.prog Tryz.f3 false true false false) := by
  refine returnsInHanded_of_change (C := Tryz.checked) own started (by kernel_rfl) Tryz.func3
    (ChangeSpec.witness6 (enc := enc) (C := Tryz.checked) false ⟨#[], #[.slice none 0 0], []⟩ 8 (by kernel_rfl) (by kernel_rfl) (by kernel_rfl) (by kernel_rfl)) ?_
  intro W base args ds gs before hval hW _ _
  refine AM.law_calls (P := Tryz.prog) (f := 3) (fn := Tryz.f3) (s := Rows.carryNilSpec) (tb := 4) rt bt laid ck nv (spec H) (fun hs => ?_) hW
  refine run W args hs (one_val hs fun v hv => ?_)
  obtain ⟨a, n, c, rfl⟩ := okWide_slice (e := 5) (sl rfl) (hval 0 _ v rfl hv)
  rfl
theorem over : Rows.carryNilRow.holds Tryz.pinned (OpenSpec.ofChange Rows.carryNilSpec) :=
  OpenClaim.holds_of_wide 3 Tryz.f3 rfl rfl rfl rfl rfl rfl rfl ⟨rfl, rfl, rfl, rfl, rfl⟩ rfl rfl rfl rfl rfl (by kernel_rfl) Tryz.func3 (by kernel_rfl)
    (of_decide_eq_true (by kernel_rfl)) (by unfold Func.isWrapper; first | (rw [if_pos (by decide +kernel)]; kernel_rfl) | (rw [if_neg (by decide +kernel)]; exact ⟨rfl, rfl⟩))
    (fun os started H enc _ => lifted os started H enc)
end Go.Proofs.YtoonigafkkgeeaaGreat.carryNil
namespace Go.Proofs.YtoonigafkkgeeaaGreat
theorem carryNil_holds : Rows.CarryNilSaid := carryNil.over
end Go.Proofs.YtoonigafkkgeeaaGreat
