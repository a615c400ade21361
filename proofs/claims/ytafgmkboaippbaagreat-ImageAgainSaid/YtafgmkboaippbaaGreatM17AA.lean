/-
  The law ImageAgain's function answers true. Conditions: none.
-/
import Derived.Test.YtafgmkboaippbaaGreatM17AOO
import Derived.Test.YtafgmkboaippbaaGreatM17AP0
import Derived.Test.YtafgmkboaippbaaGreatM17AP3
import Derived.Test.YtafgmkboaippbaaGreatM17AP6
import Derived.Test.YtafgmkboaippbaaGreatM17AQ0
import Derived.Test.YtafgmkboaippbaaGreatM17AQ2
namespace Go.AM
open Go
set_option maxHeartbeats 0
set_option maxRecDepth 1000000
open Go.Proofs in
section
variable {w0 : World} {cs0 : List Frame}
theorem ag_mo : Tryz.prog.follows .mixedOrders = true := by kernel_rfl
theorem ag_X (r : Nat) : Sem Tryz.prog w0 cs0 3 r sX := last_ok iatb2 ag_mo apX1
theorem ag_L : ∀ k r, k + r = 13 → Sem Tryz.prog w0 cs0 3 r sL64
  | 0, r, h => by
    have h : r = 13 := by omega
    subst h
    exact told_ok (laE_ok 0) (by decide) sX_f (by decide) apX0 (ag_X 0)
  | k + 1, r, h => piece_ok iatb2 ag_mo (laS_ok (r := r) (by omega)) (by omega) sL74_f (by decide) apL0 (piece_ok iatb2 ag_mo (laD_ok (by omega)) (by omega) sL64_f (by decide) apL1 (ag_L k (r + 1) (by omega)))
theorem ag_T (r : Nat) : Sem Tryz.prog w0 cs0 3 r sT10 :=
  piece_ok (r' := 0) iatb2 ag_mo (laN_ok _ _) (by decide) sT19_f (by decide) apT1 <|
  piece_ok (r' := 0) iatb2 ag_mo (laN_ok _ _) (by decide) sT28_f (by decide) apT2 <|
  piece_ok (r' := 0) iatb2 ag_mo (laN_ok _ _) (by decide) sT37_f (by decide) apT3 <|
  piece_ok (r' := 0) iatb2 ag_mo (laN_ok _ _) (by decide) sT46_f (by decide) apT4 <|
  piece_ok (r' := 0) iatb2 ag_mo (laN_ok _ _) (by decide) sT55_f (by decide) apT5 <|
  piece_ok (r' := 0) iatb2 ag_mo (laI_ok _) (by decide) sL64_f (by decide) apT6 (ag_L 13 0 rfl)
theorem ag_F (r : Nat) : Sem Tryz.prog w0 cs0 3 r sF70 :=
  piece_ok (r' := 0) iatb2 ag_mo (laN_ok _ _) (by decide) sF140_f (by decide) aqF1 <|
  piece_ok (r' := 0) iatb2 ag_mo (laN_ok _ _) (by decide) sF210_f (by decide) aqF2 (last_ok iatb2 ag_mo aqF3)
end
open Go.Proofs in
theorem ag_run (w : World) (n : Nat) (hn : n < 256) (b : Bool) : Calls Tryz.prog 3 #[.int .u8 n, .bool b] w fun r w' => r = .returned (.bool true) ∧ w'.os = w.os ∧ w'.tape = w.tape ∧ w'.output = w.output ∧ w.heap.size ≤ w'.heap.size ∧ ∀ b, b < w.heap.size → w'.heap[b]? = w.heap[b]? := by
  have hX : ∀ i : Nat, ((fun _ => .int .u8 (n : Int) : Nat → Value) i).oneCell' = true := fun _ => rfl
  have hv : ∀ b : Bool, Oks (θ0 _ hX) [.xi 0 14 0 1, .b b] := fun b => ⟨xo_ok (by decide) n rfl hn (by decide), trivial, trivial⟩
  cases b with
  | true => exact go_told (r' := 0) iatb2 ag_mo hX (hv true) (laN_ok _ _) (by decide) sT10_f (by decide) apT0 (fun _ _ => ag_T 0) w
  | false => exact go_told (r' := 0) iatb2 ag_mo hX (hv false) (laN_ok _ _) (by decide) sF70_f (by decide) aqF0 (fun _ _ => ag_F 0) w
end Go.AM
