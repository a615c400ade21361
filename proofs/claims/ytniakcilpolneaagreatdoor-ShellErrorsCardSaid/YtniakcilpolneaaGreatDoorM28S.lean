/-
  What math/bits.TrailingZeros64 answers for 16, shown of the model. Conditions: none.
-/
import Derived.Test.YtniakcilpolneaaGreatDoorProg
import Derived.Test.YtniakcilpolneaaGreatDoorM28T
import Derived.Test.YtniakcilpolneaaGreatDoorAmSe
import Derived.WalkKit
import Derived.ProofKit
namespace Go.AM
open Go Go.Proofs Go.ChangeShapes Go.WideShapes Go.ChangeAt Go.RowKit
set_option maxHeartbeats 1000000
theorem tz_walk (w : World) (h : w.cell? ⟨7, 15, none⟩ = some (.int .u8 4)) :
    Calls Tryz.prog 292 #[.int .u64 16] w fun e w' => e = .returned (.int .i64 4) ∧ (w'.heap = w.heap ∧ w'.os = w.os ∧ w'.tape = w.tape ∧ w'.output = w.output) := by
  have hA : bits BinOp.and IntKind.u64 16 (IntKind.u64.wrap (-16)) = 16 := by decide +kernel
  have hB : IntKind.u64.wrap 4573923408821661840 = 4573923408821661840 := by decide +kernel
  go_enter Tryz.func292, Tryz.ntmps292
  go_wp2
  all_goals go_ret
  all_goals exact ⟨rfl, rfl, rfl, rfl, rfl⟩
theorem tz_ok : SpOk Tryz.prog 292 tzS := by
  intro w0 pd θ h nx w vs κ hR hv e
  cases vs with
  | nil => cases e
  | cons v vs => cases vs with
    | cons v' vs => cases v <;> cases e
    | nil => cases v <;> first | (cases e; done) | skip
             rename_i k n
             cases n with
             | negSucc m =>
               have e : (bif Nat.beq k 7 then false else false) = true := e
               cases hk : Nat.beq k 7 <;> rw [hk] at e <;> cases e
             | ofNat m =>
               have e : (bif Nat.beq k 7 then (bif Nat.beq m 16 then κ (.i 3 (.ofNat 4)) h nx else false) else false) = true := e
               cases hk : Nat.beq k 7 with
               | false => rw [hk] at e; cases e
               | true =>
                 cases hm : Nat.beq m 16 with
                 | false => rw [hk, hm] at e; cases e
                 | true =>
                   rw [hk, hm] at e
                   have e : κ (.i 3 (.ofNat 4)) h nx = true := e
                   have hk := Nat.eq_of_beq_eq_true hk
                   have hm := Nat.eq_of_beq_eq_true hm
                   subst hk hm
                   have hc : w.cell? ⟨7, 15, none⟩ = some (.int .u8 4) := hR.gloW 7 (by kernel_rfl)
                   refine (tz_walk w hc).mono fun r w' ⟨h1, h2, h3, h4, h5⟩ => ?_
                   exact ⟨.i 3 (.ofNat 4), .int .i64 4, θ, h, nx, h1, .refl θ, ⟨trivial, rfl⟩, hR.wider ⟨h3, h4, h5⟩ (by rw [h2]; exact Nat.le_refl _) (fun b _ => by rw [h2]), e⟩
theorem shsp292 : FOk Tryz.prog (292, .sp tzS) := by
  have h : (trF Tryz.prog 292).isSome = true := by kernel_rfl
  obtain ⟨u, hu⟩ := Option.isSome_iff_exists.1 h
  exact fOk_sp (by decide) hu tz_ok
end Go.AM
