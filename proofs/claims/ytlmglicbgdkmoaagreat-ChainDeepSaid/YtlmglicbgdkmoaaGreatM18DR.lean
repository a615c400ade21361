/-
  The runs of the law ChainDeep. Conditions: none.
-/
import Derived.Test.YtlmglicbgdkmoaaGreatM18DF
import Derived.Test.YtlmglicbgdkmoaaGreatAmZd
namespace Go.AM
open Go
set_option maxHeartbeats 0
set_option maxRecDepth 1000000
theorem mcr0 : allLt 1 (fun j => goF mcT 100000 5 [.xi 0 4 0 12, .xi 1 4 j 1] (fun v _ _ => match v with | .b c => c | _ => false)) = true := by kernel_rfl
theorem mcr1 : allLt 2 (fun j => goF mcT 100000 5 [.xi 0 4 1 12, .xi 1 4 j 2] (fun v _ _ => match v with | .b c => c | _ => false)) = true := by kernel_rfl
theorem mcr2 : allLt 3 (fun j => goF mcT 100000 5 [.xi 0 4 2 12, .xi 1 4 j 3] (fun v _ _ => match v with | .b c => c | _ => false)) = true := by kernel_rfl
theorem mcr3 : allLt 4 (fun j => goF mcT 100000 5 [.xi 0 4 3 12, .xi 1 4 j 4] (fun v _ _ => match v with | .b c => c | _ => false)) = true := by kernel_rfl
theorem mcr4 : allLt 5 (fun j => goF mcT 100000 5 [.xi 0 4 4 12, .xi 1 4 j 5] (fun v _ _ => match v with | .b c => c | _ => false)) = true := by kernel_rfl
theorem mcr5 : allLt 6 (fun j => goF mcT 100000 5 [.xi 0 4 5 12, .xi 1 4 j 6] (fun v _ _ => match v with | .b c => c | _ => false)) = true := by kernel_rfl
theorem mcr6 : allLt 7 (fun j => goF mcT 100000 5 [.xi 0 4 6 12, .xi 1 4 j 7] (fun v _ _ => match v with | .b c => c | _ => false)) = true := by kernel_rfl
theorem mcr7 : allLt 8 (fun j => goF mcT 100000 5 [.xi 0 4 7 12, .xi 1 4 j 8] (fun v _ _ => match v with | .b c => c | _ => false)) = true := by kernel_rfl
theorem mcr8 : allLt 9 (fun j => goF mcT 100000 5 [.xi 0 4 8 12, .xi 1 4 j 9] (fun v _ _ => match v with | .b c => c | _ => false)) = true := by kernel_rfl
theorem mcr9 : allLt 10 (fun j => goF mcT 100000 5 [.xi 0 4 9 12, .xi 1 4 j 10] (fun v _ _ => match v with | .b c => c | _ => false)) = true := by kernel_rfl
theorem mcr10 : allLt 11 (fun j => goF mcT 100000 5 [.xi 0 4 10 12, .xi 1 4 j 11] (fun v _ _ => match v with | .b c => c | _ => false)) = true := by kernel_rfl
theorem mcr11 : allLt 12 (fun j => goF mcT 100000 5 [.xi 0 4 11 12, .xi 1 4 j 12] (fun v _ _ => match v with | .b c => c | _ => false)) = true := by kernel_rfl
theorem mcrun (a b : Nat) : goF mcT 100000 5 [.xi 0 4 (a % 12) 12, .xi 1 4 (b % (1 + a % 12)) (1 + a % 12)] (fun v _ _ => match v with | .b c => c | _ => false) = true := by
  rw [Nat.add_comm 1]
  have hl : b % (a % 12 + 1) < a % 12 + 1 := Nat.mod_lt _ (Nat.succ_pos _)
  have hr : a % 12 < 12 := Nat.mod_lt _ (by decide)
  generalize b % (a % 12 + 1) = j at hl
  generalize a % 12 = r at hr hl
  match r, hr, hl with
  | 0, _, hl => exact allLt_true mcr0 j hl
  | 1, _, hl => exact allLt_true mcr1 j hl
  | 2, _, hl => exact allLt_true mcr2 j hl
  | 3, _, hl => exact allLt_true mcr3 j hl
  | 4, _, hl => exact allLt_true mcr4 j hl
  | 5, _, hl => exact allLt_true mcr5 j hl
  | 6, _, hl => exact allLt_true mcr6 j hl
  | 7, _, hl => exact allLt_true mcr7 j hl
  | 8, _, hl => exact allLt_true mcr8 j hl
  | 9, _, hl => exact allLt_true mcr9 j hl
  | 10, _, hl => exact allLt_true mcr10 j hl
  | 11, _, hl => exact allLt_true mcr11 j hl
  | r + 12, hr, _ => omega
end Go.AM
