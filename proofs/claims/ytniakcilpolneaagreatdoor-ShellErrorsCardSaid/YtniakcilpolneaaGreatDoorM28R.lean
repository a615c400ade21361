/-
  The runs of the law ShellErrors. Conditions: none.
-/
import Derived.Test.YtniakcilpolneaaGreatDoorM28T2
namespace Go.AM
open Go
set_option maxHeartbeats 0
set_option maxRecDepth 1000000
theorem shr0 : goF shT2 2000000 3 [.xi 0 4 0 22] (fun v _ _ => match v with | .b c => c | _ => false) = true := by kernel_rfl
theorem shr1 : goF shT2 2000000 3 [.xi 0 4 1 22] (fun v _ _ => match v with | .b c => c | _ => false) = true := by kernel_rfl
theorem shr2 : goF shT2 2000000 3 [.xi 0 4 2 22] (fun v _ _ => match v with | .b c => c | _ => false) = true := by kernel_rfl
theorem shr3 : goF shT2 2000000 3 [.xi 0 4 3 22] (fun v _ _ => match v with | .b c => c | _ => false) = true := by kernel_rfl
theorem shr4 : goF shT2 2000000 3 [.xi 0 4 4 22] (fun v _ _ => match v with | .b c => c | _ => false) = true := by kernel_rfl
theorem shr5 : goF shT2 2000000 3 [.xi 0 4 5 22] (fun v _ _ => match v with | .b c => c | _ => false) = true := by kernel_rfl
theorem shr6 : goF shT2 2000000 3 [.xi 0 4 6 22] (fun v _ _ => match v with | .b c => c | _ => false) = true := by kernel_rfl
theorem shr7 : goF shT2 2000000 3 [.xi 0 4 7 22] (fun v _ _ => match v with | .b c => c | _ => false) = true := by kernel_rfl
theorem shr8 : goF shT2 2000000 3 [.xi 0 4 8 22] (fun v _ _ => match v with | .b c => c | _ => false) = true := by kernel_rfl
theorem shr9 : goF shT2 2000000 3 [.xi 0 4 9 22] (fun v _ _ => match v with | .b c => c | _ => false) = true := by kernel_rfl
theorem shr10 : goF shT2 2000000 3 [.xi 0 4 10 22] (fun v _ _ => match v with | .b c => c | _ => false) = true := by kernel_rfl
theorem shr11 : goF shT2 2000000 3 [.xi 0 4 11 22] (fun v _ _ => match v with | .b c => c | _ => false) = true := by kernel_rfl
theorem shr12 : goF shT2 2000000 3 [.xi 0 4 12 22] (fun v _ _ => match v with | .b c => c | _ => false) = true := by kernel_rfl
theorem shr13 : goF shT2 2000000 3 [.xi 0 4 13 22] (fun v _ _ => match v with | .b c => c | _ => false) = true := by kernel_rfl
theorem shr14 : goF shT2 2000000 3 [.xi 0 4 14 22] (fun v _ _ => match v with | .b c => c | _ => false) = true := by kernel_rfl
theorem shr15 : goF shT2 2000000 3 [.xi 0 4 15 22] (fun v _ _ => match v with | .b c => c | _ => false) = true := by kernel_rfl
theorem shr16 : goF shT2 2000000 3 [.xi 0 4 16 22] (fun v _ _ => match v with | .b c => c | _ => false) = true := by kernel_rfl
theorem shr17 : goF shT2 2000000 3 [.xi 0 4 17 22] (fun v _ _ => match v with | .b c => c | _ => false) = true := by kernel_rfl
theorem shr18 : goF shT2 2000000 3 [.xi 0 4 18 22] (fun v _ _ => match v with | .b c => c | _ => false) = true := by kernel_rfl
theorem shr19 : goF shT2 2000000 3 [.xi 0 4 19 22] (fun v _ _ => match v with | .b c => c | _ => false) = true := by kernel_rfl
theorem shr20 : goF shT2 2000000 3 [.xi 0 4 20 22] (fun v _ _ => match v with | .b c => c | _ => false) = true := by kernel_rfl
theorem shr21 : goF shT2 2000000 3 [.xi 0 4 21 22] (fun v _ _ => match v with | .b c => c | _ => false) = true := by kernel_rfl
theorem shrun (a : Nat) : goF shT2 2000000 3 [.xi 0 4 (a % 22) 22] (fun v _ _ => match v with | .b c => c | _ => false) = true := by
  have hr : a % 22 < 22 := Nat.mod_lt _ (by decide)
  generalize a % 22 = r at hr
  match r, hr with
  | 0, _ => exact shr0
  | 1, _ => exact shr1
  | 2, _ => exact shr2
  | 3, _ => exact shr3
  | 4, _ => exact shr4
  | 5, _ => exact shr5
  | 6, _ => exact shr6
  | 7, _ => exact shr7
  | 8, _ => exact shr8
  | 9, _ => exact shr9
  | 10, _ => exact shr10
  | 11, _ => exact shr11
  | 12, _ => exact shr12
  | 13, _ => exact shr13
  | 14, _ => exact shr14
  | 15, _ => exact shr15
  | 16, _ => exact shr16
  | 17, _ => exact shr17
  | 18, _ => exact shr18
  | 19, _ => exact shr19
  | 20, _ => exact shr20
  | 21, _ => exact shr21
  | r + 22, hr => omega
end Go.AM
