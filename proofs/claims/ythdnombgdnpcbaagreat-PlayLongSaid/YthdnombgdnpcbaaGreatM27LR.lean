/-
  The runs of the law PlayLong. Conditions: none.
-/
import Derived.Test.YthdnombgdnpcbaaGreatM27LT
namespace Go.AM
open Go
set_option maxHeartbeats 0
set_option maxRecDepth 1000000
theorem pbr0 : goF pbT 2000000 3 [.xi 0 5 0 20] (fun v _ _ => match v with | .b c => c | _ => false) = true := by kernel_rfl
theorem pbr1 : goF pbT 2000000 3 [.xi 0 5 1 20] (fun v _ _ => match v with | .b c => c | _ => false) = true := by kernel_rfl
theorem pbr2 : goF pbT 2000000 3 [.xi 0 5 2 20] (fun v _ _ => match v with | .b c => c | _ => false) = true := by kernel_rfl
theorem pbr3 : goF pbT 2000000 3 [.xi 0 5 3 20] (fun v _ _ => match v with | .b c => c | _ => false) = true := by kernel_rfl
theorem pbr4 : goF pbT 2000000 3 [.xi 0 5 4 20] (fun v _ _ => match v with | .b c => c | _ => false) = true := by kernel_rfl
theorem pbr5 : goF pbT 2000000 3 [.xi 0 5 5 20] (fun v _ _ => match v with | .b c => c | _ => false) = true := by kernel_rfl
theorem pbr6 : goF pbT 2000000 3 [.xi 0 5 6 20] (fun v _ _ => match v with | .b c => c | _ => false) = true := by kernel_rfl
theorem pbr7 : goF pbT 2000000 3 [.xi 0 5 7 20] (fun v _ _ => match v with | .b c => c | _ => false) = true := by kernel_rfl
theorem pbr8 : goF pbT 2000000 3 [.xi 0 5 8 20] (fun v _ _ => match v with | .b c => c | _ => false) = true := by kernel_rfl
theorem pbr9 : goF pbT 2000000 3 [.xi 0 5 9 20] (fun v _ _ => match v with | .b c => c | _ => false) = true := by kernel_rfl
theorem pbr10 : goF pbT 2000000 3 [.xi 0 5 10 20] (fun v _ _ => match v with | .b c => c | _ => false) = true := by kernel_rfl
theorem pbr11 : goF pbT 2000000 3 [.xi 0 5 11 20] (fun v _ _ => match v with | .b c => c | _ => false) = true := by kernel_rfl
theorem pbr12 : goF pbT 2000000 3 [.xi 0 5 12 20] (fun v _ _ => match v with | .b c => c | _ => false) = true := by kernel_rfl
theorem pbr13 : goF pbT 2000000 3 [.xi 0 5 13 20] (fun v _ _ => match v with | .b c => c | _ => false) = true := by kernel_rfl
theorem pbr14 : goF pbT 2000000 3 [.xi 0 5 14 20] (fun v _ _ => match v with | .b c => c | _ => false) = true := by kernel_rfl
theorem pbr15 : goF pbT 2000000 3 [.xi 0 5 15 20] (fun v _ _ => match v with | .b c => c | _ => false) = true := by kernel_rfl
theorem pbr16 : goF pbT 2000000 3 [.xi 0 5 16 20] (fun v _ _ => match v with | .b c => c | _ => false) = true := by kernel_rfl
theorem pbr17 : goF pbT 2000000 3 [.xi 0 5 17 20] (fun v _ _ => match v with | .b c => c | _ => false) = true := by kernel_rfl
theorem pbr18 : goF pbT 2000000 3 [.xi 0 5 18 20] (fun v _ _ => match v with | .b c => c | _ => false) = true := by kernel_rfl
theorem pbr19 : goF pbT 2000000 3 [.xi 0 5 19 20] (fun v _ _ => match v with | .b c => c | _ => false) = true := by kernel_rfl
theorem pbrun (a : Nat) : goF pbT 2000000 3 [.xi 0 5 (a % 20) 20] (fun v _ _ => match v with | .b c => c | _ => false) = true := by
  have hr : a % 20 < 20 := Nat.mod_lt _ (by decide)
  generalize a % 20 = r at hr
  match r, hr with
  | 0, _ => exact pbr0
  | 1, _ => exact pbr1
  | 2, _ => exact pbr2
  | 3, _ => exact pbr3
  | 4, _ => exact pbr4
  | 5, _ => exact pbr5
  | 6, _ => exact pbr6
  | 7, _ => exact pbr7
  | 8, _ => exact pbr8
  | 9, _ => exact pbr9
  | 10, _ => exact pbr10
  | 11, _ => exact pbr11
  | 12, _ => exact pbr12
  | 13, _ => exact pbr13
  | 14, _ => exact pbr14
  | 15, _ => exact pbr15
  | 16, _ => exact pbr16
  | 17, _ => exact pbr17
  | 18, _ => exact pbr18
  | 19, _ => exact pbr19
  | r + 20, hr => omega
end Go.AM
